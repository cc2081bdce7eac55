/- Contracts of the draws' cursor: l01New, l01Byte, l43New, MakeNum: only the range of what they give is said. -/
import Derived.Test.YtjkabbkaeioibaaMark
import Derived.Deep.QuietTactic
import Derived.BigQuiet
import Derived.IntWalk
namespace Go.Proofs.Ytjkabbkaeioibaa
open Go.RowKit

theorem and_range (y : Int) (m : Nat) (hm : m < 2147483648) : 0 ≤ bits .and .i64 y (m : Int) ∧ bits .and .i64 y (m : Int) ≤ (m : Int) := by
  have h1 : (BitVec.ofInt 64 y &&& BitVec.ofInt 64 (m : Int)).toNat ≤ m := by
    rw [BitVec.toNat_and]
    have : (BitVec.ofInt 64 (m : Int)).toNat = m := by
      rw [BitVec.ofInt_natCast, BitVec.toNat_ofNat]
      exact Nat.mod_eq_of_lt (by omega)
    rw [this]
    exact Nat.and_le_right
  have h2 : bits .and .i64 y (m : Int) = ((BitVec.ofInt 64 y &&& BitVec.ofInt 64 (m : Int)).toNat : Int) := by
    show IntKind.i64.wrap ((BitVec.ofInt 64 y &&& BitVec.ofInt 64 (m : Int)).toNat : Int) = _
    exact IntWalk.i64_in _ (by omega)
  rw [h2]; omega

/-- a slice of bytes -/
def Bytes (w : World) (a : Option Addr) (l : Nat) : Prop := ∃ b o, (0 < l → a = some ⟨b, o, none⟩ ∧ b < w.heap.size) ∧ ∀ j, j < l → ∃ n : Int, 0 ≤ n ∧ n ≤ 255 ∧ w.cell? ⟨b, o + j, none⟩ = some (.int .u8 n)
theorem Bytes_below {w w' : World} {a : Option Addr} {l : Nat} (h : Bytes w a l) (hb : Below w.heap.size w w') : Bytes w' a l := by
  obtain ⟨b, o, h1, h2⟩ := h
  refine ⟨b, o, fun hp => ⟨(h1 hp).1, Nat.lt_of_lt_of_le (h1 hp).2 hb.size⟩, fun j hj => ?_⟩
  obtain ⟨n, h3, h4, h5⟩ := h2 j hj
  exact ⟨n, h3, h4, by rw [hb.cell (p := ⟨b, o + j, none⟩) (cell_lt h5)]; exact h5⟩

/-- the cursor over the bytes lies in block B, which is new since w0 -/
def CurAt (w0 w : World) (B : Nat) (a : Option Addr) (l cap : Nat) : Prop :=
  ∃ (i : Nat) (h : Int), i ≤ l ∧ w.heap[B]? = some (.cells #[.slice a l cap, .int .i64 i, .int .i64 h] 82 (0, 0)) ∧ w0.heap.size ≤ B ∧ Below w0.heap.size w0 w ∧ Bytes w0 a l

def ByteP (w0 w : World) (B : Nat) (a : Option Addr) (l cap : Nat) (e : Ending) (w' : World) : Prop :=
  ∃ x : Int, 0 ≤ x ∧ x ≤ 255 ∧ e = .returned (.int .i64 x) ∧ CurAt w0 w' B a l cap ∧ Wrote [B] w w'

theorem heap_set3 {w : World} {b T o : Nat} {x0 x1 x2 : Value} {fz : Nat × Nat} (v : Value) (h : w.heap[b]? = some (.cells #[x0, x1, x2] T fz)) : (w.setCell ⟨b, o, none⟩ v).heap[b]? = some (.cells (#[x0, x1, x2].setIfInBounds o v) T fz) := heap_set v h

theorem CurAt_end {w0 w w' : World} {B : Nat} {a : Option Addr} {l cap : Nat} (hB : w0.heap.size ≤ B) (hbel : Below w0.heap.size w0 w) (hby : Bytes w0 a l) {i : Nat} {h : Int} (hi : i ≤ l)
    (hbox : w'.heap[B]? = some (.cells #[.slice a l cap, .int .i64 i, .int .i64 h] 82 (0, 0))) (hw : Wrote [B] w w') : CurAt w0 w' B a l cap ∧ Wrote [B] w w' :=
  ⟨⟨i, h, hi, hbox, hB, hbel.trans (hw.below (fun x hx => by simp at hx; omega) hbel.size), hby⟩, hw⟩

set_option maxHeartbeats 1000000 in
set_option maxRecDepth 100000 in
theorem l01Byte_any (w0 w : World) (B : Nat) (a : Option Addr) (l cap : Nat) (hc : CurAt w0 w B a l cap) (hl : l ≤ 1000000000) :
    Calls Try.prog 55 #[.pointer (some ⟨B, 0, none⟩)] w (ByteP w0 w B a l cap) := by
  obtain ⟨i, h, hil, hbox, hB, hbel, hby⟩ := hc
  have q0 : w.cell? ⟨B, 0, none⟩ = some (.slice a l cap) := by simpa using cell_of_block hbox 0
  have q1 : w.cell? ⟨B, 1, none⟩ = some (.int .i64 i) := by simpa using cell_of_block hbox 1
  have q2 : w.cell? ⟨B, 2, none⟩ = some (.int .i64 h) := by simpa using cell_of_block hbox 2
  have qf := frozen_of_block hbox
  have HBOX := Lib.hid hbox; clear hbox
  by_cases hlt : i < l
  · obtain ⟨b, o, hb1, hb2⟩ := hby
    obtain ⟨rfl, hblt⟩ := hb1 (by omega)
    obtain ⟨n, hn0, hn1, hcell⟩ := hb2 i hlt
    rw [← hbel.cell (p := ⟨b, o + i, none⟩) hblt] at hcell
    have hbB : b ≠ B := by omega
    have HBY : Hid (Bytes w0 (some ⟨b, o, none⟩) l) := ⟨b, o, hb1, hb2⟩
    clear hb1 hb2
    go_enter Try.func55, Try.ntmps55
    go_wp2
    generalize wrap64 (wrap64 (h * 6364136223846793005) + 1442695040888963407) = h2
    go_quiet (fail)
    go_wp2
    generalize hx : bits BinOp.and IntKind.i64 (bits BinOp.xor IntKind.i64 (h2 / 8589934592) (h2 / 35184372088832)) 255 = x
    have hxr : 0 ≤ x ∧ x ≤ 255 := by rw [← hx]; exact and_range _ 255 (by omega)
    have hx0 := hxr.1
    have hx1 := hxr.2
    clear hx hxr
    go_quiet (fail)
    go_wp2
    go_quiet (fail)
    go_wp2
    generalize hy : bits BinOp.and IntKind.i64 (x + n) 255 = y
    have hyr : 0 ≤ y ∧ y ≤ 255 := by rw [← hy]; exact and_range _ 255 (by omega)
    go_ret
    refine ⟨y, hyr.1, hyr.2, rfl, CurAt_end hB hbel HBY.out (i := i + 1) (h := h2) (by omega) ?_ ?_⟩
    · have h0 := heap_set (o := 2) (.int .i64 h2) HBOX.out
      have h1 : ∀ k, ((w.setCell ⟨B, 2, none⟩ (.int .i64 h2)).drewN k).heap[B]? = some (.cells (#[.slice (some ⟨b, o, none⟩) l cap, .int .i64 i, .int .i64 h].setIfInBounds 2 (.int .i64 h2)) 82 (0, 0)) := fun k => h0
      refine (heap_set (o := 1) _ (h1 _)).trans ?_
      simp
    · exact ⟨rfl, rfl, rfl, by simp [World.setCell], fun z _ hz => by
        have hz' : z ≠ B := by simpa using hz
        rw [heap_set_other _ hz']; exact heap_set_other _ hz', fun z hz => by
        by_cases hzB : z = B
        · subst hzB; exact ⟨_, _, heap_set _ (heap_set _ HBOX.out)⟩
        · rw [heap_set_other _ hzB]; obtain ⟨cs, T, h'⟩ := hz; exact ⟨cs, T, (heap_set_other _ hzB).trans h'⟩⟩
  · obtain rfl : i = l := by omega
    have HBY := Lib.hid hby; clear hby
    have d1 : decide ((i : Int) < (i : Int)) = false := by simp
    have d2 : decide (i < i) = false := by simp
    go_enter Try.func55, Try.ntmps55
    go_wp2
    generalize wrap64 (wrap64 (h * 6364136223846793005) + 1442695040888963407) = h2
    go_quiet (fail)
    go_wp2
    generalize hx : bits BinOp.and IntKind.i64 (bits BinOp.xor IntKind.i64 (h2 / 8589934592) (h2 / 35184372088832)) 255 = x
    have hxr : 0 ≤ x ∧ x ≤ 255 := by rw [← hx]; exact and_range _ 255 (by omega)
    clear hx
    go_quiet (fail)
    go_wp2
    go_ret
    refine ⟨x, hxr.1, hxr.2, rfl, CurAt_end hB hbel HBY.out (i := i) (h := h2) (by omega) ?_ ?_⟩
    · have := heap_set (o := 2) (.int .i64 h2) HBOX.out
      simpa using this
    · exact ⟨rfl, rfl, rfl, by simp [World.setCell], fun z _ hz => by
        have hz' : z ≠ B := by simpa using hz
        exact heap_set_other _ hz', fun z hz => by
        by_cases hzB : z = B
        · subst hzB; exact ⟨_, _, heap_set _ HBOX.out⟩
        · obtain ⟨cs, T, h'⟩ := hz; exact ⟨cs, T, (heap_set_other _ hzB).trans h'⟩⟩

def NewP (w : World) (a : Option Addr) (l cap : Nat) (e : Ending) (w' : World) : Prop :=
  ∃ B, e = .returned (.pointer (some ⟨B, 0, none⟩)) ∧ CurAt w w' B a l cap

set_option maxHeartbeats 1000000 in
set_option maxRecDepth 100000 in
theorem l01New_any (w : World) (a : Option Addr) (l cap : Nat) (hby : Bytes w a l) (hl : l ≤ 1000000000) :
    Calls Try.prog 76 #[.slice a l cap] w (NewP w a l cap) := by
  obtain ⟨b, o, hb1, hb2⟩ := hby
  have HB1 := Lib.hid hb1; have HB2 := Lib.hid hb2
  clear hb1 hb2
  go_enter Try.func76, Try.ntmps76
  go_wp2
  go_loop [3, 4] (fun hv iv => ∃ (i : Nat) (h : Int), iv = .int .i64 i ∧ hv = .int .i64 h ∧ i ≤ l) (fun _ iv => l - (intOf iv).toNat)
  case atStart => exact ⟨0, _, rfl, rfl, by omega⟩
  case round =>
    obtain ⟨i, h, rfl, rfl, hi⟩ := hrel
    by_cases hgo : i < l ∧ i < 4000
    · obtain ⟨hil, hi4⟩ := hgo
      obtain ⟨rfl, hblt⟩ := HB1.out (by omega)
      obtain ⟨n, hn0, hn1, hcell⟩ := HB2.out i hil
      go_wp2
      go_round
      case rel => exact ⟨i + 1, _, by go_num, rfl, by omega⟩
      case measure => simp [intOf]; omega
    · have HBY : Hid (Bytes w a l) := ⟨b, o, HB1.out, HB2.out⟩
      by_cases hil : i < l
      · have hi4 : ¬ (i : Int) < 4000 := by omega
        have d4 : decide ((i : Int) < 4000) = false := by simp; omega
        have d5 : decide (i < 4000) = false := by simp; omega
        clear hgo
        go_wp2
        go_ret
        refine ⟨w.heap.size, rfl, 0, h, by omega, heap_new rfl, Nat.le_refl _, (Below.refl _ _).alloc (Nat.le_refl _) _, HBY.out⟩
      · have d4 : decide ((i : Int) < (l : Int)) = false := by simp; omega
        have d5 : decide (i < l) = false := by simp; omega
        clear hgo
        go_wp2
        go_ret
        refine ⟨w.heap.size, rfl, 0, h, by omega, heap_new rfl, Nat.le_refl _, (Below.refl _ _).alloc (Nat.le_refl _) _, HBY.out⟩

set_option maxHeartbeats 1000000 in
set_option maxRecDepth 100000 in
theorem l43New_any (w : World) (a : Option Addr) (l cap n : Nat) (hby : Bytes w a l) (hl : l ≤ 1000000000) (hn : n ≤ 1000000) :
    Calls Try.prog 54 #[.slice a l cap, .int .i64 n] w (NewP w a l cap) := by
  go_enter Try.func54, Try.ntmps54
  go_wp2_with fail
  refine (l01New_any w a l cap hby hl).mono ?_
  rintro e w1 ⟨B, rfl, hcur⟩
  go_wp2_with fail
  go_loopw [6] (fun iv wr => ∃ i : Nat, iv = .int .i64 i ∧ i ≤ n ∧ CurAt w wr B a l cap) (fun iv _ => n - (intOf iv).toNat)
  case atStart => exact ⟨0, rfl, by omega, hcur⟩
  case round =>
    obtain ⟨i, rfl, hi, hcur'⟩ := hrel
    by_cases hin : i < n
    · go_wp2_with fail
      refine (l01Byte_any w wr B a l cap hcur' hl).mono ?_
      rintro e w2 ⟨x, hx0, hx1, rfl, hcur2, hwr⟩
      go_wp2
      go_roundw
      case rel => exact ⟨i + 1, by go_num, by omega, hcur2⟩
      case measure => simp [intOf]; omega
    · go_wp2
      go_ret
      exact ⟨B, rfl, hcur'⟩

def NumP (w : World) (e : Ending) (w' : World) : Prop := ∃ x : Int, 0 ≤ x ∧ x ≤ 65535 ∧ e = .returned (.int .i64 x) ∧ Below w.heap.size w w'

set_option maxHeartbeats 1000000 in
set_option maxRecDepth 100000 in
theorem MakeNum_any (w : World) (a : Option Addr) (l cap n : Nat) (hby : Bytes w a l) (hl : l ≤ 1000000000) (hn : n ≤ 1000000) :
    Calls Try.prog 28 #[.slice a l cap, .int .i64 n] w (NumP w) := by
  go_enter Try.func28, Try.ntmps28
  go_wp2_with fail
  refine (l43New_any w a l cap n hby hl hn).mono ?_
  rintro e w1 ⟨B, rfl, hcur⟩
  go_wp2_with fail
  refine (l01Byte_any w w1 B a l cap hcur hl).mono ?_
  rintro e w2 ⟨x, hx0, hx1, rfl, hcur2, _⟩
  go_wp2_with fail
  refine (l01Byte_any w w2 B a l cap hcur2 hl).mono ?_
  rintro e w3 ⟨y, hy0, hy1, rfl, hcur3, _⟩
  go_wp2
  go_ret
  obtain ⟨_, _, _, _, _, hbel, _⟩ := hcur3
  exact ⟨x * 256 + y, by omega, by omega, rfl, hbel⟩
end Go.Proofs.Ytjkabbkaeioibaa
