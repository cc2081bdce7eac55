/- Contracts of the program's IsGround. -/
import Derived.Test.YtjkabbkaeioibaaEvalDefs
namespace Go.Proofs.Ytjkabbkaeioibaa
open Go.RowKit

/-- no variable -/
def Tm.ground : Tm → Bool
  | .mk _ _ _ [x, y] => x.ground && y.ground
  | .mk k _ _ _ => k != 1
theorem ground_atom {k n : Int} {s : ByteArray} : (Tm.mk k n s []).ground = (k != 1) := rfl
theorem ground_pair {k n : Int} {s : ByteArray} {x y : Tm} : (Tm.mk k n s [x, y]).ground = (x.ground && y.ground) := by rw [Tm.ground]

theorem isGround1_any (n : Int) (Bb : Nat) (b : Bool) (w : World) (hb : w.heap[Bb]? = some (.cells #[.bool b] 4 (0, 0))) :
    Calls Try.prog 110 #[.int .i64 n, .pointer (some ⟨Bb, 0, none⟩)] w fun e w' => (∃ v, e = .returned v) ∧ w' = w.setCell ⟨Bb, 0, none⟩ (.bool false) := by
  have h0 : w.cell? ⟨Bb, 0, none⟩ = some (.bool b) := by simpa using cell_of_block hb 0
  have hf := frozen_of_block hb
  clear hb
  go_enter Try.func110, Try.ntmps110
  go_wp2
  go_end0
  exact ⟨⟨_, rfl⟩, rfl⟩

def EachT (t : Tm) : Prop := ∀ (k n : Int) (s : ByteArray) (xs : List Tm) (a : Option Addr) (l c : Nat) (F : List Nat) (Bb : Nat) (b : Bool) (w : World), t = .mk k n s xs → RdS w xs a l c F → t.wf = true → Bb ∉ F → w.heap[Bb]? = some (.cells #[.bool b] 4 (0, 0)) →
  Calls Try.prog 109 #[.agg #[.int .i64 k, .int .i64 n, .string s, .slice a l c], .func (.func 110) #[] #[.pointer (some ⟨Bb, 0, none⟩)]] w
    fun e w' => (∃ v, e = .returned v) ∧ w.grownBy w' (some Bb) ∧ w'.heap[Bb]? = some (.cells #[.bool (b && t.ground)] 4 (0, 0))

set_option maxHeartbeats 2000000 in
set_option maxRecDepth 100000 in
theorem each_all (t : Tm) : EachT t := by
  induction t using Tm.ind with
  | h k0 n0 s0 xs0 ih =>
    intro k n s xs a l c F Bb b w ht h hw hBF hbb
    cases ht
    have hBl := heap_lt hbb
    have hbA : ∀ o, Below w.heap.size w (w.alloc o) := fun o => (Below.refl _ _).alloc (Nat.le_refl _) o
    have HBA := Lib.hid hbA; clear hbA
    rcases wf_split hw with ⟨hk, rfl⟩ | ⟨rfl, rfl, hs0, x1, y1, rfl, hx1, hy1⟩
    · have hk' : (k0 == 4) = false := by simpa using hk
      by_cases hk1 : k0 = 1
      · subst hk1
        have HBB := Lib.hid hbb
        clear ih hk hw h hk' hbb
        go_enter Try.func109, Try.ntmps109
        go_wp2_with fail
        refine (isGround1_any n0 Bb b _ ((heap_old hBl).trans HBB.out)).mono ?_
        rintro e w1 ⟨⟨v, rfl⟩, hw1⟩
        have hg1 : w.grownBy w1 (some Bb) := by
          subst hw1
          exact ⟨rfl, rfl, rfl, by simp [World.setCell], fun x hx hr => (heap_set_other _ (by simpa using hr)).trans (heap_old hx)⟩
        have hb1 : w1.heap[Bb]? = some (.cells #[.bool false] 4 (0, 0)) := by
          subst hw1
          simpa using heap_set (o := 0) (.bool false) ((heap_old hBl).trans HBB.out)
        have hA : w1.heap[w.heap.size]? = some (.cells #[.int .i64 1, .int .i64 n0, .string s0, .slice a l c] 26 (0, 0)) := by
          subst hw1
          exact (heap_set_other _ (by omega)).trans (heap_new rfl)
        obtain ⟨p0, _, _, _, _⟩ := box4 hA
        have hg : Hid ((b && (Tm.mk 1 n0 s0 []).ground) = false) := by show _ = _; rw [ground_atom]; simp
        have HB1 := Lib.hid hb1
        clear hw1 hA hb1
        go_wp2
        go_end0
        exact ⟨⟨_, rfl⟩, hg1, by rw [hg.out]; exact HB1.out⟩
      · have hk1' : (k0 == 1) = false := by simpa using hk1
        have HBB := Lib.hid hbb
        have hg : Hid ((b && (Tm.mk k0 n0 s0 []).ground) = b) := by show _ = _; rw [ground_atom]; simp [hk1]
        clear ih hk hw h hk1 hbb
        go_enter Try.func109, Try.ntmps109
        go_wp2
        go_end0
        exact ⟨⟨_, rfl⟩, grown_below (HBA.out _) _, by rw [hg.out]; exact (heap_old hBl).trans HBB.out⟩
    · obtain ⟨bb, o, xk, xn, xs, xas, xa, xl, xc, G1, yk, yn, ys, yas, ya, yl, yc, G2, hxy, rfl, rfl, hblt, ⟨x0, x1', x2, x3⟩, ⟨y0, y1', y2, y3⟩, hrx, hry⟩ := RdS_pair h h.1
      obtain ⟨rfl, rfl⟩ : x1 = .mk xk xn xs xas ∧ y1 = .mk yk yn ys yas := by simpa using hxy
      have hl : l = 2 := h.1
      subst hl
      obtain rfl := ba_empty hs0
      have IX := Lib.hid (ih _ (by simp : Tm.mk xk xn xs xas ∈ _) xk xn xs xas xa xl xc G1 Bb)
      have IY := Lib.hid (ih _ (by simp : Tm.mk yk yn ys yas ∈ _) yk yn ys yas ya yl yc G2 Bb)
      have hB1 : Bb ∉ G1 := fun hm => hBF (by simp [hm])
      have hB2 : Bb ∉ G2 := fun hm => hBF (by simp [hm])
      have hBb : bb ≠ Bb := fun hh => hBF (by simp [hh])
      have HG := Lib.hid (ground_pair (k := 4) (n := 0) (s := ByteArray.empty) (x := .mk xk xn xs xas) (y := .mk yk yn ys yas))
      generalize (Tm.mk xk xn xs xas).ground = gx at *
      generalize (Tm.mk yk yn ys yas).ground = gy at *
      have HBB := Lib.hid hbb
      have hE : (w.alloc (.cells #[.int .i64 4, .int .i64 0, .string ByteArray.empty, .slice (some ⟨bb, o, none⟩) 2 c] 26)).heap[w.heap.size]? = some (.cells #[.int .i64 4, .int .i64 0, .string ByteArray.empty, .slice (some ⟨bb, o, none⟩) 2 c] 26 (0, 0)) := heap_new rfl
      have HE := Lib.hid hE
      clear ih hxy h hw hs0 hbb hE
      go_enter Try.func109, Try.ntmps109
      go_wp2_with fail
      refine (IX.out b _ (by trivial) (RdS_ext hrx (HBA.out _)) hx1 hB1 ((heap_old hBl).trans HBB.out)).mono ?_
      rintro e w1 ⟨⟨v, rfl⟩, hg1, hb1⟩
      have hg1' := grown_trans (grown_below (HBA.out (.cells #[.int .i64 4, .int .i64 0, .string ByteArray.empty, .slice (some ⟨bb, o, none⟩) 2 c] 26)) (some Bb)) hg1
      have hE1 := (hg1.block _ (by simp) (by simp; omega)).trans HE.out
      obtain ⟨_, _, _, p3, _⟩ := box4 hE1
      have hcl := World.cell?_of_block (a := ⟨bb, o + 4, none⟩) (hg1'.block bb hblt (by simpa using hBb))
      have hc (m : Nat) : w1.cell? ⟨bb, m, none⟩ = w.cell? ⟨bb, m, none⟩ := World.cell?_of_block (hg1'.block bb hblt (by simpa using hBb))
      rw [← hc] at y0 y1' y2 y3
      have HB1 := Lib.hid hb1
      clear x0 x1' x2 x3 hcl hc hb1 hE1
      go_wp2_with fail
      refine (IY.out (b && gx) w1 (by trivial) (RdS_grown hry hg1' (fun x hx hh => hB2 (hh ▸ hx))) hy1 hB2 HB1.out).mono ?_
      rintro e w2 ⟨⟨v2, rfl⟩, hg2, hb2⟩
      have HB2 := Lib.hid hb2
      clear y0 y1' y2 y3 p3 hb2
      go_wp2
      go_end0
      exact ⟨⟨_, rfl⟩, grown_trans hg1' hg2, by rw [HG.out, ← Bool.and_assoc]; exact HB2.out⟩

def Tm.gnd (t : Tm) : Bool := t.ok && t.ground
set_option maxHeartbeats 1000000 in
set_option maxRecDepth 100000 in
theorem isGround_impl (k n : Int) (s : ByteArray) (xs : List Tm) (a : Option Addr) (l c : Nat) (F : List Nat) (w : World) (h : RdS w xs a l c F) (hw : (Tm.mk k n s xs).wf = true) :
    Calls Try.prog 96 #[.agg #[.int .i64 k, .int .i64 n, .string s, .slice a l c]] w fun e w' => e = .returned (.bool (Tm.mk k n s xs).ground) ∧ Below w.heap.size w w' := by
  have HE := Lib.hid (each_all (.mk k n s xs) k n s xs a l c F (w.heap.size + 1) true)
  have hFlt := RdS_lt h
  have hBF : Hid (w.heap.size + 1 ∉ F) := fun hm => by have := hFlt _ hm; omega
  have HW := Lib.hid hw
  generalize hT : Tm.mk k n s xs = t at *
  clear hFlt hT hw
  go_enter Try.func96, Try.ntmps96
  go_wp2_with fail
  have hbA : Below w.heap.size w ((w.alloc (.cells #[.int .i64 k, .int .i64 n, .string s, .slice a l c] 26)).alloc (.cells #[.bool true] 4)) := ((Below.refl _ _).alloc (Nat.le_refl _) _).alloc (by simp) _
  refine (HE.out _ (by trivial) (RdS_ext h hbA) HW.out hBF.out (heap_new (by simp))).mono ?_
  rintro e w1 ⟨⟨v, rfl⟩, hg1, hb1⟩
  have hbE : Below w.heap.size w w1 := ⟨hg1.os.trans hbA.os, hg1.tape.trans hbA.tape, hg1.output.trans hbA.output, Nat.le_trans hbA.size hg1.size, fun x hx => (hg1.block x (by simp; omega) (by simp; omega)).trans (hbA.block x hx)⟩
  have c0 : w1.cell? ⟨w.heap.size + 1, 0, none⟩ = some (.bool t.ground) := by simpa using cell_of_block hb1 0
  clear hb1 hg1 hbA
  go_wp2
  go_ret
  exact ⟨rfl, hbE⟩

set_option maxHeartbeats 1000000 in
set_option maxRecDepth 100000 in
theorem IsGround_impl (k n : Int) (s : ByteArray) (xs : List Tm) (a : Option Addr) (l c : Nat) (F : List Nat) (w : World) (h : RdS w xs a l c F) (hL : (Tm.mk k n s xs).Lens) :
    Calls Try.prog 85 #[.agg #[.int .i64 k, .int .i64 n, .string s, .slice a l c]] w fun e w' => e = .returned (.bool (Tm.mk k n s xs).gnd) ∧ Below w.heap.size w w' := by
  have O1 := Lib.hid (TermOk_impl k n s xs a l c F)
  have HG := Lib.hid (isGround_impl k n s xs a l c F)
  generalize Tm.mk k n s xs = t at *
  have hbA : ∀ o, Below w.heap.size w (w.alloc o) := fun o => (Below.refl _ _).alloc (Nat.le_refl _) o
  have HBA := Lib.hid hbA; clear hbA
  go_enter Try.func85, Try.ntmps85
  go_wp2_with fail
  refine (O1.out _ (RdS_ext h (HBA.out _)) hL).mono ?_
  rintro e w1 ⟨rfl, hb1⟩
  have hbel := (HBA.out (.cells #[.int .i64 k, .int .i64 n, .string s, .slice a l c] 26)).trans (hb1.mono (by simp))
  have hB : w1.heap[w.heap.size]? = some (.cells #[.int .i64 k, .int .i64 n, .string s, .slice a l c] 26 (0, 0)) := (hb1.block _ (by simp)).trans (heap_new rfl)
  obtain ⟨p0, p1, p2, p3, _⟩ := box4 hB
  clear hB hb1
  cases hok : t.ok with
  | false =>
    have hv : Hid (t.gnd = false) := by simp [Hid, Tm.gnd, hok]
    clear hok
    go_wp2
    go_ret
    exact ⟨by rw [hv.out]; rfl, hbel⟩
  | true =>
    have hv : Hid (t.gnd = t.ground) := by simp [Hid, Tm.gnd, hok]
    have hwf := (ok_wf hok).1
    clear hok
    go_wp2_with fail
    refine (HG.out _ (RdS_ext h hbel) hwf).mono ?_
    rintro e w2 ⟨rfl, hb2⟩
    have hbel2 := hbel.trans (hb2.mono hbel.size)
    clear p0 p1 p2 p3
    go_wp2
    go_ret
    exact ⟨by rw [hv.out]; rfl, hbel2⟩
end Go.Proofs.Ytjkabbkaeioibaa
