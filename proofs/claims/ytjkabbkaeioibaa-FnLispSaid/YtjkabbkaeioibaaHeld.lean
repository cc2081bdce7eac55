/- Contracts of heldTermS, heldTerm, markTerm. -/
import Derived.Test.YtjkabbkaeioibaaMark
import Derived.Deep.RegionWith
namespace Go.Proofs.Ytjkabbkaeioibaa
open Go.RowKit

theorem markS_args (t : Tm) : MarkS t.args := by
  induction t using Tm.ind with
  | h k n s xs ih => exact markS_of xs ih
theorem markS_all (ts : List Tm) : MarkS ts := markS_of ts (fun t _ => markS_args t)

def HeldS (ts : List Tm) : Prop := ∀ (a : Option Addr) (l c : Nat) (F : List Nat) (k : Nat) (w : World), RdS w (markL ts k) a l c F → 0 < k → k + 3 * cntL ts ≤ 100000000000 →
  Calls Try.prog 53 #[.slice a l c, .int .i64 k] w fun e w' => e = .returned (.int .i64 ((k + 3 * cntL ts : Nat) : Int)) ∧ Below w.heap.size w w'

theorem markL_at {ts : List Tm} {k j : Nat} {t : Tm} (h : ts[j]? = some t) : (markL ts k)[j]? = some (t.mark (k + 3 * cntL (ts.take j))) := by
  have h1 : j < (markL ts k).length := by rw [markL_length]; exact (List.getElem?_eq_some_iff.1 h).1
  obtain ⟨t', h2, h3⟩ := markL_get ts k j _ (List.getElem?_eq_getElem h1)
  rw [h] at h2
  cases h2
  rw [List.getElem?_eq_getElem h1, h3]

set_option maxHeartbeats 1000000 in
set_option maxRecDepth 100000 in
theorem heldS_of (ts : List Tm) (hall : ∀ t ∈ ts, HeldS t.args) : HeldS ts := by
  intro a l c F k w h hk0 hk
  obtain ⟨b, o, Fs, ha, hl, hFs, hel, _⟩ := RdS_each h
  rw [markL_length] at hl
  have hcge := cntL_ge ts
  have hlm : l ≤ 100000000000 := by omega
  have HL := Lib.hid hl; have HEL := Lib.hid hel; have HALL := Lib.hid hall; have HA := Lib.hid ha
  clear hl hFs hel hall ha h
  go_enter Try.func53, Try.ntmps53
  go_wp2
  go_loopw [1, 5] (fun kv i wr => ∃ j : Nat, j ≤ l ∧ i = .int .i64 j ∧ kv = .int .i64 ((k + 3 * cntL (ts.take j) : Nat) : Int) ∧ Below w.heap.size w wr) (fun _ i _ => l - (intOf i).toNat)
  case atStart => exact ⟨0, Nat.zero_le _, rfl, by simp [cntL], Below.refl _ _⟩
  case round =>
    obtain ⟨j, hj, rfl, rfl, hbel⟩ := hrel
    by_cases hlt : j < l
    · obtain rfl := HA.out (by omega)
      obtain ⟨xk, xn, xs, xas, hx⟩ : ∃ xk xn xs xas, ts[j]? = some (.mk xk xn xs xas) := by
        have h1 : j < ts.length := by have := HL.out; omega
        cases hx : ts[j] with
        | mk xk xn xs xas => exact ⟨xk, xn, xs, xas, by simp [h1, hx]⟩
      have r1 := HEL.out j _ (markL_at hx)
      rw [Tm.mark, Rd_mk] at r1
      obtain ⟨x0, x1, x2, xa, xl, xc, x3, hrx⟩ := r1
      have hlt1 := cell_lt x0
      rw [← hbel.cell (p := ⟨b, _, none⟩) hlt1, show o + 4 * j = o + j * 4 by omega] at x0 x1 x2 x3
      have hts1 := cntL_take_succ hx
      simp only [Tm.cnt] at hts1
      have hts2 := cntL_take_le ts (j + 1)
      have HX := Lib.hid hx; clear hx
      have HT1 := Lib.hid hts1
      generalize hkj : k + 3 * cntL (ts.take j) = kj at *
      have HKJ := Lib.hid hkj; clear hkj
      have hkj2 : kj + 3 + 3 * cntL xas ≤ 100000000000 := by have := HKJ.out; have := HT1.out; omega
      have hkj3 : 0 < kj := by have := HKJ.out; omega
      clear hts1 hts2
      have hlt3 : b < wr.heap.size := Nat.lt_of_lt_of_le hlt1 hbel.size
      go_wp2_with fail
      go_region_with (go_at_call 75; rw [show ((kj : Int) + 1 + 1) = ((kj + 2 : Nat) : Int) by omega]; refine (markText_any (kj + 2) _ (by omega) (by omega)).mono ?_; rintro e w2 ⟨rfl, hb2⟩; have hq : w2.cell? ⟨b, o + j * 4 + 2, none⟩ = some (.string (markTx (kj + 2))) := (hb2.cell (p := ⟨b, _, none⟩) hlt3).trans x2)
      all_goals
        have hb2' : Below wr.heap.size wr w2 := below_of_drew hb2
        have y3 : w2.cell? ⟨b, o + j * 4 + 3, none⟩ = some (.slice xa xl xc) := (hb2'.cell (p := ⟨b, _, none⟩) hlt3).trans x3
        have hrx2 : RdS w2 (markL xas (kj + 3)) xa xl xc (Fs.getD j []) := RdS_ext (RdS_ext hrx hbel) hb2'
        clear x0 x1 x2 x3 hb2 hq
        go_wp2_with fail
        rw [show ((kj : Int) + 2 + 1) = ((kj + 3 : Nat) : Int) by omega]
        refine (HALL.out _ (List.mem_of_getElem? HX.out) xa xl xc _ (kj + 3) w2 hrx2 (by omega) (by show kj + 3 + 3 * cntL xas ≤ _; omega)).mono ?_
        rintro e w4 ⟨rfl, hb4⟩
        have hkn : kj + 3 + 3 * cntL xas = k + 3 * cntL (ts.take (j + 1)) := by
          have := HKJ.out; have := HT1.out; omega
        simp only [Tm.args]
        rw [hkn]
        clear hkn y3
        generalize hkn2 : k + 3 * cntL (ts.take (j + 1)) = kn
        have HK2 := Lib.hid hkn2; clear hkn2
        go_wp2
        go_roundw
        case rel => exact ⟨j + 1, by omega, by go_num, by rw [HK2.out], (hbel.trans (hb2'.mono hbel.size)).trans (hb4.mono (Nat.le_trans hbel.size hb2'.size))⟩
        case measure => simp [intOf]; omega
    · obtain rfl : j = l := by omega
      have hL := HL.out
      have e1 : ts.take j = ts := by rw [hL]; simp
      rw [e1]
      clear e1 hL
      go_wp2
      go_ret
      exact ⟨rfl, hbel⟩

theorem heldS_args (t : Tm) : HeldS t.args := by
  induction t using Tm.ind with
  | h k n s xs ih => exact heldS_of xs ih
theorem heldS_all (ts : List Tm) : HeldS ts := heldS_of ts (fun t _ => heldS_args t)

set_option maxHeartbeats 400000 in
theorem markTerm_any (q n : Int) (s : ByteArray) (xs : List Tm) (a : Option Addr) (l c : Nat) (F : List Nat) (k : Nat) (w : World) (h : RdS w xs a l c F) (hnd : F.Nodup) (hfr : Free w F) (hk0 : 0 < k) (hk : k + 3 * cntL xs ≤ 100000000000) :
    Calls Try.prog 21 #[.agg #[.int .i64 q, .int .i64 n, .string s, .slice a l c], .int .i64 k] w fun e w' => e = .returned (.int .i64 ((k + 3 * cntL xs : Nat) : Int)) ∧ RdS w' (markL xs k) a l c F ∧ Wrote F w w' := by
  have HND := Lib.hid hnd; have HFR := Lib.hid hfr; clear hnd hfr
  go_enter Try.func21, Try.ntmps21
  go_wp2_with fail
  have hb : ∀ o, Below w.heap.size w (w.alloc o) := fun o => (Below.refl _ _).alloc (Nat.le_refl _) o
  refine (markS_all xs a l c F k _ (RdS_ext h (hb _)) HND.out (Free_below HFR.out (hb _) (RdS_lt h)) hk0 hk).mono ?_
  rintro e w2 ⟨rfl, hrd, hwr⟩
  go_wp2
  go_ret
  exact ⟨rfl, hrd, (Wrote.of_below (hb _)).trans hwr⟩

set_option maxHeartbeats 400000 in
theorem heldTerm_any (q n : Int) (s : ByteArray) (xs : List Tm) (a : Option Addr) (l c : Nat) (F : List Nat) (k : Nat) (w : World) (h : RdS w (markL xs k) a l c F) (hk0 : 0 < k) (hk : k + 3 * cntL xs ≤ 100000000000) :
    Calls Try.prog 22 #[.agg #[.int .i64 q, .int .i64 n, .string s, .slice a l c], .int .i64 k] w fun e w' => e = .returned (.int .i64 ((k + 3 * cntL xs : Nat) : Int)) ∧ Below w.heap.size w w' := by
  go_enter Try.func22, Try.ntmps22
  go_wp2_with fail
  have hb : ∀ o, Below w.heap.size w (w.alloc o) := fun o => (Below.refl _ _).alloc (Nat.le_refl _) o
  refine (heldS_all xs a l c F k _ (RdS_ext h (hb _)) hk0 hk).mono ?_
  rintro e w2 ⟨rfl, hbw⟩
  generalize hkn : k + 3 * cntL xs = kn at *
  have HK := Lib.hid hkn; clear hkn
  go_wp2
  go_ret
  exact ⟨by rw [HK.out]; rfl, (hb _).trans (hbw.mono (by simp))⟩
end Go.Proofs.Ytjkabbkaeioibaa
