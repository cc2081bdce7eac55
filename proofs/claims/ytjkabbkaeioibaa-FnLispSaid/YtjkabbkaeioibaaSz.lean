/- Contracts of szTerm: how much a term that came in holds, as long as that is at most a bound. -/
import Derived.Test.YtjkabbkaeioibaaEq
namespace Go.Proofs.Ytjkabbkaeioibaa
open Go.RowKit

/-- a term that came in: each text and each list is of a length that a machine bears -/
inductive Tm.In : Tm → Prop
  | mk (k n : Int) (s : ByteArray) (xs : List Tm) (hs : s.size ≤ 9223372036854775807) (h : xs.length ≤ 9223372036854775807) (hall : ∀ x ∈ xs, In x) : In (.mk k n s xs)
mutual
def Tm.sz : Tm → Nat | .mk _ _ s xs => s.size + xs.length + szL xs
def szL : List Tm → Nat | [] => 0 | t :: ts => t.sz + szL ts
end
theorem szL_append (xs ys : List Tm) : szL (xs ++ ys) = szL xs + szL ys := by
  induction xs with
  | nil => simp [szL]
  | cons x xs ih => simp only [List.cons_append, szL, ih]; omega
theorem szL_take_succ {ts : List Tm} {j : Nat} {t : Tm} (h : ts[j]? = some t) : szL (ts.take (j + 1)) = szL (ts.take j) + t.sz := by
  obtain ⟨h1, h2⟩ := List.getElem?_eq_some_iff.1 h
  rw [List.take_succ_eq_append_getElem h1, h2, szL_append]
  simp [szL]
theorem szL_take_le (ts : List Tm) (j : Nat) : szL (ts.take j) ≤ szL ts := by
  have h : szL (ts.take j ++ ts.drop j) = _ := szL_append _ _
  rw [List.take_append_drop] at h; omega
theorem szL_mem {t : Tm} {ts : List Tm} (h : t ∈ ts) : t.sz ≤ szL ts := by
  induction ts with
  | nil => simp at h
  | cons x ts ih =>
    simp only [szL]
    rcases List.mem_cons.1 h with rfl | h
    · omega
    · have := ih h; omega
/-- what is small is of lengths that a loop may count -/
theorem sz_lens (t : Tm) : t.sz ≤ 1048576 → t.Lens := by
  induction t using Tm.ind with
  | h k n s xs ih =>
    intro h
    simp only [Tm.sz] at h
    exact .mk k n s xs (by omega) (by omega) (fun x hx => ih x hx (by have := szL_mem hx; omega))

/-- what is left of a bound -/
def leftV (z : Nat) (left : Int) : Int := if (z : Int) ≤ left then left - z else -1
def SzT (t : Tm) : Prop := ∀ (k n : Int) (s : ByteArray) (xs : List Tm) (a : Option Addr) (l c : Nat) (F : List Nat) (left : Int) (w : World), t = .mk k n s xs → RdS w xs a l c F → 0 ≤ left → left ≤ 1048576 →
  Calls Try.prog 32 #[.agg #[.int .i64 k, .int .i64 n, .string s, .slice a l c], .int .i64 left] w fun e w' => e = .returned (.int .i64 (leftV t.sz left)) ∧ Below w.heap.size w w'

set_option maxHeartbeats 1000000 in
set_option maxRecDepth 100000 in
theorem szTermS_of (ts : List Tm) (hall : ∀ t ∈ ts, SzT t) (a : Option Addr) (l c : Nat) (F : List Nat) (left : Int) (w : World) (h : RdS w ts a l c F) (hm : ts.length ≤ 9223372036854775807) (hl0 : 0 ≤ left) (hl1 : left ≤ 1048576) :
    Calls Try.prog 57 #[.slice a l c, .int .i64 left] w fun e w' => e = .returned (.int .i64 (leftV (ts.length + szL ts) left)) ∧ Below w.heap.size w w' := by
  obtain ⟨b, o, Fs, ha, hl, _, hel, _⟩ := RdS_each h
  have hlm : l ≤ 9223372036854775807 := by omega
  by_cases hfit : (l : Int) ≤ left
  · have HL := Lib.hid hl; have HEL := Lib.hid hel; have HALL := Lib.hid hall; have HA := Lib.hid ha
    clear hl hel hall ha h hm
    have hl2 : l ≤ 1048576 := by omega
    clear hlm
    go_enter Try.func57, Try.ntmps57
    go_wp2
    go_loopw [1, 5] (fun lv i wr => ∃ j : Nat, j ≤ l ∧ i = .int .i64 j ∧ lv = .int .i64 (left - l - szL (ts.take j)) ∧ 0 ≤ left - l - szL (ts.take j) ∧ Below w.heap.size w wr) (fun _ i _ => l - (intOf i).toNat)
    case atStart => exact ⟨0, Nat.zero_le _, rfl, by simp [szL], by simp [szL]; omega, Below.refl _ _⟩
    case round =>
      obtain ⟨j, hj, rfl, rfl, hpos, hbel⟩ := hrel
      by_cases hlt : j < l
      · obtain rfl := HA.out (by omega)
        obtain ⟨xk, xn, xs, xas, hx⟩ : ∃ xk xn xs xas, ts[j]? = some (.mk xk xn xs xas) := by
          have h1 : j < ts.length := by have := HL.out; omega
          cases hx : ts[j] with
          | mk xk xn xs xas => exact ⟨xk, xn, xs, xas, by simp [h1, hx]⟩
        have r1 := HEL.out j _ hx
        rw [Rd_mk] at r1
        obtain ⟨x0, x1, x2, xa, xl, xc, x3, hrx⟩ := r1
        have hlt1 := cell_lt x0
        rw [← hbel.cell (p := ⟨b, _, none⟩) hlt1, show o + 4 * j = o + j * 4 by omega] at x0 x1 x2 x3
        have hts1 := szL_take_succ hx
        have hts2 := szL_take_le ts (j + 1)
        have HX := Lib.hid hx; have HT1 := Lib.hid hts1; have HT2 := Lib.hid hts2
        generalize hkj : left - l - szL (ts.take j) = kj at *
        have HKJ := Lib.hid hkj
        have hk1 : kj ≤ 1048576 := by omega
        clear hx hts1 hts2 hkj
        go_wp2_with fail
        refine (HALL.out _ (List.mem_of_getElem? HX.out) xk xn xs xas xa xl xc _ kj _ rfl (RdS_ext hrx hbel) hpos hk1).mono ?_
        rintro e w2 ⟨rfl, hb2⟩
        have hb2' := hbel.trans (hb2.mono hbel.size)
        by_cases hf : ((Tm.mk xk xn xs xas).sz : Int) ≤ kj
        · have hv : leftV (Tm.mk xk xn xs xas).sz kj = left - l - szL (ts.take (j + 1)) := by
            rw [leftV, if_pos hf, ← HKJ.out, HT1.out]; omega
          have hnn : 0 ≤ left - l - szL (ts.take (j + 1)) := by
            have := HKJ.out; have := HT1.out; omega
          rw [hv]
          generalize hkn : left - l - szL (ts.take (j + 1)) = kn at *
          have HKN := Lib.hid hkn
          clear hv hkn hf x0 x1 x2 x3
          go_wp2
          go_roundw
          case rel => exact ⟨j + 1, by omega, by go_num, by rw [HKN.out], by rw [HKN.out]; exact hnn, hb2'⟩
          case measure => simp [intOf]; omega
        · have hv : leftV (Tm.mk xk xn xs xas).sz kj = -1 := by rw [leftV, if_neg hf]
          rw [hv]
          have hfin : Hid (leftV (ts.length + szL ts) left = -1) := by
            show leftV _ _ = _
            rw [leftV, if_neg]
            have := HKJ.out; have := HT1.out; have := HT2.out; have := HL.out; omega
          clear hv hf x0 x1 x2 x3
          go_wp2
          go_ret
          exact ⟨by rw [hfin.out]; rfl, hb2'⟩
      · obtain rfl : j = l := by omega
        have hL := HL.out
        have e1 : ts.take j = ts := by rw [hL]; simp
        rw [e1] at hpos ⊢
        have hfin : Hid (leftV (ts.length + szL ts) left = left - j - szL ts) := by
          show leftV _ _ = _
          rw [leftV, if_pos (by omega)]; omega
        clear e1 hL
        go_wp2
        go_ret
        exact ⟨by rw [hfin.out]; rfl, hbel⟩
  · have hv : Hid (leftV (ts.length + szL ts) left = -1) := by
      show leftV _ _ = _
      rw [leftV, if_neg (by omega)]
    clear hl hel hall ha h hm
    go_enter Try.func57, Try.ntmps57
    go_wp2
    go_ret
    exact ⟨by rw [hv.out]; rfl, Below.refl _ _⟩

set_option maxHeartbeats 1000000 in
set_option maxRecDepth 100000 in
theorem szTerm_of (k n : Int) (s : ByteArray) (xs : List Tm) (hall : ∀ t ∈ xs, SzT t) (hs : s.size ≤ 9223372036854775807) (hm : xs.length ≤ 9223372036854775807) : SzT (.mk k n s xs) := by
  intro k' n' s' xs' a l c F left w ht h hl0 hl1
  cases ht
  by_cases hfit : (s.size : Int) ≤ left
  · have HS := Lib.hid (szTermS_of xs hall)
    have hbA : ∀ o, Below w.heap.size w (w.alloc o) := fun o => (Below.refl _ _).alloc (Nat.le_refl _) o
    have HBA := Lib.hid hbA; clear hbA hall
    go_enter Try.func32, Try.ntmps32
    go_wp2_with fail
    refine (HS.out a l c F (left - s.size) _ (RdS_ext h (HBA.out _)) hm (by omega) (by omega)).mono ?_
    rintro e w2 ⟨rfl, hb2⟩
    have hb2' := (HBA.out (.cells #[.int .i64 k, .int .i64 n, .string s, .slice a l c] 43)).trans (hb2.mono (by simp))
    by_cases hf : ((xs.length + szL xs : Nat) : Int) ≤ left - s.size
    · have hv : leftV (xs.length + szL xs) (left - s.size) = left - s.size - (xs.length + szL xs : Nat) := by rw [leftV, if_pos hf]
      rw [hv]
      have hfin : Hid (leftV (Tm.mk k n s xs).sz left = left - s.size - (xs.length + szL xs : Nat)) := by
        show leftV _ _ = _
        simp only [Tm.sz]
        rw [leftV, if_pos (by omega)]; omega
      generalize hkn : left - s.size - (xs.length + szL xs : Nat) = kn at *
      have hk0 : 0 ≤ kn := by omega
      clear hv hkn hf
      go_wp2
      go_ret
      exact ⟨by rw [hfin.out]; rfl, hb2'⟩
    · have hv : leftV (xs.length + szL xs) (left - s.size) = -1 := by rw [leftV, if_neg hf]
      rw [hv]
      have hfin : Hid (leftV (Tm.mk k n s xs).sz left = -1) := by
        show leftV _ _ = _
        simp only [Tm.sz]
        rw [leftV, if_neg (by omega)]
      clear hv hf
      go_wp2
      go_ret
      exact ⟨by rw [hfin.out]; rfl, hb2'⟩
  · have hfin : Hid (leftV (Tm.mk k n s xs).sz left = -1) := by
      show leftV _ _ = _
      simp only [Tm.sz]
      rw [leftV, if_neg (by omega)]
    clear hall h hm
    go_enter Try.func32, Try.ntmps32
    go_wp2
    go_ret
    exact ⟨by rw [hfin.out]; rfl, (Below.refl _ _).alloc (Nat.le_refl _) _⟩
theorem szT_all {t : Tm} (h : t.In) : SzT t := by
  induction h with
  | mk k n s xs hs h _ ih => exact szTerm_of k n s xs ih hs h
end Go.Proofs.Ytjkabbkaeioibaa
