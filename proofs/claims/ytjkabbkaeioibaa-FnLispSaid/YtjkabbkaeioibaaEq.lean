/- Contracts of the laws' own functions on terms, on the ways that a true law takes: eqTerm at two readings of one term. -/
import Derived.Test.YtjkabbkaeioibaaList
import Derived.Test.YtjkabbkaeioibaaSmall
namespace Go.Proofs.Ytjkabbkaeioibaa
open Go.RowKit

def TrueB (w : World) (e : Ending) (w' : World) : Prop := e = .returned (.bool true) ∧ Below w.heap.size w w'

def EqT (t : Tm) : Prop := ∀ (k n : Int) (s : ByteArray) (xs : List Tm) (a1 a2 : Option Addr) (l1 c1 l2 c2 : Nat) (F1 F2 : List Nat) (w : World), t = .mk k n s xs → RdS w xs a1 l1 c1 F1 → RdS w xs a2 l2 c2 F2 →
  Calls Try.prog 20 #[.agg #[.int .i64 k, .int .i64 n, .string s, .slice a1 l1 c1], .agg #[.int .i64 k, .int .i64 n, .string s, .slice a2 l2 c2]] w (TrueB w)

set_option maxHeartbeats 400000 in
set_option maxRecDepth 100000 in
theorem eqTermS_of (ts : List Tm) (hall : ∀ t ∈ ts, EqT t) (a1 a2 : Option Addr) (l1 c1 l2 c2 : Nat) (F1 F2 : List Nat) (w : World) (h1 : RdS w ts a1 l1 c1 F1) (h2 : RdS w ts a2 l2 c2 F2) (hmax : ts.length ≤ 1000000000000) :
    Calls Try.prog 51 #[.slice a1 l1 c1, .slice a2 l2 c2] w (TrueB w) := by
  obtain ⟨b1, o1, G1, ha1, hl1, hG1, he1, _⟩ := RdS_each h1
  obtain ⟨b2, o2, G2, ha2, hl2, hG2, he2, _⟩ := RdS_each h2
  obtain rfl : l1 = l2 := by omega
  have HA1 := Lib.hid ha1; have HA2 := Lib.hid ha2; have HL := Lib.hid hl1
  have HE1 := Lib.hid he1; have HE2 := Lib.hid he2; have HALL := Lib.hid hall
  have hlm : l1 ≤ 1000000000000 := by omega
  clear ha1 ha2 hl1 hl2 he1 he2 hG1 hG2 hall hmax h1 h2
  go_enter Try.func51, Try.ntmps51
  go_wp2
  go_loopw [5] (fun i wr => ∃ j : Nat, j ≤ l1 ∧ i = .int .i64 j ∧ Below w.heap.size w wr) (fun i _ => l1 - (intOf i).toNat)
  case atStart => exact ⟨0, Nat.zero_le _, rfl, Below.refl _ _⟩
  case round =>
    obtain ⟨j, hj, rfl, hbel⟩ := hrel
    by_cases hlt : j < l1
    · obtain rfl := HA1.out (by omega)
      obtain rfl := HA2.out (by omega)
      obtain ⟨xk, xn, xs, xas, hx⟩ : ∃ xk xn xs xas, ts[j]? = some (.mk xk xn xs xas) := by
        have h1 : j < ts.length := by have := HL.out; omega
        cases hx : ts[j] with
        | mk xk xn xs xas => exact ⟨xk, xn, xs, xas, by simp [h1, hx]⟩
      have r1 := HE1.out j _ hx
      have r2 := HE2.out j _ hx
      rw [Rd_mk] at r1 r2
      obtain ⟨x0, x1, x2, xa, xl, xc, x3, hrx⟩ := r1
      obtain ⟨y0, y1, y2, ya, yl, yc, y3, hry⟩ := r2
      have hlt1 := cell_lt x0
      have hlt2 := cell_lt y0
      rw [← hbel.cell (p := ⟨b1, _, none⟩) hlt1, show o1 + 4 * j = o1 + j * 4 by omega] at x0 x1 x2 x3
      rw [← hbel.cell (p := ⟨b2, _, none⟩) hlt2, show o2 + 4 * j = o2 + j * 4 by omega] at y0 y1 y2 y3
      have HX := Lib.hid hx; clear hx
      go_wp2_with fail
      go_still_tail 8, (by kernel_rfl)
      go_wp2_with fail
      refine (HALL.out _ (List.mem_of_getElem? HX.out) _ _ _ _ _ _ _ _ _ _ _ _ _ rfl (RdS_ext (w' := wr.drew) hrx hbel.drew) (RdS_ext (w' := wr.drew) hry hbel.drew)).mono ?_
      rintro e w2 ⟨rfl, hb2⟩
      have hb2' : Below wr.heap.size wr w2 := below_of_drew hb2
      clear x0 x1 x2 x3 y0 y1 y2 y3 hb2
      go_wp2
      go_roundw
      case rel => exact ⟨j + 1, by omega, by go_num, hbel.trans (hb2'.mono hbel.size)⟩
      case measure => simp [intOf]; omega
    · go_wp2
      go_ret
      exact ⟨rfl, hbel⟩

set_option maxHeartbeats 400000 in
theorem eqTerm_of (k n : Int) (s : ByteArray) (xs : List Tm) (hall : ∀ t ∈ xs, EqT t) (hmax : xs.length ≤ 1000000000000) : EqT (.mk k n s xs) := by
  intro k' n' s' xs' a1 a2 l1 c1 l2 c2 F1 F2 w ht h1 h2
  cases ht
  go_enter Try.func20, Try.ntmps20
  go_wp2_with fail
  refine (eqTermS_of xs hall _ _ _ _ _ _ F1 F2 _ ?_ ?_ hmax).mono ?_
  · exact RdS_ext h1 (((Below.refl _ _).alloc (Nat.le_refl _) _).alloc (by simp) _)
  · exact RdS_ext h2 (((Below.refl _ _).alloc (Nat.le_refl _) _).alloc (by simp) _)
  · rintro e w2 ⟨rfl, hb2⟩
    go_wp2
    go_ret
    exact ⟨rfl, (((Below.refl _ _).alloc (Nat.le_refl _) _).alloc (by simp) _).trans (hb2.mono (by simp; omega))⟩

/-- every list in the term is of a length that a loop may count -/
inductive Tm.Lens : Tm → Prop
  | mk (k n : Int) (s : ByteArray) (xs : List Tm) (hs : s.size ≤ 1000000000000) (h : xs.length ≤ 1000000000000) (hall : ∀ x ∈ xs, Lens x) : Lens (.mk k n s xs)
theorem eqT_all {t : Tm} (h : t.Lens) : EqT t := by
  induction h with
  | mk k n s xs _ h _ ih => exact eqTerm_of k n s xs ih h
end Go.Proofs.Ytjkabbkaeioibaa
