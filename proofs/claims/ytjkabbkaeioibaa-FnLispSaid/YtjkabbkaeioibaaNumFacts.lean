/- Sizes of numerals. -/
import Derived.Test.YtjkabbkaeioibaaNumeralS
import Derived.Test.YtjkabbkaeioibaaMark
namespace Go.Proofs.Ytjkabbkaeioibaa
open Go.RowKit

theorem lens_atom (k n : Int) (s : ByteArray) (hs : s.size ≤ 1000000000000) : Tm.Lens (.mk k n s []) := .mk _ _ _ _ hs (by simp) (by simp)
theorem lens_pair {a b : Tm} (ha : a.Lens) (hb : b.Lens) : (Tm.pair a b).Lens := .mk _ _ _ _ (by simp) (by simp) (by simp [ha, hb])
theorem lens_list {l : List Tm} {t : Tm} (hl : ∀ x ∈ l, x.Lens) (ht : t.Lens) : (Tm.list l t).Lens := by
  induction l with
  | nil => exact ht
  | cons x l ih => exact lens_pair (hl x (by simp)) (ih (fun y hy => hl y (by simp [hy])))
theorem bits_mem (n : Nat) : ∀ x ∈ bitsT n, ∃ d : Int, x = Tm.int d := by
  induction n using Nat.strongRecOn with
  | _ n ih =>
    rcases Nat.eq_zero_or_pos n with rfl | h
    · simp [bitsT_zero]
    · rw [bitsT_pos h]
      intro x hx
      rcases List.mem_cons.1 hx with rfl | hx
      · exact ⟨_, rfl⟩
      · exact ih (n / 2) (by omega) x hx
theorem numeralT_lens (n : Nat) : (numeralT n).Lens := lens_list (fun x hx => by obtain ⟨d, rfl⟩ := bits_mem n x hx; exact lens_atom _ _ _ (by simp)) (lens_atom _ _ _ (by simp))
theorem numeralR_lens (n : Int) : (numeralR n).Lens := by
  unfold numeralR; split
  · exact numeralT_lens _
  · exact lens_atom _ _ _ (by simp)
theorem cnt_list (l : List Tm) (t : Tm) (h : ∀ x ∈ l, x.cnt = 1) : (Tm.list l t).cnt = 2 * l.length + t.cnt := by
  induction l with
  | nil => simp [Tm.list]
  | cons x l ih =>
    have h1 := h x (by simp)
    have h2 := ih (fun y hy => h y (by simp [hy]))
    show (Tm.pair x (Tm.list l t)).cnt = _
    simp only [Tm.pair, Tm.cnt, cntL, h1, h2, List.length_cons]
    omega
theorem numeralR_cnt (n : Int) : (numeralR n).cnt ≤ 2000000001 := by
  unfold numeralR; split
  · rename_i h
    unfold numeralT
    rw [cnt_list _ _ (fun x hx => by obtain ⟨d, rfl⟩ := bits_mem _ x hx; simp [Tm.int, Tm.cnt, cntL])]
    have := bitsT_len n.toNat
    simp [Tm.nil, Tm.cnt, cntL]; omega
  · simp [Tm.nil, Tm.cnt, cntL]

end Go.Proofs.Ytjkabbkaeioibaa
