/- The number of a numeral is the number that it was made of. -/
import Derived.Test.YtjkabbkaeioibaaNumber
import Derived.Test.YtjkabbkaeioibaaNumFacts
namespace Go.Proofs.Ytjkabbkaeioibaa
open Go.RowKit

theorem bitsT_len2 : ∀ (k n : Nat), n < 2 ^ k → (bitsT n).length ≤ k := by
  intro k
  induction k with
  | zero => intro n h; have : n = 0 := by omega
            subst this; simp [bitsT_zero]
  | succ k ih =>
    intro n h
    rcases Nat.eq_zero_or_pos n with rfl | hp
    · simp [bitsT_zero]
    · rw [bitsT_pos hp]
      have := ih (n / 2) (by rw [Nat.pow_succ] at h; omega)
      simp only [List.length_cons]; omega
theorem wf_int {d : Int} (h0 : -1000000000 ≤ d) (h1 : d ≤ 1000000000) : (Tm.int d).wf = true := by simp [Tm.int, Tm.wf, atomB, h0, h1]
theorem wf_list {l : List Tm} {t : Tm} (hl : ∀ x ∈ l, x.wf = true) (ht : t.wf = true) : (Tm.list l t).wf = true := by
  induction l with
  | nil => exact ht
  | cons x l ih =>
    show (Tm.pair x (Tm.list l t)).wf = true
    rw [Tm.pair, wf_pair rfl rfl rfl, hl x (by simp), ih (fun y hy => hl y (by simp [hy]))]; rfl
theorem bits_digit (n : Nat) : ∀ x ∈ bitsT n, x = Tm.int 0 ∨ x = Tm.int 1 := by
  induction n using Nat.strongRecOn with
  | _ n ih =>
    rcases Nat.eq_zero_or_pos n with rfl | h
    · simp [bitsT_zero]
    · rw [bitsT_pos h]
      intro x hx
      rcases List.mem_cons.1 hx with rfl | hx
      · rcases Nat.mod_two_eq_zero_or_one n with h2 | h2 <;> rw [h2] <;> simp
      · exact ih (n / 2) (by omega) x hx
theorem numeralT_ok {n : Nat} (h : n ≤ 1000000000) : (numeralT n).ok = true := by
  have h1 : (numeralT n).wf = true := wf_list (fun x hx => by rcases bits_digit n x hx with rfl | rfl <;> exact wf_int (by omega) (by omega)) (by simp [Tm.nil, Tm.wf, atomB])
  have h2 : (numeralT n).cnt = 2 * (bitsT n).length + 1 := by
    unfold numeralT
    rw [cnt_list _ _ (fun x hx => by obtain ⟨d, rfl⟩ := bits_mem _ x hx; simp [Tm.int, Tm.cnt, cntL])]
    simp [Tm.nil, Tm.cnt, cntL]
  have h3 := bitsT_len2 30 n (by omega)
  simp [Tm.ok, h1, h2]; omega
theorem numGo_bits : ∀ (N : Nat), 0 < N → ∀ (n wt last : Int), 0 < wt → 0 ≤ n → n + N * wt ≤ 1000000000 → numGo (numeralT N) n wt last = n + N * wt := by
  intro N
  induction N using Nat.strongRecOn with
  | _ N ih =>
    intro hN n wt last hw hn hle
    have e1 : numeralT N = Tm.pair (Tm.int ((N % 2 : Nat) : Int)) (numeralT (N / 2)) := by
      unfold numeralT; rw [bitsT_pos hN]; rfl
    have hw1 : wt ≤ N * wt := by
      have : (1 : Int) * wt ≤ (N : Int) * wt := Int.mul_le_mul_of_nonneg_right (by omega) (by omega)
      omega
    rw [e1, Tm.pair, numGo_pair]
    have hd : (Tm.int ((N % 2 : Nat) : Int)).kind = 3 ∧ (Tm.int ((N % 2 : Nat) : Int)).num = ((N % 2 : Nat) : Int) := ⟨rfl, rfl⟩
    rw [hd.1, hd.2, if_neg (by omega)]
    have hsum : (N : Int) * wt = ((N % 2 : Nat) : Int) * wt + ((N / 2 : Nat) : Int) * (wt * 2) := by
      have : (N : Int) = ((N % 2 : Nat) : Int) + ((N / 2 : Nat) : Int) * 2 := by omega
      rw [show (N : Int) * wt = (((N % 2 : Nat) : Int) + ((N / 2 : Nat) : Int) * 2) * wt by rw [← this], Int.add_mul, Int.mul_assoc, Int.mul_comm 2 wt]
    have hm0 : 0 ≤ ((N % 2 : Nat) : Int) * wt := Int.mul_nonneg (by omega) (by omega)
    have hm1 : 0 ≤ ((N / 2 : Nat) : Int) * (wt * 2) := Int.mul_nonneg (by omega) (by omega)
    rcases Nat.eq_zero_or_pos (N / 2) with h0 | h0
    · have hN1 : N = 1 := by omega
      subst hN1
      have : numeralT (1 / 2) = Tm.nil := by simp [numeralT, bitsT_zero, Tm.list]
      rw [this, Tm.nil, numGo_end (by omega), if_neg (by simp at hle ⊢; omega)]
    · rw [ih (N / 2) (by omega) h0 _ _ _ (by omega) (by omega) (by omega)]
      omega
theorem numV_numeral {N : Nat} (h : N ≤ 1000000000) : numV (numeralT N) = N := by
  rw [numV, if_pos (numeralT_ok h)]
  rcases Nat.eq_zero_or_pos N with rfl | hp
  · have : numeralT 0 = Tm.nil := by simp [numeralT, bitsT_zero, Tm.list]
    rw [this, Tm.nil, numGo_end (by omega), if_neg (by omega)]; rfl
  · rw [numGo_bits N hp 0 1 1 (by omega) (by omega) (by omega)]; omega
theorem numV_numeralR {n : Int} (h0 : 0 ≤ n) (h1 : n ≤ 1000000000) : numV (numeralR n) = n := by
  obtain ⟨N, rfl⟩ := Int.eq_ofNat_of_zero_le h0
  have : numeralR (N : Int) = numeralT N := by simp [numeralR]; omega
  rw [this, numV_numeral (by omega)]
end Go.Proofs.Ytjkabbkaeioibaa
