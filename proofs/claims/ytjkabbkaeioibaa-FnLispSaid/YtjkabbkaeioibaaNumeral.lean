/- Contracts of numeralOf, NumeralOf and the reference's NumeralOf. -/
import Derived.Test.YtjkabbkaeioibaaList
import Derived.Test.YtjkabbkaeioibaaAppend
namespace Go.Proofs.Ytjkabbkaeioibaa
open Go.RowKit

/-- the digits of a number, the lowest first -/
def bitsT (n : Nat) : List Tm := if h : n = 0 then [] else Tm.int ((n % 2 : Nat) : Int) :: bitsT (n / 2)
termination_by n
decreasing_by omega

theorem bitsT_zero : bitsT 0 = [] := by rw [bitsT]; simp
theorem bitsT_pos {n : Nat} (h : 0 < n) : bitsT n = Tm.int ((n % 2 : Nat) : Int) :: bitsT (n / 2) := by
  rw [bitsT]; simp [show n ≠ 0 by omega]
theorem bitsT_len (n : Nat) : (bitsT n).length ≤ n := by
  induction n using Nat.strongRecOn with
  | _ n ih =>
    rcases Nat.eq_zero_or_pos n with rfl | h
    · simp [bitsT_zero]
    · rw [bitsT_pos h]
      have := ih (n / 2) (by omega)
      simp only [List.length_cons]
      omega

def numeralT (n : Nat) : Tm := Tm.list (bitsT n) Tm.nil

/-- the loop over the digits -/
def BitsRel (w : World) (N : Nat) (nv v : Value) (wr : World) : Prop :=
  ∃ m : Nat, nv = .int .i64 m ∧ m ≤ N ∧ ∃ ts, bitsT N = ts ++ bitsT m ∧ OwnTs 26 wr (w.heap.size + 1) v ts (List.replicate ts.length []) ∧
    wr.heap[w.heap.size]? = some (.cells #[.int .i64 0, .int .i64 0, .string ByteArray.empty, .slice none 0 0] 26 (0, 0)) ∧ Below w.heap.size w wr ∧ w.heap.size < wr.heap.size

set_option maxHeartbeats 400000 in
set_option maxRecDepth 100000 in
theorem numeralOf_any (N : Nat) (w : World) (hN : N ≤ 1000000000) :
    Calls Try.prog 50 #[.int .i64 N] w (OutT w (numeralT N) []) := by
  go_enter Try.func50, Try.ntmps50
  go_wp2
  go_loopw [0, 3] (fun nv v wr => BitsRel w N nv v wr) (fun nv _ _ => (intOf nv).toNat)
  case atStart => 
    refine ⟨N, rfl, Nat.le_refl _, [], rfl, OwnTs_empty (g := w.heap.size + 1) (Nat.le_refl _) (heap_new (by simp)), ?_, ((Below.refl _ _).alloc (Nat.le_refl _) _).alloc (by simp) _, by simp; omega⟩
    rw [heap_old (by simp), heap_new rfl]; rfl
  case round =>
    obtain ⟨m, rfl, hm, ts, hts, hown, hres, hbel, hsz⟩ := hrel
    have HT := Lib.hid hts; clear hts
    have HRS := Lib.hid hres; clear hres
    by_cases h0 : 0 < m
    · go_wp2_with fail
      refine (number_any _ _).mono ?_
      rintro e w2 ⟨rfl, hb2⟩
      have hown2 := OwnTs_below hown hb2
      have hlen : ts.length ≤ 1000000000 := by
        have h1 := bitsT_len N
        rw [HT.out] at h1
        simp at h1; omega
      have hs2 := hb2.size
      go_wp2_with (at_builtin; refine append_term rfl _ _ rfl (w.heap.size + 1) _ ts _ rfl (OwnTs_alloc hown2 _) _ rfl _ _ _ _ _ _ [] [] _ _ (heap_new rfl) (RdS_nil _ _ _) (by simp) (by omega) (by simp; omega) ?_; intro v' w3 hown3 hgrow3)
      have hb3 : Below w.heap.size w2 w3 := ((Below.refl _ _).alloc (by omega) _).trans (below_append hgrow3 (OwnTs_alloc hown2 _) (by omega) (by simp; omega))
      go_roundw
      case rel =>
        refine ⟨m / 2, by go_num, by omega, ts ++ [Tm.int ((m % 2 : Nat) : Int)], ?_, ?_, ?_, ?_, ?_⟩
        · rw [HT.out, bitsT_pos h0]; simp
        · have e1 : List.replicate (ts ++ [Tm.int ((m % 2 : Nat) : Int)]).length ([] : List Nat) = List.replicate ts.length [] ++ [[]] := by
            simp [List.replicate_succ']
          rw [e1]
          have e2 : Tm.int ((m % 2 : Nat) : Int) = .mk 3 ((m : Int) % 2) ByteArray.empty [] := by simp [Tm.int]
          rw [e2]; exact hown3
        · have hb4 : Below (w.heap.size + 1) w2 w3 := ((Below.refl _ _).alloc (by omega) _).trans (below_append hgrow3 (OwnTs_alloc hown2 _) (by omega) (by simp; omega))
          rw [hb4.block _ (by omega), hb2.block _ (by omega)]; exact HRS.out
        · exact (hbel.trans (hb2.mono hbel.size)).trans hb3
        · have := hb3.size; omega
      case measure => simp [intOf]; omega
    · obtain rfl : m = 0 := by omega
      have hbits : bitsT N = ts := by rw [HT.out, bitsT_zero]; simp
      obtain ⟨a, l, c, b, rfl, ha, hl, hFs, hel, hrd, _⟩ := OwnTs_each hown
      have hlen : l ≤ 1000000000 := by
        have h1 := bitsT_len N
        rw [hbits, ← hl] at h1; omega
      have HB := Lib.hid hbits; clear hbits
      have HA := Lib.hid ha; clear ha
      have HL := Lib.hid hl; clear hl
      have HFs := Lib.hid hFs; clear hFs
      have HE := Lib.hid hel; clear hel
      go_wp2_with fail
      refine (list_some ts a b 0 l c _ _ HA.out HL.out (by omega) HFs.out HE.out).mono ?_
      rintro e w2 ⟨k, n, s, xs, a2, l2, c2, F2, ht, rfl, hrd2, hgr2, hb2⟩
      have HT2 := Lib.hid ht; clear ht
      have hres : w2.heap[w.heap.size]? = some (.cells #[.int .i64 0, .int .i64 0, .string ByteArray.empty, .slice none 0 0] 26 (0, 0)) := by
        rw [hb2.block _ hsz]; exact HRS.out
      have HR2 := Lib.hid hres
      have r0 := cell_of_block hres 0
      have r1 := cell_of_block hres 1
      have r2 := cell_of_block hres 2
      have r3 := cell_of_block hres 3
      have rf := frozen_of_block hres
      clear hres
      simp at r0 r1 r2 r3
      go_wp2
      have hlt : ∀ x ∈ F2, x ≠ w.heap.size := by
        intro x hx
        rcases hgr2.mem x hx with h' | ⟨h', _⟩
        · simp at h'
        · omega
      refine bodyPost_ret (v := .agg #[.int .i64 k, .int .i64 n, .string s, .slice a2 l2 c2]) (results_term rfl _ _ w.heap.size rfl (heap_set4 HR2.out)) rfl ⟨k, n, s, xs, a2, l2, c2, F2, ?_, rfl, ?_, ?_, ?_⟩
      · rw [numeralT, HB.out]; exact HT2.out
      · exact RdS_same (fun x hx => heap_set4_other (hlt x hx)) hrd2
      · refine Grows.set (w1 := w2) ⟨fun x hx => ?_, fun _ => hgr2.nodup (by simp)⟩ (fun x hx => heap_set4_other (hlt x hx))
        rcases hgr2.mem x hx with h' | ⟨h', h''⟩
        · simp at h'
        · exact .inr ⟨by omega, h''⟩
      · exact (hbel.trans (hb2.mono hbel.size)).trans (below_set4 (Nat.le_refl _))

/-- what NumeralOf answers -/
def numeralR (n : Int) : Tm := if 0 ≤ n ∧ n ≤ 1000000000 then numeralT n.toNat else Tm.nil
def numeralB (n : Int) : Bool := decide (0 ≤ n ∧ n ≤ 1000000000)

set_option maxHeartbeats 400000 in
set_option maxRecDepth 100000 in
theorem NumeralOf_impl (n : Int) (w : World) : Calls Try.prog 19 #[.int .i64 n] w (OutTB w (numeralR n) (numeralB n) []) := by
  by_cases h : 0 ≤ n ∧ n ≤ 1000000000
  · have e1 : numeralR n = numeralT n.toNat := by simp [numeralR, h]
    have e2 : numeralB n = true := by simp [numeralB, h]
    rw [e1, e2]
    obtain ⟨h1, h2⟩ := h
    obtain ⟨N, rfl⟩ := Int.eq_ofNat_of_zero_le h1
    rw [Int.toNat_natCast]
    clear e1 e2
    go_enter Try.func19, Try.ntmps19
    go_wp2_with fail
    refine (numeralOf_any N _ (by omega)).mono ?_
    rintro e w2 ⟨k, n, s, xs, a, l, c, F, ht, rfl, hrd, hgr, hb⟩
    have HT := Lib.hid ht; clear ht
    have hres : w2.heap[w.heap.size]? = some (.cells #[.int .i64 0, .int .i64 0, .string ByteArray.empty, .slice none 0 0] 26 (0, 0)) := by
      rw [hb.block _ (by simp)]; exact heap_new rfl
    have HR := Lib.hid hres
    obtain ⟨r0, r1, r2, r3, rf⟩ := box4 hres
    clear hres
    go_wp2
    have hF : ∀ x ∈ F, w.heap.size < x := by
      intro x hx
      rcases hgr.mem x hx with h' | ⟨h', _⟩
      · simp at h'
      · simp at h'; omega
    refine bodyPost_ret (v := .tuple #[.agg #[.int .i64 k, .int .i64 n, .string s, .slice a l c], .bool true]) (results_term2 rfl _ _ w.heap.size rfl rfl (heap_set4 HR.out)) rfl (OutTB_set HT.out hrd ?_ ?_ (Nat.le_refl _) (fun x hx => by have := hF x hx; omega))
    · exact ⟨fun x hx => .inr ⟨by have := hF x hx; omega, by rcases hgr.mem x hx with h' | ⟨_, h'⟩; simp at h'; exact h'⟩, fun _ => hgr.nodup (by simp)⟩
    · exact ((Below.refl _ _).alloc (Nat.le_refl _) _).trans (hb.mono (by simp))
  · have e1 : numeralR n = Tm.nil := by simp [numeralR, h]
    have e2 : numeralB n = false := by simp [numeralB]; omega
    rw [e1, e2]
    clear e1 e2
    have fin : ∀ w', Below w.heap.size w w' → OutTB w Tm.nil false [] (.returned (.tuple #[.agg #[.int .i64 0, .int .i64 0, .string ByteArray.empty, .slice none 0 0], .bool false])) w' :=
      fun w' hb => ⟨0, 0, ByteArray.empty, [], none, 0, 0, [], rfl, rfl, RdS_nil _ _ _, Grows.nil _ _ _, hb⟩
    have FIN := Lib.hid fin; clear fin
    by_cases h1 : n < 0
    · clear h
      go_enter Try.func19, Try.ntmps19
      go_wp2
      exact bodyPost_ret (v := .tuple #[.agg #[.int .i64 0, .int .i64 0, .string ByteArray.empty, .slice none 0 0], .bool false]) (results_term2 rfl _ _ w.heap.size rfl rfl (heap_new rfl)) rfl (FIN.out _ ((Below.refl _ _).alloc (Nat.le_refl _) _))
    · have h2 : 1000000000 < n := by omega
      clear h
      go_enter Try.func19, Try.ntmps19
      go_wp2
      exact bodyPost_ret (v := .tuple #[.agg #[.int .i64 0, .int .i64 0, .string ByteArray.empty, .slice none 0 0], .bool false]) (results_term2 rfl _ _ w.heap.size rfl rfl (heap_new rfl)) rfl (FIN.out _ ((Below.refl _ _).alloc (Nat.le_refl _) _))
end Go.Proofs.Ytjkabbkaeioibaa
