/- Contract of the reference's NumeralOf. -/
import Derived.Test.YtjkabbkaeioibaaNumeral
import Derived.Test.YtjkabbkaeioibaaSmall
namespace Go.Proofs.Ytjkabbkaeioibaa
open Go.RowKit

set_option maxHeartbeats 400000 in
set_option maxRecDepth 100000 in
theorem NumeralOf_spec (n : Int) (w : World) : Calls Try.prog 18 #[.int .i64 n] w (OutTB w (numeralR n) (numeralB n) []) := by
  by_cases h : 0 ≤ n ∧ n ≤ 1000000000
  · have e1 : numeralR n = numeralT n.toNat := by simp [numeralR, h]
    have e2 : numeralB n = true := by simp [numeralB, h]
    rw [e1, e2]
    obtain ⟨h1, h2⟩ := h
    obtain ⟨N, rfl⟩ := Int.eq_ofNat_of_zero_le h1
    rw [Int.toNat_natCast]
    clear e1 e2
    have hN : N ≤ 1000000000 := by omega
    clear h1 h2
    go_enter Try.func18, Try.ntmps18
    go_wp2_with fail
    refine (l01In_true _ _ _ _ (by omega) (by omega)).mono ?_
    rintro e w1 ⟨rfl, rfl⟩
    go_wp2_with fail
    go_loopw [0, 4] (fun nv v wr => BitsRel w N nv v wr) (fun nv _ _ => (intOf nv).toNat)
    case atStart =>
      refine ⟨N, rfl, Nat.le_refl _, [], rfl, OwnTs_empty (g := w.heap.size + 1) (Nat.le_refl _) (heap_new (by simp)), ?_, ((Below.refl _ _).alloc (Nat.le_refl _) _).alloc (by simp) _, by simp; omega⟩
      rw [heap_old (by simp), heap_new rfl]; rfl
    case round =>
      obtain ⟨m, rfl, hm, ts, hts, hown, hres, hbel, hsz⟩ := hrel
      have HT := Lib.hid hts; clear hts
      have HRS := Lib.hid hres; clear hres
      by_cases h0 : 0 < m
      · go_wp2_with fail
        refine (l02Num_any _ _).mono ?_
        rintro e w2 ⟨rfl, hb2⟩
        have hown2 := OwnTs_below hown hb2
        have hlen : ts.length ≤ 1000000000 := by
          have h1 := bitsT_len N
          rw [HT.out] at h1
          simp at h1; omega
        have hs2 := hb2.size
        go_wp2_with (at_builtin; refine append_term rfl _ _ rfl (w.heap.size + 1) _ ts _ rfl (OwnTs_alloc hown2 _) _ rfl _ _ _ _ _ _ [] [] _ _ (heap_new rfl) (RdS_nil _ _ _) (by simp) (by omega) (by simp; omega) ?_; intro v' w3 hown3 hgrow3)
        have hb3 : Below w.heap.size w2 w3 := ((Below.refl _ _).alloc (by omega) _).trans (below_append hgrow3 (OwnTs_alloc hown2 _) (by omega) (by simp; omega))
        go_roundw
        case rel =>
          refine ⟨m / 2, by go_num, by omega, ts ++ [Tm.int ((m % 2 : Nat) : Int)], ?_, ?_, ?_, ?_, ?_⟩
          · rw [HT.out, bitsT_pos h0]; simp
          · have e1 : List.replicate (ts ++ [Tm.int ((m % 2 : Nat) : Int)]).length ([] : List Nat) = List.replicate ts.length [] ++ [[]] := by
              simp [List.replicate_succ']
            rw [e1]
            have e2 : Tm.int ((m % 2 : Nat) : Int) = .mk 3 ((m : Int) % 2) ByteArray.empty [] := by simp [Tm.int]
            rw [e2]; exact hown3
          · have hb4 : Below (w.heap.size + 1) w2 w3 := ((Below.refl _ _).alloc (by omega) _).trans (below_append hgrow3 (OwnTs_alloc hown2 _) (by omega) (by simp; omega))
            rw [hb4.block _ (by omega), hb2.block _ (by omega)]; exact HRS.out
          · exact (hbel.trans (hb2.mono hbel.size)).trans hb3
          · have := hb3.size; omega
        case measure => simp [intOf]; omega
      · obtain rfl : m = 0 := by omega
        have hbits : bitsT N = ts := by rw [HT.out, bitsT_zero]; simp
        obtain ⟨a, l, c, b, rfl, ha, hl, hFs, hel, hrd, _⟩ := OwnTs_each hown
        have hlen : l ≤ 1000000000 := by
          have h1 := bitsT_len N
          rw [hbits, ← hl] at h1; omega
        have HB := Lib.hid hbits; clear hbits
        have HA := Lib.hid ha; clear ha
        have HL := Lib.hid hl; clear hl
        have HFs := Lib.hid hFs; clear hFs
        have HE := Lib.hid hel; clear hel
        go_wp2_with fail
        refine (l02List_some ts a b 0 l c _ 0 0 ByteArray.empty [] none 0 0 [] _ (RdS_nil _ _ _) HA.out HL.out (by omega) HFs.out HE.out).mono ?_
        rintro e w2 ⟨k, n, s, xs, a2, l2, c2, F2, ht, rfl, hrd2, hgr2, hb2⟩
        have HT2 := Lib.hid ht; clear ht
        have hres : w2.heap[w.heap.size]? = some (.cells #[.int .i64 0, .int .i64 0, .string ByteArray.empty, .slice none 0 0] 26 (0, 0)) := by
          rw [hb2.block _ hsz]; exact HRS.out
        have HR2 := Lib.hid hres
        obtain ⟨r0, r1, r2, r3, rf⟩ := box4 hres
        clear hres
        go_wp2
        have hlt : ∀ x ∈ F2, wr.heap.size ≤ x := by
          intro x hx
          rcases hgr2.mem x hx with h' | ⟨h', _⟩
          · simp at h'
          · exact h'
        refine bodyPost_ret (v := .tuple #[.agg #[.int .i64 k, .int .i64 n, .string s, .slice a2 l2 c2], .bool true]) (results_term2 rfl _ _ w.heap.size rfl rfl (heap_set4 HR2.out)) rfl (OutTB_set ?_ hrd2 ?_ ?_ (Nat.le_refl _) (fun x hx => by have := hlt x hx; omega))
        · rw [numeralT, HB.out]; exact HT2.out
        · exact ⟨fun x hx => .inr ⟨by have := hlt x hx; omega, by rcases hgr2.mem x hx with h' | ⟨_, h'⟩; simp at h'; exact h'⟩, fun _ => hgr2.nodup (by simp)⟩
        · exact hbel.trans (hb2.mono hbel.size)
  · have e1 : numeralR n = Tm.nil := by simp [numeralR, h]
    have e2 : numeralB n = false := by simp [numeralB]; omega
    rw [e1, e2]
    clear e1 e2
    have fin : ∀ w', Below w.heap.size w w' → OutTB w Tm.nil false [] (.returned (.tuple #[.agg #[.int .i64 0, .int .i64 0, .string ByteArray.empty, .slice none 0 0], .bool false])) w' :=
      fun w' hb => ⟨0, 0, ByteArray.empty, [], none, 0, 0, [], rfl, rfl, RdS_nil _ _ _, Grows.nil _ _ _, hb⟩
    have FIN := Lib.hid fin; clear fin
    have hor : n < 0 ∨ 1000000000 < n := by omega
    have HOR := Lib.hid hor; clear hor h
    go_enter Try.func18, Try.ntmps18
    go_wp2_with fail
    refine (l01In_false _ _ _ _ HOR.out).mono ?_
    rintro e w1 ⟨rfl, rfl⟩
    go_wp2
    exact bodyPost_ret (v := .tuple #[.agg #[.int .i64 0, .int .i64 0, .string ByteArray.empty, .slice none 0 0], .bool false]) (results_term2 rfl _ _ w.heap.size rfl rfl (heap_new rfl)) rfl (FIN.out _ ((Below.refl _ _).alloc (Nat.le_refl _) _))
end Go.Proofs.Ytjkabbkaeioibaa
