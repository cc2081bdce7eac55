/- Contract of the reference's AddNumerals. -/
import Derived.Test.YtjkabbkaeioibaaNumberS
import Derived.Test.YtjkabbkaeioibaaNumeralS
namespace Go.Proofs.Ytjkabbkaeioibaa
open Go.RowKit

set_option maxHeartbeats 1000000 in
set_option maxRecDepth 100000 in
theorem AddNumerals_spec (k1 n1 : Int) (s1 : ByteArray) (xs1 : List Tm) (a1 : Option Addr) (l1 c1 : Nat) (F1 : List Nat) (k2 n2 : Int) (s2 : ByteArray) (xs2 : List Tm) (a2 : Option Addr) (l2 c2 : Nat) (F2 : List Nat) (w : World)
    (h1 : RdS w xs1 a1 l1 c1 F1) (h2 : RdS w xs2 a2 l2 c2 F2) (hL1 : (Tm.mk k1 n1 s1 xs1).Lens) (hL2 : (Tm.mk k2 n2 s2 xs2).Lens) (hc1 : (Tm.mk k1 n1 s1 xs1).cnt ≤ 10000000000) (hc2 : (Tm.mk k2 n2 s2 xs2).cnt ≤ 10000000000) :
    Calls Try.prog 35 #[.agg #[.int .i64 k1, .int .i64 n1, .string s1, .slice a1 l1 c1], .agg #[.int .i64 k2, .int .i64 n2, .string s2, .slice a2 l2 c2]] w
      (OutTB w (addR (numV (.mk k1 n1 s1 xs1)) (numV (.mk k2 n2 s2 xs2))) (addB (numV (.mk k1 n1 s1 xs1)) (numV (.mk k2 n2 s2 xs2))) []) := by
  have hr1 := numV_range (.mk k1 n1 s1 xs1)
  have hr2 := numV_range (.mk k2 n2 s2 xs2)
  have N1 := Lib.hid (NumberOf_spec k1 n1 s1 xs1 a1 l1 c1 F1)
  have N2 := Lib.hid (NumberOf_spec k2 n2 s2 xs2 a2 l2 c2 F2)
  generalize hx : numV (.mk k1 n1 s1 xs1) = x at *
  generalize hy : numV (.mk k2 n2 s2 xs2) = y at *
  clear hx hy
  obtain ⟨hx0, hx1⟩ := hr1
  obtain ⟨hy0, hy1⟩ := hr2
  have hbA : ∀ o1 o2 o3, Below w.heap.size w (((w.alloc o1).alloc o2).alloc o3) := fun o1 o2 o3 => (((Below.refl _ _).alloc (Nat.le_refl _) _).alloc (by simp) _).alloc (by simp; omega) _
  have HBA := Lib.hid hbA; clear hbA
  go_enter Try.func35, Try.ntmps35
  go_wp2_with fail
  refine (N1.out _ (RdS_ext h1 (HBA.out _ _ _)) hL1 hc1).mono ?_
  rintro e w1 ⟨rfl, hb1⟩
  have hb1' := (HBA.out _ _ _).trans (hb1.mono (by simp; omega))
  have hbox2 : w1.heap[w.heap.size + 1]? = some (.cells #[.int .i64 k2, .int .i64 n2, .string s2, .slice a2 l2 c2] 26 (0, 0)) := by
    rw [hb1.block _ (by simp), heap_old (by simp), heap_new (by simp)]
  have hboxr : w1.heap[w.heap.size + 1 + 1]? = some (.cells #[.int .i64 0, .int .i64 0, .string ByteArray.empty, .slice none 0 0] 26 (0, 0)) := by
    rw [hb1.block _ (by simp), heap_new (by simp)]; rfl
  have hs1 := heap_lt hboxr
  obtain ⟨q0, q1, q2, q3, _⟩ := box4 hbox2
  have HBR := Lib.hid hboxr
  clear hbox2 hboxr hb1
  go_wp2_with fail
  refine (N2.out _ (RdS_ext h2 hb1') hL2 hc2).mono ?_
  rintro e w2 ⟨rfl, hb2⟩
  have hb2' := hb1'.trans (hb2.mono hb1'.size)
  have hboxr : w2.heap[w.heap.size + 1 + 1]? = some (.cells #[.int .i64 0, .int .i64 0, .string ByteArray.empty, .slice none 0 0] 26 (0, 0)) := by
    rw [hb2.block _ hs1]; exact HBR.out
  have HBR2 := Lib.hid hboxr
  have hs2 := heap_lt hboxr
  obtain ⟨r0, r1, r2, r3, rf⟩ := box4 hboxr
  clear hboxr hb2 q0 q1 q2 q3
  have fin : x < 0 ∨ y < 0 → ∀ w', Below w.heap.size w w' → OutTB w (addR x y) (addB x y) [] (.returned (.tuple #[.agg #[.int .i64 0, .int .i64 0, .string ByteArray.empty, .slice none 0 0], .bool false])) w' := by
    intro hor w' hb
    simp only [addR, addB, if_pos hor]
    exact ⟨0, 0, ByteArray.empty, [], none, 0, 0, [], rfl, rfl, RdS_nil _ _ _, Grows.nil _ _ _, hb⟩
  by_cases hxn : x < 0
  · have FIN := Lib.hid (fin (.inl hxn)); clear fin
    go_wp2
    exact bodyPost_ret (v := .tuple #[.agg #[.int .i64 0, .int .i64 0, .string ByteArray.empty, .slice none 0 0], .bool false]) (results_term2 rfl _ _ (w.heap.size + 1 + 1) rfl rfl (heap_set4 HBR2.out)) rfl (FIN.out _ (hb2'.trans (below_set4 (by omega))))
  · by_cases hyn : y < 0
    · have FIN := Lib.hid (fin (.inr hyn)); clear fin
      go_wp2
      exact bodyPost_ret (v := .tuple #[.agg #[.int .i64 0, .int .i64 0, .string ByteArray.empty, .slice none 0 0], .bool false]) (results_term2 rfl _ _ (w.heap.size + 1 + 1) rfl rfl (heap_set4 HBR2.out)) rfl (FIN.out _ (hb2'.trans (below_set4 (by omega))))
    · clear fin
      have d1 : decide (y < 0) = false := by simpa using hyn
      have eR : Hid (addR x y = numeralR (x + y)) := by simp [Hid, addR, show ¬ (x < 0 ∨ y < 0) by omega]
      have eB : Hid (addB x y = numeralB (x + y)) := by simp [Hid, addB, show ¬ (x < 0 ∨ y < 0) by omega]
      go_wp2_with fail
      refine (NumeralOf_spec (x + y) _).mono ?_
      rintro e w3 ⟨k, n, s, xs, a, l, c, F, ht, rfl, hrd, hgr, hb3⟩
      have HT := Lib.hid ht; clear ht
      have hb3' := hb2'.trans (hb3.mono hb2'.size)
      have hboxr : w3.heap[w.heap.size + 1 + 1]? = some (.cells #[.int .i64 0, .int .i64 0, .string ByteArray.empty, .slice none 0 0] 26 (0, 0)) := by
        rw [hb3.block _ hs2]; exact HBR2.out
      have HBR3 := Lib.hid hboxr
      have hs3 := heap_lt hboxr
      obtain ⟨t0, t1, t2, t3, tf⟩ := box4 hboxr
      clear hboxr r0 r1 r2 r3 rf
      generalize hrb : numeralB (x + y) = rb at *
      have HRB := Lib.hid hrb; clear hrb
      go_wp2
      have hF : ∀ x ∈ F, w2.heap.size ≤ x := by
        intro z hz
        rcases hgr.mem z hz with h' | ⟨h', _⟩
        · simp at h'
        · exact h'
      have hout : OutTB w (addR x y) (addB x y) [] (.returned (.tuple #[.agg #[.int .i64 k, .int .i64 n, .string s, .slice a l c], .bool rb])) ((((w3.setCell ⟨w.heap.size + 1 + 1, 0, none⟩ (.int .i64 k)).setCell ⟨w.heap.size + 1 + 1, 1, none⟩ (.int .i64 n)).setCell ⟨w.heap.size + 1 + 1, 2, none⟩ (.string s)).setCell ⟨w.heap.size + 1 + 1, 3, none⟩ (.slice a l c)) := by
        rw [eB.out]
        refine OutTB_set (by rw [eR.out]; exact HT.out) hrd ⟨fun z hz => .inr ⟨by have := hF z hz; omega, by rcases hgr.mem z hz with h' | ⟨_, h'⟩; simp at h'; exact h'⟩, fun _ => hgr.nodup (by simp)⟩ hb3' (by omega) (fun z hz => by have := hF z hz; omega)
      refine bodyPost_ret (v := .tuple #[.agg #[.int .i64 k, .int .i64 n, .string s, .slice a l c], .bool rb]) (results_term2 rfl _ _ (w.heap.size + 1 + 1) rfl rfl (heap_set4 HBR3.out)) rfl hout
end Go.Proofs.Ytjkabbkaeioibaa
