/- The program's evaluator: no step left. The program's evaluator: no step left; a symbol; no list; a list of a length that no form has. The program's evaluator: quote; lists of three and four that are no form. The program's evaluator: an application whose function is no closure. The program's evaluator: lambda. -/
import Derived.Test.YtjkabbkaeioibaaEvalDefs
import Derived.Deep.RegionHeld3
namespace Go.Proofs.Ytjkabbkaeioibaa
open Go.RowKit
set_option linter.unusedVariables false

set_option maxHeartbeats 8000000 in
set_option maxRecDepth 200000 in
theorem eval_zero (steps B : Nat) (k1 n1 : Int) (s1 : ByteArray) (xs1 : List Tm) (a1 : Option Addr) (l1 c1 : Nat) (F1 : List Nat) (k2 n2 : Int) (s2 : ByteArray) (xs2 : List Tm) (a2 : Option Addr) (l2 c2 : Nat) (F2 : List Nat) (w : World)
    (h1000 : steps ≤ 1000) (hlsp : LispAt w B steps 0) (h1 : RdS w xs1 a1 l1 c1 F1) (h2 : RdS w xs2 a2 l2 c2 F2) (hB1 : B ∉ F1) (hB2 : B ∉ F2) (hok1 : (Tm.mk k1 n1 s1 xs1).ok = true) (hok2 : (Tm.mk k2 n2 s2 xs2).ok = true)  :
    Calls Try.prog 86 #[.pointer (some ⟨B, 0, none⟩), .agg #[.int .i64 k1, .int .i64 n1, .string s1, .slice a1 l1 c1], .agg #[.int .i64 k2, .int .i64 n2, .string s2, .slice a2 l2 c2]] w
      (EvOut w B steps F1 F2 ((Tm.nil, 2, 0))) := by
  have hBw : B < w.heap.size := heap_lt hlsp
  have hF1 := RdS_lt h1
  have hF2 := RdS_lt h2
  obtain ⟨tk, htk⟩ : ∃ tk : Int, tk = (steps : Int) - ((0 : Nat) : Int) := ⟨_, rfl⟩
  unfold LispAt at hlsp
  rw [← htk] at hlsp
  have HTK := Lib.hid htk; have HLSP := Lib.hid hlsp; have HF1 := Lib.hid hF1; have HF2 := Lib.hid hF2
  have HH1 := Lib.hid h1; have HH2 := Lib.hid h2; have HOK1 := Lib.hid hok1; have HOK2 := Lib.hid hok2; have HB1 := Lib.hid hB1; have HB2 := Lib.hid hB2
  have htk0 : 0 ≤ tk := by omega
  have htk1 : tk ≤ 1000 := by omega
  have hne : (tk == (steps : Int)) = true := by simp; omega
  have HNE := Lib.hid hne
  clear htk hlsp hF1 hF2 h1 h2 hok1 hok2 hB1 hB2 hne
  go_enter Try.func86, Try.ntmps86
  go_wp2_with fail
  have hbN : Below w.heap.size w (((w.alloc (.cells #[.int .i64 k1, .int .i64 n1, .string s1, .slice a1 l1 c1] 26)).alloc (.cells #[.int .i64 k2, .int .i64 n2, .string s2, .slice a2 l2 c2] 26)).alloc (.cells #[.int .i64 0, .int .i64 0, .string ⟨#[]⟩, .slice none 0 0] 26)) := (((Below.refl _ _).alloc (Nat.le_refl _) _).alloc (by simp) _).alloc (by simp; omega) _
  have hA1 : (((w.alloc (.cells #[.int .i64 k1, .int .i64 n1, .string s1, .slice a1 l1 c1] 26)).alloc (.cells #[.int .i64 k2, .int .i64 n2, .string s2, .slice a2 l2 c2] 26)).alloc (.cells #[.int .i64 0, .int .i64 0, .string ⟨#[]⟩, .slice none 0 0] 26)).heap[w.heap.size]? = some (.cells #[.int .i64 k1, .int .i64 n1, .string s1, .slice a1 l1 c1] 26 (0, 0)) := by
    rw [heap_old (by simp; omega), heap_old (by simp)]; exact heap_new rfl
  have hA2 : (((w.alloc (.cells #[.int .i64 k1, .int .i64 n1, .string s1, .slice a1 l1 c1] 26)).alloc (.cells #[.int .i64 k2, .int .i64 n2, .string s2, .slice a2 l2 c2] 26)).alloc (.cells #[.int .i64 0, .int .i64 0, .string ⟨#[]⟩, .slice none 0 0] 26)).heap[w.heap.size + 1]? = some (.cells #[.int .i64 k2, .int .i64 n2, .string s2, .slice a2 l2 c2] 26 (0, 0)) := by
    rw [heap_old (by simp)]; exact heap_new (by simp)
  have hA3 : (((w.alloc (.cells #[.int .i64 k1, .int .i64 n1, .string s1, .slice a1 l1 c1] 26)).alloc (.cells #[.int .i64 k2, .int .i64 n2, .string s2, .slice a2 l2 c2] 26)).alloc (.cells #[.int .i64 0, .int .i64 0, .string ⟨#[]⟩, .slice none 0 0] 26)).heap[w.heap.size + 1 + 1]? = some (.cells #[.int .i64 0, .int .i64 0, .string ⟨#[]⟩, .slice none 0 0] 26 (0, 0)) := heap_new (by simp)
  have hsz : (((w.alloc (.cells #[.int .i64 k1, .int .i64 n1, .string s1, .slice a1 l1 c1] 26)).alloc (.cells #[.int .i64 k2, .int .i64 n2, .string s2, .slice a2 l2 c2] 26)).alloc (.cells #[.int .i64 0, .int .i64 0, .string ⟨#[]⟩, .slice none 0 0] 26)).heap.size = w.heap.size + 3 := by simp
  generalize (((w.alloc (.cells #[.int .i64 k1, .int .i64 n1, .string s1, .slice a1 l1 c1] 26)).alloc (.cells #[.int .i64 k2, .int .i64 n2, .string s2, .slice a2 l2 c2] 26)).alloc (.cells #[.int .i64 0, .int .i64 0, .string ⟨#[]⟩, .slice none 0 0] 26)) = W at *
  have HA1 := Lib.hid hA1; have HA2 := Lib.hid hA2; have HA3 := Lib.hid hA3; have HSZ := Lib.hid hsz
  have HBL := Lib.hid ((hbN.block _ hBw).trans HLSP.out)
  have hBW : B < W.heap.size := by omega
  obtain ⟨m0, m1, mf⟩ : W.cell? ⟨B, 0, none⟩ = some (.int .i64 (steps : Int)) ∧ W.cell? ⟨B, 1, none⟩ = some (.int .i64 tk) ∧ ∀ o, W.frozen? ⟨B, o, none⟩ = false := ⟨by simpa using cell_of_block HBL.out 0, by simpa using cell_of_block HBL.out 1, frozen_of_block HBL.out⟩
  clear hA1 hA2 hA3 hsz
  go_region_held3 (fun w' => w'.cell? ⟨B, 0, none⟩ = some (.int .i64 (steps : Int)) ∧ w'.cell? ⟨B, 1, none⟩ = some (.int .i64 tk)) (first | exact ⟨m0, m1⟩) (fail)
  have hne := HNE.out
  have hFr : Fr w W.drew B steps 0 k2 n2 s2 a2 l2 c2 := by
    refine ⟨HA2.out, HA3.out, ?_, ⟨hbN.os, hbN.tape, hbN.output, by have := HSZ.out; show _ ≤ W.heap.size; omega, fun x hx hr => hbN.block x hx⟩, by have := HSZ.out; show _ ≤ W.heap.size; omega⟩
    show W.heap[B]? = _
    rw [HBL.out, HTK.out]
  clear m0 m1 mf
  generalize W.drew = V at *
  obtain ⟨r0, r1, r2, r3, rf, rl⟩ := hFr.res
  go_wp2
  exact bodyPost_ret (v := .tuple #[.agg #[.int .i64 0, .int .i64 0, .string ⟨#[]⟩, .slice none 0 0], .int .i64 2]) (results_term2 rfl _ _ (w.heap.size + 1 + 1) rfl rfl (heap_set4 hFr.b6)) rfl (EvOut_nil (r := (Tm.nil, 2, 0)) hFr hBw HF1.out HF2.out rfl rfl rfl)
end Go.Proofs.Ytjkabbkaeioibaa
namespace Go.Proofs.Ytjkabbkaeioibaa
open Go.RowKit
set_option linter.unusedVariables false

set_option maxHeartbeats 8000000 in
set_option maxRecDepth 200000 in
theorem eval_sym (fuel : Nat) (ih : EvalT fuel) (left steps B : Nat) (k1 n1 : Int) (s1 : ByteArray) (xs1 : List Tm) (a1 : Option Addr) (l1 c1 : Nat) (F1 : List Nat) (k2 n2 : Int) (s2 : ByteArray) (xs2 : List Tm) (a2 : Option Addr) (l2 c2 : Nat) (F2 : List Nat) (w : World)
    (hlf : left ≤ fuel) (hst : left + 1 ≤ steps) (h1000 : steps ≤ 1000) (hlsp : LispAt w B steps (left + 1)) (h1 : RdS w xs1 a1 l1 c1 F1) (h2 : RdS w xs2 a2 l2 c2 F2) (hB1 : B ∉ F1) (hB2 : B ∉ F2) (hok1 : (Tm.mk k1 n1 s1 xs1).ok = true) (hok2 : (Tm.mk k2 n2 s2 xs2).ok = true) (hk : k1 = 2) :
    Calls Try.prog 86 #[.pointer (some ⟨B, 0, none⟩), .agg #[.int .i64 k1, .int .i64 n1, .string s1, .slice a1 l1 c1], .agg #[.int .i64 k2, .int .i64 n2, .string s2, .slice a2 l2 c2]] w
      (EvOut w B steps F1 F2 (evStep (ev fuel) left (.mk k1 n1 s1 xs1) (.mk k2 n2 s2 xs2))) := by
  have hres : Hid (evStep (ev fuel) left (.mk k1 n1 s1 xs1) (.mk k2 n2 s2 xs2) = evLook (lookL (.mk k1 n1 s1 xs1) (Tm.mk k2 n2 s2 xs2).its) left) := by
    show _ = _
    rw [evStep, if_pos (show (Tm.mk k1 n1 s1 xs1).kind = 2 from hk)]
  have hk' : (k1 == 2) = true := by simpa using hk
  have LK := Lib.hid (lookup_impl k1 n1 s1 xs1 a1 l1 c1 F1 k2 n2 s2 xs2 a2 l2 c2 F2)
  rw [hres.out]
  generalize lookL (.mk k1 n1 s1 xs1) (Tm.mk k2 n2 s2 xs2).its = res at *
  clear hk hres
  have hBw : B < w.heap.size := heap_lt hlsp
  have hF1 := RdS_lt h1
  have hF2 := RdS_lt h2
  obtain ⟨tk, htk⟩ : ∃ tk : Int, tk = (steps : Int) - ((left + 1 : Nat) : Int) := ⟨_, rfl⟩
  unfold LispAt at hlsp
  rw [← htk] at hlsp
  have HTK := Lib.hid htk; have HLSP := Lib.hid hlsp; have HF1 := Lib.hid hF1; have HF2 := Lib.hid hF2; have IH := Lib.hid ih
  have HH1 := Lib.hid h1; have HH2 := Lib.hid h2; have HOK1 := Lib.hid hok1; have HOK2 := Lib.hid hok2; have HB1 := Lib.hid hB1; have HB2 := Lib.hid hB2
  have htk0 : 0 ≤ tk := by omega
  have htk1 : tk ≤ 1000 := by omega
  have hne : (tk == (steps : Int)) = false := by simp; omega
  have HNE := Lib.hid hne
  clear htk hlsp hF1 hF2 ih h1 h2 hok1 hok2 hB1 hB2 hne
  go_enter Try.func86, Try.ntmps86
  go_wp2_with fail
  have hbN : Below w.heap.size w (((w.alloc (.cells #[.int .i64 k1, .int .i64 n1, .string s1, .slice a1 l1 c1] 26)).alloc (.cells #[.int .i64 k2, .int .i64 n2, .string s2, .slice a2 l2 c2] 26)).alloc (.cells #[.int .i64 0, .int .i64 0, .string ⟨#[]⟩, .slice none 0 0] 26)) := (((Below.refl _ _).alloc (Nat.le_refl _) _).alloc (by simp) _).alloc (by simp; omega) _
  have hA1 : (((w.alloc (.cells #[.int .i64 k1, .int .i64 n1, .string s1, .slice a1 l1 c1] 26)).alloc (.cells #[.int .i64 k2, .int .i64 n2, .string s2, .slice a2 l2 c2] 26)).alloc (.cells #[.int .i64 0, .int .i64 0, .string ⟨#[]⟩, .slice none 0 0] 26)).heap[w.heap.size]? = some (.cells #[.int .i64 k1, .int .i64 n1, .string s1, .slice a1 l1 c1] 26 (0, 0)) := by
    rw [heap_old (by simp; omega), heap_old (by simp)]; exact heap_new rfl
  have hA2 : (((w.alloc (.cells #[.int .i64 k1, .int .i64 n1, .string s1, .slice a1 l1 c1] 26)).alloc (.cells #[.int .i64 k2, .int .i64 n2, .string s2, .slice a2 l2 c2] 26)).alloc (.cells #[.int .i64 0, .int .i64 0, .string ⟨#[]⟩, .slice none 0 0] 26)).heap[w.heap.size + 1]? = some (.cells #[.int .i64 k2, .int .i64 n2, .string s2, .slice a2 l2 c2] 26 (0, 0)) := by
    rw [heap_old (by simp)]; exact heap_new (by simp)
  have hA3 : (((w.alloc (.cells #[.int .i64 k1, .int .i64 n1, .string s1, .slice a1 l1 c1] 26)).alloc (.cells #[.int .i64 k2, .int .i64 n2, .string s2, .slice a2 l2 c2] 26)).alloc (.cells #[.int .i64 0, .int .i64 0, .string ⟨#[]⟩, .slice none 0 0] 26)).heap[w.heap.size + 1 + 1]? = some (.cells #[.int .i64 0, .int .i64 0, .string ⟨#[]⟩, .slice none 0 0] 26 (0, 0)) := heap_new (by simp)
  have hsz : (((w.alloc (.cells #[.int .i64 k1, .int .i64 n1, .string s1, .slice a1 l1 c1] 26)).alloc (.cells #[.int .i64 k2, .int .i64 n2, .string s2, .slice a2 l2 c2] 26)).alloc (.cells #[.int .i64 0, .int .i64 0, .string ⟨#[]⟩, .slice none 0 0] 26)).heap.size = w.heap.size + 3 := by simp
  generalize (((w.alloc (.cells #[.int .i64 k1, .int .i64 n1, .string s1, .slice a1 l1 c1] 26)).alloc (.cells #[.int .i64 k2, .int .i64 n2, .string s2, .slice a2 l2 c2] 26)).alloc (.cells #[.int .i64 0, .int .i64 0, .string ⟨#[]⟩, .slice none 0 0] 26)) = W at *
  have HA1 := Lib.hid hA1; have HA2 := Lib.hid hA2; have HA3 := Lib.hid hA3; have HSZ := Lib.hid hsz
  have HBL := Lib.hid ((hbN.block _ hBw).trans HLSP.out)
  have hBW : B < W.heap.size := by omega
  obtain ⟨m0, m1, mf⟩ : W.cell? ⟨B, 0, none⟩ = some (.int .i64 (steps : Int)) ∧ W.cell? ⟨B, 1, none⟩ = some (.int .i64 tk) ∧ ∀ o, W.frozen? ⟨B, o, none⟩ = false := ⟨by simpa using cell_of_block HBL.out 0, by simpa using cell_of_block HBL.out 1, frozen_of_block HBL.out⟩
  clear hA1 hA2 hA3 hsz
  go_region_held3 (fun w' => w'.cell? ⟨B, 0, none⟩ = some (.int .i64 (steps : Int)) ∧ w'.cell? ⟨B, 1, none⟩ = some (.int .i64 tk)) (first | exact ⟨m0, m1⟩) (fail)
  have hne := HNE.out
  obtain ⟨e0, e1, e2, e3, _⟩ := box4 HA1.out
  obtain ⟨f0, f1, f2, f3, _⟩ := box4 HA2.out
  have hlt1 : w.heap.size < W.heap.size := by have := HSZ.out; omega
  have hlt2 : w.heap.size + 1 < W.heap.size := by have := HSZ.out; omega
  have hneB0 : w.heap.size ≠ B := by omega
  have hneB1 : w.heap.size + 1 ≠ B := by omega
  have hneB2 : w.heap.size + 1 + 1 ≠ B := by omega
  go_wp2_with fail
  have hFr : Fr w ((W.setCell ⟨B, 1, none⟩ (.int .i64 (tk + 1))).drew) B steps left k2 n2 s2 a2 l2 c2 := by
    refine ⟨(heap_set_other _ hneB1).trans HA2.out, (heap_set_other _ hneB2).trans HA3.out, ?_, ⟨hbN.os, hbN.tape, hbN.output, by have := HSZ.out; simp [World.setCell]; omega, fun x hx hr => (heap_set_other _ (by simpa using hr)).trans (hbN.block x hx)⟩, by have := HSZ.out; simp [World.setCell]; omega⟩
    have h0 := heap_set (o := 1) (.int .i64 (tk + 1)) HBL.out
    show (W.setCell ⟨B, 1, none⟩ (.int .i64 (tk + 1))).heap[B]? = _
    rw [h0, HTK.out]
    have he : (steps : Int) - ((left + 1 : Nat) : Int) + 1 = (steps : Int) - (left : Int) := by omega
    rw [he]; rfl
  have hrdE : RdS ((W.setCell ⟨B, 1, none⟩ (.int .i64 (tk + 1))).drew) xs1 a1 l1 c1 F1 := RdS_grown HH1.out hFr.ext (fun x hx hh => HB1.out (hh ▸ hx))
  have hrdN : RdS ((W.setCell ⟨B, 1, none⟩ (.int .i64 (tk + 1))).drew) xs2 a2 l2 c2 F2 := RdS_grown HH2.out hFr.ext (fun x hx hh => HB2.out (hh ▸ hx))
  generalize (W.setCell ⟨B, 1, none⟩ (.int .i64 (tk + 1))).drew = V at *
  have hsV := hFr.sz
  refine (LK.out V hrdE hrdN (ok_wf HOK1.out).1 (ok_wf HOK2.out).1).mono ?_
  rintro e V1 ⟨k, n, s, xs, a, l, c, F, ht, rfl, hrd, hF, hb⟩
  replace hFr := hFr.below hBw hb
  have HT := Lib.hid ht
  have hGd : Gd w F1 F2 F := fun x hx => by
    rcases hF x hx with h' | h'
    · exact .inr (.inl h')
    · exact .inr (.inr (by omega))
  clear ht hF hb hrdE hrdN e0 e1 e2 e3 f0 f1 f2 f3 m0 m1 mf
  obtain ⟨r0, r1, r2, r3, rf, rl⟩ := hFr.res
  cases res with
  | none =>
    go_wp2
    exact bodyPost_ret (v := .tuple #[.agg #[.int .i64 0, .int .i64 0, .string ⟨#[]⟩, .slice none 0 0], .int .i64 1]) (results_term2 rfl _ _ (w.heap.size + 1 + 1) rfl rfl ((heap_old (by rw [size_set4]; exact rl)).trans (heap_set4 hFr.b6))) rfl ((EvOut_later (EvOut_nil (r := stuck left) hFr hBw HF1.out HF2.out rfl rfl rfl) ((Below.refl _ _).alloc (Nat.le_refl _) _) (by rw [size_set4]; have := hFr.sz; omega)))
  | some v =>
    go_wp2
    exact bodyPost_ret (v := .tuple #[.agg #[.int .i64 k, .int .i64 n, .string s, .slice a l c], .int .i64 0]) (results_term2 rfl _ _ (w.heap.size + 1 + 1) rfl rfl ((heap_old (by rw [size_set4]; exact rl)).trans (heap_set4 hFr.b6))) rfl ((EvOut_later (EvOut_set (r := (v, 0, left)) hFr hBw HF1.out HF2.out HT.out rfl rfl hrd hGd) ((Below.refl _ _).alloc (Nat.le_refl _) _) (by rw [size_set4]; have := hFr.sz; omega)))

set_option maxHeartbeats 8000000 in
set_option maxRecDepth 200000 in
theorem eval_tail (fuel : Nat) (ih : EvalT fuel) (left steps B : Nat) (k1 n1 : Int) (s1 : ByteArray) (xs1 : List Tm) (a1 : Option Addr) (l1 c1 : Nat) (F1 : List Nat) (k2 n2 : Int) (s2 : ByteArray) (xs2 : List Tm) (a2 : Option Addr) (l2 c2 : Nat) (F2 : List Nat) (w : World)
    (hlf : left ≤ fuel) (hst : left + 1 ≤ steps) (h1000 : steps ≤ 1000) (hlsp : LispAt w B steps (left + 1)) (h1 : RdS w xs1 a1 l1 c1 F1) (h2 : RdS w xs2 a2 l2 c2 F2) (hB1 : B ∉ F1) (hB2 : B ∉ F2) (hok1 : (Tm.mk k1 n1 s1 xs1).ok = true) (hok2 : (Tm.mk k2 n2 s2 xs2).ok = true) (hk : k1 ≠ 2) (htl : (Tm.mk k1 n1 s1 xs1).tl.kind ≠ 0) :
    Calls Try.prog 86 #[.pointer (some ⟨B, 0, none⟩), .agg #[.int .i64 k1, .int .i64 n1, .string s1, .slice a1 l1 c1], .agg #[.int .i64 k2, .int .i64 n2, .string s2, .slice a2 l2 c2]] w
      (EvOut w B steps F1 F2 (evStep (ev fuel) left (.mk k1 n1 s1 xs1) (.mk k2 n2 s2 xs2))) := by
  have hres : evStep (ev fuel) left (.mk k1 n1 s1 xs1) (.mk k2 n2 s2 xs2) = stuck left := by
    rw [evStep, if_neg (show (Tm.mk k1 n1 s1 xs1).kind ≠ 2 from hk), if_pos htl]
  rw [hres]
  have HTL : Hid (((Tm.mk k1 n1 s1 xs1).tl.kind == 0) = false) := by show _ = _; simpa using htl
  clear hres htl
  have hk' : (k1 == 2) = false := by simpa using hk
  have IT := Lib.hid (items_impl k1 n1 s1 xs1 a1 l1 c1 F1)
  clear hk
  have hBw : B < w.heap.size := heap_lt hlsp
  have hF1 := RdS_lt h1
  have hF2 := RdS_lt h2
  obtain ⟨tk, htk⟩ : ∃ tk : Int, tk = (steps : Int) - ((left + 1 : Nat) : Int) := ⟨_, rfl⟩
  unfold LispAt at hlsp
  rw [← htk] at hlsp
  have HTK := Lib.hid htk; have HLSP := Lib.hid hlsp; have HF1 := Lib.hid hF1; have HF2 := Lib.hid hF2; have IH := Lib.hid ih
  have HH1 := Lib.hid h1; have HH2 := Lib.hid h2; have HOK1 := Lib.hid hok1; have HOK2 := Lib.hid hok2; have HB1 := Lib.hid hB1; have HB2 := Lib.hid hB2
  have htk0 : 0 ≤ tk := by omega
  have htk1 : tk ≤ 1000 := by omega
  have hne : (tk == (steps : Int)) = false := by simp; omega
  have HNE := Lib.hid hne
  clear htk hlsp hF1 hF2 ih h1 h2 hok1 hok2 hB1 hB2 hne
  go_enter Try.func86, Try.ntmps86
  go_wp2_with fail
  have hbN : Below w.heap.size w (((w.alloc (.cells #[.int .i64 k1, .int .i64 n1, .string s1, .slice a1 l1 c1] 26)).alloc (.cells #[.int .i64 k2, .int .i64 n2, .string s2, .slice a2 l2 c2] 26)).alloc (.cells #[.int .i64 0, .int .i64 0, .string ⟨#[]⟩, .slice none 0 0] 26)) := (((Below.refl _ _).alloc (Nat.le_refl _) _).alloc (by simp) _).alloc (by simp; omega) _
  have hA1 : (((w.alloc (.cells #[.int .i64 k1, .int .i64 n1, .string s1, .slice a1 l1 c1] 26)).alloc (.cells #[.int .i64 k2, .int .i64 n2, .string s2, .slice a2 l2 c2] 26)).alloc (.cells #[.int .i64 0, .int .i64 0, .string ⟨#[]⟩, .slice none 0 0] 26)).heap[w.heap.size]? = some (.cells #[.int .i64 k1, .int .i64 n1, .string s1, .slice a1 l1 c1] 26 (0, 0)) := by
    rw [heap_old (by simp; omega), heap_old (by simp)]; exact heap_new rfl
  have hA2 : (((w.alloc (.cells #[.int .i64 k1, .int .i64 n1, .string s1, .slice a1 l1 c1] 26)).alloc (.cells #[.int .i64 k2, .int .i64 n2, .string s2, .slice a2 l2 c2] 26)).alloc (.cells #[.int .i64 0, .int .i64 0, .string ⟨#[]⟩, .slice none 0 0] 26)).heap[w.heap.size + 1]? = some (.cells #[.int .i64 k2, .int .i64 n2, .string s2, .slice a2 l2 c2] 26 (0, 0)) := by
    rw [heap_old (by simp)]; exact heap_new (by simp)
  have hA3 : (((w.alloc (.cells #[.int .i64 k1, .int .i64 n1, .string s1, .slice a1 l1 c1] 26)).alloc (.cells #[.int .i64 k2, .int .i64 n2, .string s2, .slice a2 l2 c2] 26)).alloc (.cells #[.int .i64 0, .int .i64 0, .string ⟨#[]⟩, .slice none 0 0] 26)).heap[w.heap.size + 1 + 1]? = some (.cells #[.int .i64 0, .int .i64 0, .string ⟨#[]⟩, .slice none 0 0] 26 (0, 0)) := heap_new (by simp)
  have hsz : (((w.alloc (.cells #[.int .i64 k1, .int .i64 n1, .string s1, .slice a1 l1 c1] 26)).alloc (.cells #[.int .i64 k2, .int .i64 n2, .string s2, .slice a2 l2 c2] 26)).alloc (.cells #[.int .i64 0, .int .i64 0, .string ⟨#[]⟩, .slice none 0 0] 26)).heap.size = w.heap.size + 3 := by simp
  generalize (((w.alloc (.cells #[.int .i64 k1, .int .i64 n1, .string s1, .slice a1 l1 c1] 26)).alloc (.cells #[.int .i64 k2, .int .i64 n2, .string s2, .slice a2 l2 c2] 26)).alloc (.cells #[.int .i64 0, .int .i64 0, .string ⟨#[]⟩, .slice none 0 0] 26)) = W at *
  have HA1 := Lib.hid hA1; have HA2 := Lib.hid hA2; have HA3 := Lib.hid hA3; have HSZ := Lib.hid hsz
  have HBL := Lib.hid ((hbN.block _ hBw).trans HLSP.out)
  have hBW : B < W.heap.size := by omega
  obtain ⟨m0, m1, mf⟩ : W.cell? ⟨B, 0, none⟩ = some (.int .i64 (steps : Int)) ∧ W.cell? ⟨B, 1, none⟩ = some (.int .i64 tk) ∧ ∀ o, W.frozen? ⟨B, o, none⟩ = false := ⟨by simpa using cell_of_block HBL.out 0, by simpa using cell_of_block HBL.out 1, frozen_of_block HBL.out⟩
  clear hA1 hA2 hA3 hsz
  go_region_held3 (fun w' => w'.cell? ⟨B, 0, none⟩ = some (.int .i64 (steps : Int)) ∧ w'.cell? ⟨B, 1, none⟩ = some (.int .i64 tk)) (first | exact ⟨m0, m1⟩) (fail)
  have hne := HNE.out
  obtain ⟨e0, e1, e2, e3, _⟩ := box4 HA1.out
  obtain ⟨f0, f1, f2, f3, _⟩ := box4 HA2.out
  have hlt1 : w.heap.size < W.heap.size := by have := HSZ.out; omega
  have hlt2 : w.heap.size + 1 < W.heap.size := by have := HSZ.out; omega
  have hneB0 : w.heap.size ≠ B := by omega
  have hneB1 : w.heap.size + 1 ≠ B := by omega
  have hneB2 : w.heap.size + 1 + 1 ≠ B := by omega
  go_wp2_with fail
  have hFr : Fr w ((W.setCell ⟨B, 1, none⟩ (.int .i64 (tk + 1))).drew) B steps left k2 n2 s2 a2 l2 c2 := by
    refine ⟨(heap_set_other _ hneB1).trans HA2.out, (heap_set_other _ hneB2).trans HA3.out, ?_, ⟨hbN.os, hbN.tape, hbN.output, by have := HSZ.out; simp [World.setCell]; omega, fun x hx hr => (heap_set_other _ (by simpa using hr)).trans (hbN.block x hx)⟩, by have := HSZ.out; simp [World.setCell]; omega⟩
    have h0 := heap_set (o := 1) (.int .i64 (tk + 1)) HBL.out
    show (W.setCell ⟨B, 1, none⟩ (.int .i64 (tk + 1))).heap[B]? = _
    rw [h0, HTK.out]
    have he : (steps : Int) - ((left + 1 : Nat) : Int) + 1 = (steps : Int) - (left : Int) := by omega
    rw [he]; rfl
  have hrdE : RdS ((W.setCell ⟨B, 1, none⟩ (.int .i64 (tk + 1))).drew) xs1 a1 l1 c1 F1 := RdS_grown HH1.out hFr.ext (fun x hx hh => HB1.out (hh ▸ hx))
  have hrdN : RdS ((W.setCell ⟨B, 1, none⟩ (.int .i64 (tk + 1))).drew) xs2 a2 l2 c2 F2 := RdS_grown HH2.out hFr.ext (fun x hx hh => HB2.out (hh ▸ hx))
  generalize (W.setCell ⟨B, 1, none⟩ (.int .i64 (tk + 1))).drew = V at *
  have hsV := hFr.sz
  refine (IT.out V hrdE HOK1.out).mono ?_
  rintro e V1 ⟨ia, il, ic, iF, rfl, hird, hiF, hb⟩
  replace hFr := hFr.below hBw hb
  replace hrdN := RdS_ext hrdN hb
  have hGi : Gd w F1 F2 iF := fun x hx => by
    rcases hiF x hx with h' | h'
    · exact .inl h'
    · exact .inr (.inr (by omega))
  clear hiF hb hrdE e0 e1 e2 e3 f0 f1 f2 f3 m0 m1 mf
  rw [HTL.out]
  obtain ⟨r0, r1, r2, r3, rf, rl⟩ := hFr.res
  go_wp2
  exact bodyPost_ret (v := .tuple #[.agg #[.int .i64 0, .int .i64 0, .string ⟨#[]⟩, .slice none 0 0], .int .i64 1]) (results_term2 rfl _ _ (w.heap.size + 1 + 1) rfl rfl (heap_set4 hFr.b6)) rfl (EvOut_nil (r := stuck left) hFr hBw HF1.out HF2.out rfl rfl rfl)

set_option maxHeartbeats 8000000 in
set_option maxRecDepth 200000 in
theorem eval_len (fuel : Nat) (ih : EvalT fuel) (left steps B : Nat) (k1 n1 : Int) (s1 : ByteArray) (xs1 : List Tm) (a1 : Option Addr) (l1 c1 : Nat) (F1 : List Nat) (k2 n2 : Int) (s2 : ByteArray) (xs2 : List Tm) (a2 : Option Addr) (l2 c2 : Nat) (F2 : List Nat) (w : World)
    (hlf : left ≤ fuel) (hst : left + 1 ≤ steps) (h1000 : steps ≤ 1000) (hlsp : LispAt w B steps (left + 1)) (h1 : RdS w xs1 a1 l1 c1 F1) (h2 : RdS w xs2 a2 l2 c2 F2) (hB1 : B ∉ F1) (hB2 : B ∉ F2) (hok1 : (Tm.mk k1 n1 s1 xs1).ok = true) (hok2 : (Tm.mk k2 n2 s2 xs2).ok = true) (hk : k1 ≠ 2) (htl : (Tm.mk k1 n1 s1 xs1).tl.kind = 0) (hl2 : (Tm.mk k1 n1 s1 xs1).its.length ≠ 2) (hl3 : (Tm.mk k1 n1 s1 xs1).its.length ≠ 3) (hl4 : (Tm.mk k1 n1 s1 xs1).its.length ≠ 4) :
    Calls Try.prog 86 #[.pointer (some ⟨B, 0, none⟩), .agg #[.int .i64 k1, .int .i64 n1, .string s1, .slice a1 l1 c1], .agg #[.int .i64 k2, .int .i64 n2, .string s2, .slice a2 l2 c2]] w
      (EvOut w B steps F1 F2 (evStep (ev fuel) left (.mk k1 n1 s1 xs1) (.mk k2 n2 s2 xs2))) := by
  have hres : evStep (ev fuel) left (.mk k1 n1 s1 xs1) (.mk k2 n2 s2 xs2) = stuck left := by
    rw [evStep_list (show (Tm.mk k1 n1 s1 xs1).kind ≠ 2 from hk) htl]
    exact evForm_other hl2 hl3 hl4
  rw [hres]
  have HTL : Hid (((Tm.mk k1 n1 s1 xs1).tl.kind == 0) = true) := by show _ = _; simpa using htl
  clear hres htl
  have HL := Lib.hid (And.intro hl2 (And.intro hl3 hl4))
  clear hl2 hl3 hl4
  have hk' : (k1 == 2) = false := by simpa using hk
  have IT := Lib.hid (items_impl k1 n1 s1 xs1 a1 l1 c1 F1)
  clear hk
  have hBw : B < w.heap.size := heap_lt hlsp
  have hF1 := RdS_lt h1
  have hF2 := RdS_lt h2
  obtain ⟨tk, htk⟩ : ∃ tk : Int, tk = (steps : Int) - ((left + 1 : Nat) : Int) := ⟨_, rfl⟩
  unfold LispAt at hlsp
  rw [← htk] at hlsp
  have HTK := Lib.hid htk; have HLSP := Lib.hid hlsp; have HF1 := Lib.hid hF1; have HF2 := Lib.hid hF2; have IH := Lib.hid ih
  have HH1 := Lib.hid h1; have HH2 := Lib.hid h2; have HOK1 := Lib.hid hok1; have HOK2 := Lib.hid hok2; have HB1 := Lib.hid hB1; have HB2 := Lib.hid hB2
  have htk0 : 0 ≤ tk := by omega
  have htk1 : tk ≤ 1000 := by omega
  have hne : (tk == (steps : Int)) = false := by simp; omega
  have HNE := Lib.hid hne
  clear htk hlsp hF1 hF2 ih h1 h2 hok1 hok2 hB1 hB2 hne
  go_enter Try.func86, Try.ntmps86
  go_wp2_with fail
  have hbN : Below w.heap.size w (((w.alloc (.cells #[.int .i64 k1, .int .i64 n1, .string s1, .slice a1 l1 c1] 26)).alloc (.cells #[.int .i64 k2, .int .i64 n2, .string s2, .slice a2 l2 c2] 26)).alloc (.cells #[.int .i64 0, .int .i64 0, .string ⟨#[]⟩, .slice none 0 0] 26)) := (((Below.refl _ _).alloc (Nat.le_refl _) _).alloc (by simp) _).alloc (by simp; omega) _
  have hA1 : (((w.alloc (.cells #[.int .i64 k1, .int .i64 n1, .string s1, .slice a1 l1 c1] 26)).alloc (.cells #[.int .i64 k2, .int .i64 n2, .string s2, .slice a2 l2 c2] 26)).alloc (.cells #[.int .i64 0, .int .i64 0, .string ⟨#[]⟩, .slice none 0 0] 26)).heap[w.heap.size]? = some (.cells #[.int .i64 k1, .int .i64 n1, .string s1, .slice a1 l1 c1] 26 (0, 0)) := by
    rw [heap_old (by simp; omega), heap_old (by simp)]; exact heap_new rfl
  have hA2 : (((w.alloc (.cells #[.int .i64 k1, .int .i64 n1, .string s1, .slice a1 l1 c1] 26)).alloc (.cells #[.int .i64 k2, .int .i64 n2, .string s2, .slice a2 l2 c2] 26)).alloc (.cells #[.int .i64 0, .int .i64 0, .string ⟨#[]⟩, .slice none 0 0] 26)).heap[w.heap.size + 1]? = some (.cells #[.int .i64 k2, .int .i64 n2, .string s2, .slice a2 l2 c2] 26 (0, 0)) := by
    rw [heap_old (by simp)]; exact heap_new (by simp)
  have hA3 : (((w.alloc (.cells #[.int .i64 k1, .int .i64 n1, .string s1, .slice a1 l1 c1] 26)).alloc (.cells #[.int .i64 k2, .int .i64 n2, .string s2, .slice a2 l2 c2] 26)).alloc (.cells #[.int .i64 0, .int .i64 0, .string ⟨#[]⟩, .slice none 0 0] 26)).heap[w.heap.size + 1 + 1]? = some (.cells #[.int .i64 0, .int .i64 0, .string ⟨#[]⟩, .slice none 0 0] 26 (0, 0)) := heap_new (by simp)
  have hsz : (((w.alloc (.cells #[.int .i64 k1, .int .i64 n1, .string s1, .slice a1 l1 c1] 26)).alloc (.cells #[.int .i64 k2, .int .i64 n2, .string s2, .slice a2 l2 c2] 26)).alloc (.cells #[.int .i64 0, .int .i64 0, .string ⟨#[]⟩, .slice none 0 0] 26)).heap.size = w.heap.size + 3 := by simp
  generalize (((w.alloc (.cells #[.int .i64 k1, .int .i64 n1, .string s1, .slice a1 l1 c1] 26)).alloc (.cells #[.int .i64 k2, .int .i64 n2, .string s2, .slice a2 l2 c2] 26)).alloc (.cells #[.int .i64 0, .int .i64 0, .string ⟨#[]⟩, .slice none 0 0] 26)) = W at *
  have HA1 := Lib.hid hA1; have HA2 := Lib.hid hA2; have HA3 := Lib.hid hA3; have HSZ := Lib.hid hsz
  have HBL := Lib.hid ((hbN.block _ hBw).trans HLSP.out)
  have hBW : B < W.heap.size := by omega
  obtain ⟨m0, m1, mf⟩ : W.cell? ⟨B, 0, none⟩ = some (.int .i64 (steps : Int)) ∧ W.cell? ⟨B, 1, none⟩ = some (.int .i64 tk) ∧ ∀ o, W.frozen? ⟨B, o, none⟩ = false := ⟨by simpa using cell_of_block HBL.out 0, by simpa using cell_of_block HBL.out 1, frozen_of_block HBL.out⟩
  clear hA1 hA2 hA3 hsz
  go_region_held3 (fun w' => w'.cell? ⟨B, 0, none⟩ = some (.int .i64 (steps : Int)) ∧ w'.cell? ⟨B, 1, none⟩ = some (.int .i64 tk)) (first | exact ⟨m0, m1⟩) (fail)
  have hne := HNE.out
  obtain ⟨e0, e1, e2, e3, _⟩ := box4 HA1.out
  obtain ⟨f0, f1, f2, f3, _⟩ := box4 HA2.out
  have hlt1 : w.heap.size < W.heap.size := by have := HSZ.out; omega
  have hlt2 : w.heap.size + 1 < W.heap.size := by have := HSZ.out; omega
  have hneB0 : w.heap.size ≠ B := by omega
  have hneB1 : w.heap.size + 1 ≠ B := by omega
  have hneB2 : w.heap.size + 1 + 1 ≠ B := by omega
  go_wp2_with fail
  have hFr : Fr w ((W.setCell ⟨B, 1, none⟩ (.int .i64 (tk + 1))).drew) B steps left k2 n2 s2 a2 l2 c2 := by
    refine ⟨(heap_set_other _ hneB1).trans HA2.out, (heap_set_other _ hneB2).trans HA3.out, ?_, ⟨hbN.os, hbN.tape, hbN.output, by have := HSZ.out; simp [World.setCell]; omega, fun x hx hr => (heap_set_other _ (by simpa using hr)).trans (hbN.block x hx)⟩, by have := HSZ.out; simp [World.setCell]; omega⟩
    have h0 := heap_set (o := 1) (.int .i64 (tk + 1)) HBL.out
    show (W.setCell ⟨B, 1, none⟩ (.int .i64 (tk + 1))).heap[B]? = _
    rw [h0, HTK.out]
    have he : (steps : Int) - ((left + 1 : Nat) : Int) + 1 = (steps : Int) - (left : Int) := by omega
    rw [he]; rfl
  have hrdE : RdS ((W.setCell ⟨B, 1, none⟩ (.int .i64 (tk + 1))).drew) xs1 a1 l1 c1 F1 := RdS_grown HH1.out hFr.ext (fun x hx hh => HB1.out (hh ▸ hx))
  have hrdN : RdS ((W.setCell ⟨B, 1, none⟩ (.int .i64 (tk + 1))).drew) xs2 a2 l2 c2 F2 := RdS_grown HH2.out hFr.ext (fun x hx hh => HB2.out (hh ▸ hx))
  generalize (W.setCell ⟨B, 1, none⟩ (.int .i64 (tk + 1))).drew = V at *
  have hsV := hFr.sz
  refine (IT.out V hrdE HOK1.out).mono ?_
  rintro e V1 ⟨ia, il, ic, iF, rfl, hird, hiF, hb⟩
  replace hFr := hFr.below hBw hb
  replace hrdN := RdS_ext hrdN hb
  have hGi : Gd w F1 F2 iF := fun x hx => by
    rcases hiF x hx with h' | h'
    · exact .inl h'
    · exact .inr (.inr (by omega))
  clear hiF hb hrdE e0 e1 e2 e3 f0 f1 f2 f3 m0 m1 mf
  rw [HTL.out]
  have hil := hird.1
  have d2 : ((il : Int) == 2) = false := by have := HL.out.1; simp; omega
  have d3 : ((il : Int) == 3) = false := by have := HL.out.2.1; simp; omega
  have d4 : ((il : Int) == 4) = false := by have := HL.out.2.2; simp; omega
  clear hil
  obtain ⟨r0, r1, r2, r3, rf, rl⟩ := hFr.res
  go_wp2
  exact bodyPost_ret (v := .tuple #[.agg #[.int .i64 0, .int .i64 0, .string ⟨#[]⟩, .slice none 0 0], .int .i64 1]) (results_term2 rfl _ _ (w.heap.size + 1 + 1) rfl rfl (heap_set4 hFr.b6)) rfl (EvOut_nil (r := stuck left) hFr hBw HF1.out HF2.out rfl rfl rfl)
end Go.Proofs.Ytjkabbkaeioibaa
namespace Go.Proofs.Ytjkabbkaeioibaa
open Go.RowKit
set_option linter.unusedVariables false

set_option maxHeartbeats 8000000 in
set_option maxRecDepth 200000 in
theorem eval_quote (fuel : Nat) (ih : EvalT fuel) (left steps B : Nat) (k1 n1 : Int) (s1 : ByteArray) (xs1 : List Tm) (a1 : Option Addr) (l1 c1 : Nat) (F1 : List Nat) (k2 n2 : Int) (s2 : ByteArray) (xs2 : List Tm) (a2 : Option Addr) (l2 c2 : Nat) (F2 : List Nat) (w : World)
    (hlf : left ≤ fuel) (hst : left + 1 ≤ steps) (h1000 : steps ≤ 1000) (hlsp : LispAt w B steps (left + 1)) (h1 : RdS w xs1 a1 l1 c1 F1) (h2 : RdS w xs2 a2 l2 c2 F2) (hB1 : B ∉ F1) (hB2 : B ∉ F2) (hok1 : (Tm.mk k1 n1 s1 xs1).ok = true) (hok2 : (Tm.mk k2 n2 s2 xs2).ok = true) (hk : k1 ≠ 2) (htl : (Tm.mk k1 n1 s1 xs1).tl.kind = 0) (xk xn : Int) (xz : ByteArray) (xas : List Tm) (yk yn : Int) (yz : ByteArray) (yas : List Tm) (hits : (Tm.mk k1 n1 s1 xs1).its = [.mk xk xn xz xas, .mk yk yn yz yas]) (hq : isSym (.mk xk xn xz xas) ⟨#[113, 117, 111, 116, 101]⟩ = true) :
    Calls Try.prog 86 #[.pointer (some ⟨B, 0, none⟩), .agg #[.int .i64 k1, .int .i64 n1, .string s1, .slice a1 l1 c1], .agg #[.int .i64 k2, .int .i64 n2, .string s2, .slice a2 l2 c2]] w
      (EvOut w B steps F1 F2 (evStep (ev fuel) left (.mk k1 n1 s1 xs1) (.mk k2 n2 s2 xs2))) := by
  have hres : evStep (ev fuel) left (.mk k1 n1 s1 xs1) (.mk k2 n2 s2 xs2) = (if (Tm.mk yk yn yz yas).hasSym ⟨#[99, 108, 111, 115, 117, 114, 101]⟩ = true then stuck left else (.mk yk yn yz yas, 0, left)) := by
    rw [evStep_list (show (Tm.mk k1 n1 s1 xs1).kind ≠ 2 from hk) htl]
    rw [hits, evForm, if_pos hq]
  rw [hres]
  have HTL : Hid (((Tm.mk k1 n1 s1 xs1).tl.kind == 0) = true) := by show _ = _; simpa using htl
  clear hres htl
  obtain ⟨rq, hrq⟩ : ∃ r : Res, r = (if (Tm.mk yk yn yz yas).hasSym ⟨#[99, 108, 111, 115, 117, 114, 101]⟩ = true then stuck left else (.mk yk yn yz yas, 0, left)) := ⟨_, rfl⟩
  rw [← hrq]
  have HRQ := Lib.hid hrq
  clear hrq
  have HITS := Lib.hid hits; have HQ := Lib.hid hq
  clear hits hq
  have hk' : (k1 == 2) = false := by simpa using hk
  have IT := Lib.hid (items_impl k1 n1 s1 xs1 a1 l1 c1 F1)
  clear hk
  have hBw : B < w.heap.size := heap_lt hlsp
  have hF1 := RdS_lt h1
  have hF2 := RdS_lt h2
  obtain ⟨tk, htk⟩ : ∃ tk : Int, tk = (steps : Int) - ((left + 1 : Nat) : Int) := ⟨_, rfl⟩
  unfold LispAt at hlsp
  rw [← htk] at hlsp
  have HTK := Lib.hid htk; have HLSP := Lib.hid hlsp; have HF1 := Lib.hid hF1; have HF2 := Lib.hid hF2; have IH := Lib.hid ih
  have HH1 := Lib.hid h1; have HH2 := Lib.hid h2; have HOK1 := Lib.hid hok1; have HOK2 := Lib.hid hok2; have HB1 := Lib.hid hB1; have HB2 := Lib.hid hB2
  have htk0 : 0 ≤ tk := by omega
  have htk1 : tk ≤ 1000 := by omega
  have hne : (tk == (steps : Int)) = false := by simp; omega
  have HNE := Lib.hid hne
  clear htk hlsp hF1 hF2 ih h1 h2 hok1 hok2 hB1 hB2 hne
  go_enter Try.func86, Try.ntmps86
  go_wp2_with fail
  have hbN : Below w.heap.size w (((w.alloc (.cells #[.int .i64 k1, .int .i64 n1, .string s1, .slice a1 l1 c1] 26)).alloc (.cells #[.int .i64 k2, .int .i64 n2, .string s2, .slice a2 l2 c2] 26)).alloc (.cells #[.int .i64 0, .int .i64 0, .string ⟨#[]⟩, .slice none 0 0] 26)) := (((Below.refl _ _).alloc (Nat.le_refl _) _).alloc (by simp) _).alloc (by simp; omega) _
  have hA1 : (((w.alloc (.cells #[.int .i64 k1, .int .i64 n1, .string s1, .slice a1 l1 c1] 26)).alloc (.cells #[.int .i64 k2, .int .i64 n2, .string s2, .slice a2 l2 c2] 26)).alloc (.cells #[.int .i64 0, .int .i64 0, .string ⟨#[]⟩, .slice none 0 0] 26)).heap[w.heap.size]? = some (.cells #[.int .i64 k1, .int .i64 n1, .string s1, .slice a1 l1 c1] 26 (0, 0)) := by
    rw [heap_old (by simp; omega), heap_old (by simp)]; exact heap_new rfl
  have hA2 : (((w.alloc (.cells #[.int .i64 k1, .int .i64 n1, .string s1, .slice a1 l1 c1] 26)).alloc (.cells #[.int .i64 k2, .int .i64 n2, .string s2, .slice a2 l2 c2] 26)).alloc (.cells #[.int .i64 0, .int .i64 0, .string ⟨#[]⟩, .slice none 0 0] 26)).heap[w.heap.size + 1]? = some (.cells #[.int .i64 k2, .int .i64 n2, .string s2, .slice a2 l2 c2] 26 (0, 0)) := by
    rw [heap_old (by simp)]; exact heap_new (by simp)
  have hA3 : (((w.alloc (.cells #[.int .i64 k1, .int .i64 n1, .string s1, .slice a1 l1 c1] 26)).alloc (.cells #[.int .i64 k2, .int .i64 n2, .string s2, .slice a2 l2 c2] 26)).alloc (.cells #[.int .i64 0, .int .i64 0, .string ⟨#[]⟩, .slice none 0 0] 26)).heap[w.heap.size + 1 + 1]? = some (.cells #[.int .i64 0, .int .i64 0, .string ⟨#[]⟩, .slice none 0 0] 26 (0, 0)) := heap_new (by simp)
  have hsz : (((w.alloc (.cells #[.int .i64 k1, .int .i64 n1, .string s1, .slice a1 l1 c1] 26)).alloc (.cells #[.int .i64 k2, .int .i64 n2, .string s2, .slice a2 l2 c2] 26)).alloc (.cells #[.int .i64 0, .int .i64 0, .string ⟨#[]⟩, .slice none 0 0] 26)).heap.size = w.heap.size + 3 := by simp
  generalize (((w.alloc (.cells #[.int .i64 k1, .int .i64 n1, .string s1, .slice a1 l1 c1] 26)).alloc (.cells #[.int .i64 k2, .int .i64 n2, .string s2, .slice a2 l2 c2] 26)).alloc (.cells #[.int .i64 0, .int .i64 0, .string ⟨#[]⟩, .slice none 0 0] 26)) = W at *
  have HA1 := Lib.hid hA1; have HA2 := Lib.hid hA2; have HA3 := Lib.hid hA3; have HSZ := Lib.hid hsz
  have HBL := Lib.hid ((hbN.block _ hBw).trans HLSP.out)
  have hBW : B < W.heap.size := by omega
  obtain ⟨m0, m1, mf⟩ : W.cell? ⟨B, 0, none⟩ = some (.int .i64 (steps : Int)) ∧ W.cell? ⟨B, 1, none⟩ = some (.int .i64 tk) ∧ ∀ o, W.frozen? ⟨B, o, none⟩ = false := ⟨by simpa using cell_of_block HBL.out 0, by simpa using cell_of_block HBL.out 1, frozen_of_block HBL.out⟩
  clear hA1 hA2 hA3 hsz
  go_region_held3 (fun w' => w'.cell? ⟨B, 0, none⟩ = some (.int .i64 (steps : Int)) ∧ w'.cell? ⟨B, 1, none⟩ = some (.int .i64 tk)) (first | exact ⟨m0, m1⟩) (fail)
  have hne := HNE.out
  obtain ⟨e0, e1, e2, e3, _⟩ := box4 HA1.out
  obtain ⟨f0, f1, f2, f3, _⟩ := box4 HA2.out
  have hlt1 : w.heap.size < W.heap.size := by have := HSZ.out; omega
  have hlt2 : w.heap.size + 1 < W.heap.size := by have := HSZ.out; omega
  have hneB0 : w.heap.size ≠ B := by omega
  have hneB1 : w.heap.size + 1 ≠ B := by omega
  have hneB2 : w.heap.size + 1 + 1 ≠ B := by omega
  go_wp2_with fail
  have hFr : Fr w ((W.setCell ⟨B, 1, none⟩ (.int .i64 (tk + 1))).drew) B steps left k2 n2 s2 a2 l2 c2 := by
    refine ⟨(heap_set_other _ hneB1).trans HA2.out, (heap_set_other _ hneB2).trans HA3.out, ?_, ⟨hbN.os, hbN.tape, hbN.output, by have := HSZ.out; simp [World.setCell]; omega, fun x hx hr => (heap_set_other _ (by simpa using hr)).trans (hbN.block x hx)⟩, by have := HSZ.out; simp [World.setCell]; omega⟩
    have h0 := heap_set (o := 1) (.int .i64 (tk + 1)) HBL.out
    show (W.setCell ⟨B, 1, none⟩ (.int .i64 (tk + 1))).heap[B]? = _
    rw [h0, HTK.out]
    have he : (steps : Int) - ((left + 1 : Nat) : Int) + 1 = (steps : Int) - (left : Int) := by omega
    rw [he]; rfl
  have hrdE : RdS ((W.setCell ⟨B, 1, none⟩ (.int .i64 (tk + 1))).drew) xs1 a1 l1 c1 F1 := RdS_grown HH1.out hFr.ext (fun x hx hh => HB1.out (hh ▸ hx))
  have hrdN : RdS ((W.setCell ⟨B, 1, none⟩ (.int .i64 (tk + 1))).drew) xs2 a2 l2 c2 F2 := RdS_grown HH2.out hFr.ext (fun x hx hh => HB2.out (hh ▸ hx))
  generalize (W.setCell ⟨B, 1, none⟩ (.int .i64 (tk + 1))).drew = V at *
  have hsV := hFr.sz
  refine (IT.out V hrdE HOK1.out).mono ?_
  rintro e V1 ⟨ia, il, ic, iF, rfl, hird, hiF, hb⟩
  replace hFr := hFr.below hBw hb
  replace hrdN := RdS_ext hrdN hb
  have hGi : Gd w F1 F2 iF := fun x hx => by
    rcases hiF x hx with h' | h'
    · exact .inl h'
    · exact .inr (.inr (by omega))
  clear hiF hb hrdE e0 e1 e2 e3 f0 f1 f2 f3 m0 m1 mf
  rw [HTL.out]
  rw [HITS.out] at hird
  obtain rfl : il = 2 := hird.1
  obtain ⟨b, o, rfl⟩ := RdS_addr hird (by simp)
  have hBi : B ∉ iF := hGi.ne HB1.out HB2.out hBw
  have hbI : b ≠ B := by
    intro hh
    obtain ⟨_, _, h3⟩ := hird
    rcases h3 with ⟨h4, _⟩ | ⟨_, b', o', F', ha, hF', _⟩
    · simp at h4
    · simp at ha; apply hBi; rw [hF', ← hh, ha.1]; simp
  obtain ⟨xa, xl, xc, xF, ⟨x0, x1, x2, x3⟩, hrx, hxF, hblx⟩ := RdS_el0 hird rfl
  go_wp2_with fail
  refine (isSymbol_any xk xn xz xas xa xl xc _ V1).mono ?_
  rintro e V2 ⟨rfl, hb⟩
  rw [HQ.out]
  replace hFr := hFr.below hBw hb
  replace hrdN := RdS_ext hrdN hb
  replace hird := RdS_ext hird hb
  clear x0 x1 x2 x3 hrx hxF hblx
  clear hb
  obtain ⟨ya, yl, yc, yF, ⟨y0, y1, y2, y3⟩, hry, hyF, hbly⟩ := RdS_el1 hird rfl
  go_wp2_with fail
  have HOKE := Lib.hid (its_ok HOK1.out (.mk yk yn yz yas) (by rw [HITS.out]; simp))
  refine (hasSymbol_all (.mk yk yn yz yas) yk yn yz yas ya yl yc yF ⟨#[99, 108, 111, 115, 117, 114, 101]⟩ V2 rfl hry (ok_wf HOKE.out).1).mono ?_
  rintro e V9 ⟨rfl, hb⟩
  replace hFr := hFr.below hBw hb
  replace hird := RdS_ext hird hb
  have hGy := hGi.sub hyF
  clear y0 y1 y2 y3 hb
  clear hry hyF hbly
  obtain ⟨ya, yl, yc, yF, ⟨y0, y1, y2, y3⟩, hry, hyF, hbly⟩ := RdS_el1 hird rfl
  obtain ⟨r0, r1, r2, r3, rf, rl⟩ := hFr.res
  cases hhas : (Tm.mk yk yn yz yas).hasSym ⟨#[99, 108, 111, 115, 117, 114, 101]⟩ with
  | true =>
    have HQV : Hid (rq = stuck left) := by show _ = _; rw [HRQ.out, if_pos hhas]
    clear hhas
    go_wp2
    rw [HQV.out]
    exact bodyPost_ret (v := .tuple #[.agg #[.int .i64 0, .int .i64 0, .string ⟨#[]⟩, .slice none 0 0], .int .i64 1]) (results_term2 rfl _ _ (w.heap.size + 1 + 1) rfl rfl (heap_set4 hFr.b6)) rfl (EvOut_nil (r := stuck left) hFr hBw HF1.out HF2.out rfl rfl rfl)
  | false =>
    have HQV : Hid (rq = (.mk yk yn yz yas, 0, left)) := by show _ = _; rw [HRQ.out, if_neg (by simp [hhas])]
    clear hhas
    go_wp2
    rw [HQV.out]
    exact bodyPost_ret (v := .tuple #[.agg #[.int .i64 yk, .int .i64 yn, .string yz, .slice ya yl yc], .int .i64 0]) (results_term2 rfl _ _ (w.heap.size + 1 + 1) rfl rfl (heap_set4 hFr.b6)) rfl (EvOut_set (r := (.mk yk yn yz yas, 0, left)) hFr hBw HF1.out HF2.out rfl rfl rfl hry (hGi.sub hyF))

set_option maxHeartbeats 8000000 in
set_option maxRecDepth 200000 in
theorem eval_three (fuel : Nat) (ih : EvalT fuel) (left steps B : Nat) (k1 n1 : Int) (s1 : ByteArray) (xs1 : List Tm) (a1 : Option Addr) (l1 c1 : Nat) (F1 : List Nat) (k2 n2 : Int) (s2 : ByteArray) (xs2 : List Tm) (a2 : Option Addr) (l2 c2 : Nat) (F2 : List Nat) (w : World)
    (hlf : left ≤ fuel) (hst : left + 1 ≤ steps) (h1000 : steps ≤ 1000) (hlsp : LispAt w B steps (left + 1)) (h1 : RdS w xs1 a1 l1 c1 F1) (h2 : RdS w xs2 a2 l2 c2 F2) (hB1 : B ∉ F1) (hB2 : B ∉ F2) (hok1 : (Tm.mk k1 n1 s1 xs1).ok = true) (hok2 : (Tm.mk k2 n2 s2 xs2).ok = true) (hk : k1 ≠ 2) (htl : (Tm.mk k1 n1 s1 xs1).tl.kind = 0) (xk xn : Int) (xz : ByteArray) (xas : List Tm) (yk yn : Int) (yz : ByteArray) (yas : List Tm) (zk zn : Int) (zz : ByteArray) (zas : List Tm) (hits : (Tm.mk k1 n1 s1 xs1).its = [.mk xk xn xz xas, .mk yk yn yz yas, .mk zk zn zz zas]) (hq : isSym (.mk xk xn xz xas) ⟨#[108, 97, 109, 98, 100, 97]⟩ = false) (hq2 : isSym (.mk xk xn xz xas) ⟨#[99, 111, 110, 115]⟩ = false) :
    Calls Try.prog 86 #[.pointer (some ⟨B, 0, none⟩), .agg #[.int .i64 k1, .int .i64 n1, .string s1, .slice a1 l1 c1], .agg #[.int .i64 k2, .int .i64 n2, .string s2, .slice a2 l2 c2]] w
      (EvOut w B steps F1 F2 (evStep (ev fuel) left (.mk k1 n1 s1 xs1) (.mk k2 n2 s2 xs2))) := by
  have hres : evStep (ev fuel) left (.mk k1 n1 s1 xs1) (.mk k2 n2 s2 xs2) = stuck left := by
    rw [evStep_list (show (Tm.mk k1 n1 s1 xs1).kind ≠ 2 from hk) htl]
    rw [hits, evForm, if_neg (by simp [hq]), if_neg (by simp [hq2])]
  rw [hres]
  have HTL : Hid (((Tm.mk k1 n1 s1 xs1).tl.kind == 0) = true) := by show _ = _; simpa using htl
  clear hres htl
  have HITS := Lib.hid hits; have HQ := Lib.hid hq; have HQ2 := Lib.hid hq2
  clear hits hq hq2
  have hk' : (k1 == 2) = false := by simpa using hk
  have IT := Lib.hid (items_impl k1 n1 s1 xs1 a1 l1 c1 F1)
  clear hk
  have hBw : B < w.heap.size := heap_lt hlsp
  have hF1 := RdS_lt h1
  have hF2 := RdS_lt h2
  obtain ⟨tk, htk⟩ : ∃ tk : Int, tk = (steps : Int) - ((left + 1 : Nat) : Int) := ⟨_, rfl⟩
  unfold LispAt at hlsp
  rw [← htk] at hlsp
  have HTK := Lib.hid htk; have HLSP := Lib.hid hlsp; have HF1 := Lib.hid hF1; have HF2 := Lib.hid hF2; have IH := Lib.hid ih
  have HH1 := Lib.hid h1; have HH2 := Lib.hid h2; have HOK1 := Lib.hid hok1; have HOK2 := Lib.hid hok2; have HB1 := Lib.hid hB1; have HB2 := Lib.hid hB2
  have htk0 : 0 ≤ tk := by omega
  have htk1 : tk ≤ 1000 := by omega
  have hne : (tk == (steps : Int)) = false := by simp; omega
  have HNE := Lib.hid hne
  clear htk hlsp hF1 hF2 ih h1 h2 hok1 hok2 hB1 hB2 hne
  go_enter Try.func86, Try.ntmps86
  go_wp2_with fail
  have hbN : Below w.heap.size w (((w.alloc (.cells #[.int .i64 k1, .int .i64 n1, .string s1, .slice a1 l1 c1] 26)).alloc (.cells #[.int .i64 k2, .int .i64 n2, .string s2, .slice a2 l2 c2] 26)).alloc (.cells #[.int .i64 0, .int .i64 0, .string ⟨#[]⟩, .slice none 0 0] 26)) := (((Below.refl _ _).alloc (Nat.le_refl _) _).alloc (by simp) _).alloc (by simp; omega) _
  have hA1 : (((w.alloc (.cells #[.int .i64 k1, .int .i64 n1, .string s1, .slice a1 l1 c1] 26)).alloc (.cells #[.int .i64 k2, .int .i64 n2, .string s2, .slice a2 l2 c2] 26)).alloc (.cells #[.int .i64 0, .int .i64 0, .string ⟨#[]⟩, .slice none 0 0] 26)).heap[w.heap.size]? = some (.cells #[.int .i64 k1, .int .i64 n1, .string s1, .slice a1 l1 c1] 26 (0, 0)) := by
    rw [heap_old (by simp; omega), heap_old (by simp)]; exact heap_new rfl
  have hA2 : (((w.alloc (.cells #[.int .i64 k1, .int .i64 n1, .string s1, .slice a1 l1 c1] 26)).alloc (.cells #[.int .i64 k2, .int .i64 n2, .string s2, .slice a2 l2 c2] 26)).alloc (.cells #[.int .i64 0, .int .i64 0, .string ⟨#[]⟩, .slice none 0 0] 26)).heap[w.heap.size + 1]? = some (.cells #[.int .i64 k2, .int .i64 n2, .string s2, .slice a2 l2 c2] 26 (0, 0)) := by
    rw [heap_old (by simp)]; exact heap_new (by simp)
  have hA3 : (((w.alloc (.cells #[.int .i64 k1, .int .i64 n1, .string s1, .slice a1 l1 c1] 26)).alloc (.cells #[.int .i64 k2, .int .i64 n2, .string s2, .slice a2 l2 c2] 26)).alloc (.cells #[.int .i64 0, .int .i64 0, .string ⟨#[]⟩, .slice none 0 0] 26)).heap[w.heap.size + 1 + 1]? = some (.cells #[.int .i64 0, .int .i64 0, .string ⟨#[]⟩, .slice none 0 0] 26 (0, 0)) := heap_new (by simp)
  have hsz : (((w.alloc (.cells #[.int .i64 k1, .int .i64 n1, .string s1, .slice a1 l1 c1] 26)).alloc (.cells #[.int .i64 k2, .int .i64 n2, .string s2, .slice a2 l2 c2] 26)).alloc (.cells #[.int .i64 0, .int .i64 0, .string ⟨#[]⟩, .slice none 0 0] 26)).heap.size = w.heap.size + 3 := by simp
  generalize (((w.alloc (.cells #[.int .i64 k1, .int .i64 n1, .string s1, .slice a1 l1 c1] 26)).alloc (.cells #[.int .i64 k2, .int .i64 n2, .string s2, .slice a2 l2 c2] 26)).alloc (.cells #[.int .i64 0, .int .i64 0, .string ⟨#[]⟩, .slice none 0 0] 26)) = W at *
  have HA1 := Lib.hid hA1; have HA2 := Lib.hid hA2; have HA3 := Lib.hid hA3; have HSZ := Lib.hid hsz
  have HBL := Lib.hid ((hbN.block _ hBw).trans HLSP.out)
  have hBW : B < W.heap.size := by omega
  obtain ⟨m0, m1, mf⟩ : W.cell? ⟨B, 0, none⟩ = some (.int .i64 (steps : Int)) ∧ W.cell? ⟨B, 1, none⟩ = some (.int .i64 tk) ∧ ∀ o, W.frozen? ⟨B, o, none⟩ = false := ⟨by simpa using cell_of_block HBL.out 0, by simpa using cell_of_block HBL.out 1, frozen_of_block HBL.out⟩
  clear hA1 hA2 hA3 hsz
  go_region_held3 (fun w' => w'.cell? ⟨B, 0, none⟩ = some (.int .i64 (steps : Int)) ∧ w'.cell? ⟨B, 1, none⟩ = some (.int .i64 tk)) (first | exact ⟨m0, m1⟩) (fail)
  have hne := HNE.out
  obtain ⟨e0, e1, e2, e3, _⟩ := box4 HA1.out
  obtain ⟨f0, f1, f2, f3, _⟩ := box4 HA2.out
  have hlt1 : w.heap.size < W.heap.size := by have := HSZ.out; omega
  have hlt2 : w.heap.size + 1 < W.heap.size := by have := HSZ.out; omega
  have hneB0 : w.heap.size ≠ B := by omega
  have hneB1 : w.heap.size + 1 ≠ B := by omega
  have hneB2 : w.heap.size + 1 + 1 ≠ B := by omega
  go_wp2_with fail
  have hFr : Fr w ((W.setCell ⟨B, 1, none⟩ (.int .i64 (tk + 1))).drew) B steps left k2 n2 s2 a2 l2 c2 := by
    refine ⟨(heap_set_other _ hneB1).trans HA2.out, (heap_set_other _ hneB2).trans HA3.out, ?_, ⟨hbN.os, hbN.tape, hbN.output, by have := HSZ.out; simp [World.setCell]; omega, fun x hx hr => (heap_set_other _ (by simpa using hr)).trans (hbN.block x hx)⟩, by have := HSZ.out; simp [World.setCell]; omega⟩
    have h0 := heap_set (o := 1) (.int .i64 (tk + 1)) HBL.out
    show (W.setCell ⟨B, 1, none⟩ (.int .i64 (tk + 1))).heap[B]? = _
    rw [h0, HTK.out]
    have he : (steps : Int) - ((left + 1 : Nat) : Int) + 1 = (steps : Int) - (left : Int) := by omega
    rw [he]; rfl
  have hrdE : RdS ((W.setCell ⟨B, 1, none⟩ (.int .i64 (tk + 1))).drew) xs1 a1 l1 c1 F1 := RdS_grown HH1.out hFr.ext (fun x hx hh => HB1.out (hh ▸ hx))
  have hrdN : RdS ((W.setCell ⟨B, 1, none⟩ (.int .i64 (tk + 1))).drew) xs2 a2 l2 c2 F2 := RdS_grown HH2.out hFr.ext (fun x hx hh => HB2.out (hh ▸ hx))
  generalize (W.setCell ⟨B, 1, none⟩ (.int .i64 (tk + 1))).drew = V at *
  have hsV := hFr.sz
  refine (IT.out V hrdE HOK1.out).mono ?_
  rintro e V1 ⟨ia, il, ic, iF, rfl, hird, hiF, hb⟩
  replace hFr := hFr.below hBw hb
  replace hrdN := RdS_ext hrdN hb
  have hGi : Gd w F1 F2 iF := fun x hx => by
    rcases hiF x hx with h' | h'
    · exact .inl h'
    · exact .inr (.inr (by omega))
  clear hiF hb hrdE e0 e1 e2 e3 f0 f1 f2 f3 m0 m1 mf
  rw [HTL.out]
  rw [HITS.out] at hird
  obtain rfl : il = 3 := hird.1
  obtain ⟨b, o, rfl⟩ := RdS_addr hird (by simp)
  have hBi : B ∉ iF := hGi.ne HB1.out HB2.out hBw
  have hbI : b ≠ B := by
    intro hh
    obtain ⟨_, _, h3⟩ := hird
    rcases h3 with ⟨h4, _⟩ | ⟨_, b', o', F', ha, hF', _⟩
    · simp at h4
    · simp at ha; apply hBi; rw [hF', ← hh, ha.1]; simp
  obtain ⟨xa, xl, xc, xF, ⟨x0, x1, x2, x3⟩, hrx, hxF, hblx⟩ := RdS_el0 hird rfl
  go_wp2_with fail
  refine (isSymbol_any xk xn xz xas xa xl xc _ V1).mono ?_
  rintro e V2 ⟨rfl, hb⟩
  rw [HQ.out]
  replace hFr := hFr.below hBw hb
  replace hrdN := RdS_ext hrdN hb
  replace hird := RdS_ext hird hb
  clear x0 x1 x2 x3 hrx hxF hblx
  clear hb
  obtain ⟨xa, xl, xc, xF, ⟨x0, x1, x2, x3⟩, hrx, hxF, hblx⟩ := RdS_el0 hird rfl
  go_wp2_with fail
  refine (isSymbol_any xk xn xz xas xa xl xc _ V2).mono ?_
  rintro e V3 ⟨rfl, hb⟩
  rw [HQ2.out]
  replace hFr := hFr.below hBw hb
  replace hrdN := RdS_ext hrdN hb
  replace hird := RdS_ext hird hb
  clear x0 x1 x2 x3 hrx hxF hblx
  clear hb
  obtain ⟨r0, r1, r2, r3, rf, rl⟩ := hFr.res
  go_wp2
  exact bodyPost_ret (v := .tuple #[.agg #[.int .i64 0, .int .i64 0, .string ⟨#[]⟩, .slice none 0 0], .int .i64 1]) (results_term2 rfl _ _ (w.heap.size + 1 + 1) rfl rfl (heap_set4 hFr.b6)) rfl (EvOut_nil (r := stuck left) hFr hBw HF1.out HF2.out rfl rfl rfl)

set_option maxHeartbeats 8000000 in
set_option maxRecDepth 200000 in
theorem eval_four (fuel : Nat) (ih : EvalT fuel) (left steps B : Nat) (k1 n1 : Int) (s1 : ByteArray) (xs1 : List Tm) (a1 : Option Addr) (l1 c1 : Nat) (F1 : List Nat) (k2 n2 : Int) (s2 : ByteArray) (xs2 : List Tm) (a2 : Option Addr) (l2 c2 : Nat) (F2 : List Nat) (w : World)
    (hlf : left ≤ fuel) (hst : left + 1 ≤ steps) (h1000 : steps ≤ 1000) (hlsp : LispAt w B steps (left + 1)) (h1 : RdS w xs1 a1 l1 c1 F1) (h2 : RdS w xs2 a2 l2 c2 F2) (hB1 : B ∉ F1) (hB2 : B ∉ F2) (hok1 : (Tm.mk k1 n1 s1 xs1).ok = true) (hok2 : (Tm.mk k2 n2 s2 xs2).ok = true) (hk : k1 ≠ 2) (htl : (Tm.mk k1 n1 s1 xs1).tl.kind = 0) (xk xn : Int) (xz : ByteArray) (xas : List Tm) (yk yn : Int) (yz : ByteArray) (yas : List Tm) (zk zn : Int) (zz : ByteArray) (zas : List Tm) (uk un : Int) (uz : ByteArray) (uas : List Tm) (hits : (Tm.mk k1 n1 s1 xs1).its = [.mk xk xn xz xas, .mk yk yn yz yas, .mk zk zn zz zas, .mk uk un uz uas]) (hq : isSym (.mk xk xn xz xas) ⟨#[105, 102]⟩ = false) :
    Calls Try.prog 86 #[.pointer (some ⟨B, 0, none⟩), .agg #[.int .i64 k1, .int .i64 n1, .string s1, .slice a1 l1 c1], .agg #[.int .i64 k2, .int .i64 n2, .string s2, .slice a2 l2 c2]] w
      (EvOut w B steps F1 F2 (evStep (ev fuel) left (.mk k1 n1 s1 xs1) (.mk k2 n2 s2 xs2))) := by
  have hres : evStep (ev fuel) left (.mk k1 n1 s1 xs1) (.mk k2 n2 s2 xs2) = stuck left := by
    rw [evStep_list (show (Tm.mk k1 n1 s1 xs1).kind ≠ 2 from hk) htl]
    rw [hits, evForm, if_neg (by simp [hq])]
  rw [hres]
  have HTL : Hid (((Tm.mk k1 n1 s1 xs1).tl.kind == 0) = true) := by show _ = _; simpa using htl
  clear hres htl
  have HITS := Lib.hid hits; have HQ := Lib.hid hq
  clear hits hq
  have hk' : (k1 == 2) = false := by simpa using hk
  have IT := Lib.hid (items_impl k1 n1 s1 xs1 a1 l1 c1 F1)
  clear hk
  have hBw : B < w.heap.size := heap_lt hlsp
  have hF1 := RdS_lt h1
  have hF2 := RdS_lt h2
  obtain ⟨tk, htk⟩ : ∃ tk : Int, tk = (steps : Int) - ((left + 1 : Nat) : Int) := ⟨_, rfl⟩
  unfold LispAt at hlsp
  rw [← htk] at hlsp
  have HTK := Lib.hid htk; have HLSP := Lib.hid hlsp; have HF1 := Lib.hid hF1; have HF2 := Lib.hid hF2; have IH := Lib.hid ih
  have HH1 := Lib.hid h1; have HH2 := Lib.hid h2; have HOK1 := Lib.hid hok1; have HOK2 := Lib.hid hok2; have HB1 := Lib.hid hB1; have HB2 := Lib.hid hB2
  have htk0 : 0 ≤ tk := by omega
  have htk1 : tk ≤ 1000 := by omega
  have hne : (tk == (steps : Int)) = false := by simp; omega
  have HNE := Lib.hid hne
  clear htk hlsp hF1 hF2 ih h1 h2 hok1 hok2 hB1 hB2 hne
  go_enter Try.func86, Try.ntmps86
  go_wp2_with fail
  have hbN : Below w.heap.size w (((w.alloc (.cells #[.int .i64 k1, .int .i64 n1, .string s1, .slice a1 l1 c1] 26)).alloc (.cells #[.int .i64 k2, .int .i64 n2, .string s2, .slice a2 l2 c2] 26)).alloc (.cells #[.int .i64 0, .int .i64 0, .string ⟨#[]⟩, .slice none 0 0] 26)) := (((Below.refl _ _).alloc (Nat.le_refl _) _).alloc (by simp) _).alloc (by simp; omega) _
  have hA1 : (((w.alloc (.cells #[.int .i64 k1, .int .i64 n1, .string s1, .slice a1 l1 c1] 26)).alloc (.cells #[.int .i64 k2, .int .i64 n2, .string s2, .slice a2 l2 c2] 26)).alloc (.cells #[.int .i64 0, .int .i64 0, .string ⟨#[]⟩, .slice none 0 0] 26)).heap[w.heap.size]? = some (.cells #[.int .i64 k1, .int .i64 n1, .string s1, .slice a1 l1 c1] 26 (0, 0)) := by
    rw [heap_old (by simp; omega), heap_old (by simp)]; exact heap_new rfl
  have hA2 : (((w.alloc (.cells #[.int .i64 k1, .int .i64 n1, .string s1, .slice a1 l1 c1] 26)).alloc (.cells #[.int .i64 k2, .int .i64 n2, .string s2, .slice a2 l2 c2] 26)).alloc (.cells #[.int .i64 0, .int .i64 0, .string ⟨#[]⟩, .slice none 0 0] 26)).heap[w.heap.size + 1]? = some (.cells #[.int .i64 k2, .int .i64 n2, .string s2, .slice a2 l2 c2] 26 (0, 0)) := by
    rw [heap_old (by simp)]; exact heap_new (by simp)
  have hA3 : (((w.alloc (.cells #[.int .i64 k1, .int .i64 n1, .string s1, .slice a1 l1 c1] 26)).alloc (.cells #[.int .i64 k2, .int .i64 n2, .string s2, .slice a2 l2 c2] 26)).alloc (.cells #[.int .i64 0, .int .i64 0, .string ⟨#[]⟩, .slice none 0 0] 26)).heap[w.heap.size + 1 + 1]? = some (.cells #[.int .i64 0, .int .i64 0, .string ⟨#[]⟩, .slice none 0 0] 26 (0, 0)) := heap_new (by simp)
  have hsz : (((w.alloc (.cells #[.int .i64 k1, .int .i64 n1, .string s1, .slice a1 l1 c1] 26)).alloc (.cells #[.int .i64 k2, .int .i64 n2, .string s2, .slice a2 l2 c2] 26)).alloc (.cells #[.int .i64 0, .int .i64 0, .string ⟨#[]⟩, .slice none 0 0] 26)).heap.size = w.heap.size + 3 := by simp
  generalize (((w.alloc (.cells #[.int .i64 k1, .int .i64 n1, .string s1, .slice a1 l1 c1] 26)).alloc (.cells #[.int .i64 k2, .int .i64 n2, .string s2, .slice a2 l2 c2] 26)).alloc (.cells #[.int .i64 0, .int .i64 0, .string ⟨#[]⟩, .slice none 0 0] 26)) = W at *
  have HA1 := Lib.hid hA1; have HA2 := Lib.hid hA2; have HA3 := Lib.hid hA3; have HSZ := Lib.hid hsz
  have HBL := Lib.hid ((hbN.block _ hBw).trans HLSP.out)
  have hBW : B < W.heap.size := by omega
  obtain ⟨m0, m1, mf⟩ : W.cell? ⟨B, 0, none⟩ = some (.int .i64 (steps : Int)) ∧ W.cell? ⟨B, 1, none⟩ = some (.int .i64 tk) ∧ ∀ o, W.frozen? ⟨B, o, none⟩ = false := ⟨by simpa using cell_of_block HBL.out 0, by simpa using cell_of_block HBL.out 1, frozen_of_block HBL.out⟩
  clear hA1 hA2 hA3 hsz
  go_region_held3 (fun w' => w'.cell? ⟨B, 0, none⟩ = some (.int .i64 (steps : Int)) ∧ w'.cell? ⟨B, 1, none⟩ = some (.int .i64 tk)) (first | exact ⟨m0, m1⟩) (fail)
  have hne := HNE.out
  obtain ⟨e0, e1, e2, e3, _⟩ := box4 HA1.out
  obtain ⟨f0, f1, f2, f3, _⟩ := box4 HA2.out
  have hlt1 : w.heap.size < W.heap.size := by have := HSZ.out; omega
  have hlt2 : w.heap.size + 1 < W.heap.size := by have := HSZ.out; omega
  have hneB0 : w.heap.size ≠ B := by omega
  have hneB1 : w.heap.size + 1 ≠ B := by omega
  have hneB2 : w.heap.size + 1 + 1 ≠ B := by omega
  go_wp2_with fail
  have hFr : Fr w ((W.setCell ⟨B, 1, none⟩ (.int .i64 (tk + 1))).drew) B steps left k2 n2 s2 a2 l2 c2 := by
    refine ⟨(heap_set_other _ hneB1).trans HA2.out, (heap_set_other _ hneB2).trans HA3.out, ?_, ⟨hbN.os, hbN.tape, hbN.output, by have := HSZ.out; simp [World.setCell]; omega, fun x hx hr => (heap_set_other _ (by simpa using hr)).trans (hbN.block x hx)⟩, by have := HSZ.out; simp [World.setCell]; omega⟩
    have h0 := heap_set (o := 1) (.int .i64 (tk + 1)) HBL.out
    show (W.setCell ⟨B, 1, none⟩ (.int .i64 (tk + 1))).heap[B]? = _
    rw [h0, HTK.out]
    have he : (steps : Int) - ((left + 1 : Nat) : Int) + 1 = (steps : Int) - (left : Int) := by omega
    rw [he]; rfl
  have hrdE : RdS ((W.setCell ⟨B, 1, none⟩ (.int .i64 (tk + 1))).drew) xs1 a1 l1 c1 F1 := RdS_grown HH1.out hFr.ext (fun x hx hh => HB1.out (hh ▸ hx))
  have hrdN : RdS ((W.setCell ⟨B, 1, none⟩ (.int .i64 (tk + 1))).drew) xs2 a2 l2 c2 F2 := RdS_grown HH2.out hFr.ext (fun x hx hh => HB2.out (hh ▸ hx))
  generalize (W.setCell ⟨B, 1, none⟩ (.int .i64 (tk + 1))).drew = V at *
  have hsV := hFr.sz
  refine (IT.out V hrdE HOK1.out).mono ?_
  rintro e V1 ⟨ia, il, ic, iF, rfl, hird, hiF, hb⟩
  replace hFr := hFr.below hBw hb
  replace hrdN := RdS_ext hrdN hb
  have hGi : Gd w F1 F2 iF := fun x hx => by
    rcases hiF x hx with h' | h'
    · exact .inl h'
    · exact .inr (.inr (by omega))
  clear hiF hb hrdE e0 e1 e2 e3 f0 f1 f2 f3 m0 m1 mf
  rw [HTL.out]
  rw [HITS.out] at hird
  obtain rfl : il = 4 := hird.1
  obtain ⟨b, o, rfl⟩ := RdS_addr hird (by simp)
  have hBi : B ∉ iF := hGi.ne HB1.out HB2.out hBw
  have hbI : b ≠ B := by
    intro hh
    obtain ⟨_, _, h3⟩ := hird
    rcases h3 with ⟨h4, _⟩ | ⟨_, b', o', F', ha, hF', _⟩
    · simp at h4
    · simp at ha; apply hBi; rw [hF', ← hh, ha.1]; simp
  obtain ⟨xa, xl, xc, xF, ⟨x0, x1, x2, x3⟩, hrx, hxF, hblx⟩ := RdS_el0 hird rfl
  go_wp2_with fail
  refine (isSymbol_any xk xn xz xas xa xl xc _ V1).mono ?_
  rintro e V2 ⟨rfl, hb⟩
  rw [HQ.out]
  replace hFr := hFr.below hBw hb
  replace hrdN := RdS_ext hrdN hb
  replace hird := RdS_ext hird hb
  clear x0 x1 x2 x3 hrx hxF hblx
  clear hb
  obtain ⟨r0, r1, r2, r3, rf, rl⟩ := hFr.res
  go_wp2
  exact bodyPost_ret (v := .tuple #[.agg #[.int .i64 0, .int .i64 0, .string ⟨#[]⟩, .slice none 0 0], .int .i64 1]) (results_term2 rfl _ _ (w.heap.size + 1 + 1) rfl rfl (heap_set4 hFr.b6)) rfl (EvOut_nil (r := stuck left) hFr hBw HF1.out HF2.out rfl rfl rfl)
end Go.Proofs.Ytjkabbkaeioibaa
namespace Go.Proofs.Ytjkabbkaeioibaa
open Go.RowKit
set_option linter.unusedVariables false

set_option maxHeartbeats 8000000 in
set_option maxRecDepth 200000 in
theorem eval_app_bad (fuel : Nat) (ih : EvalT fuel) (left steps B : Nat) (k1 n1 : Int) (s1 : ByteArray) (xs1 : List Tm) (a1 : Option Addr) (l1 c1 : Nat) (F1 : List Nat) (k2 n2 : Int) (s2 : ByteArray) (xs2 : List Tm) (a2 : Option Addr) (l2 c2 : Nat) (F2 : List Nat) (w : World)
    (hlf : left ≤ fuel) (hst : left + 1 ≤ steps) (h1000 : steps ≤ 1000) (hlsp : LispAt w B steps (left + 1)) (h1 : RdS w xs1 a1 l1 c1 F1) (h2 : RdS w xs2 a2 l2 c2 F2) (hB1 : B ∉ F1) (hB2 : B ∉ F2) (hok1 : (Tm.mk k1 n1 s1 xs1).ok = true) (hok2 : (Tm.mk k2 n2 s2 xs2).ok = true) (hk : k1 ≠ 2) (htl : (Tm.mk k1 n1 s1 xs1).tl.kind = 0) (xk xn : Int) (xz : ByteArray) (xas : List Tm) (yk yn : Int) (yz : ByteArray) (yas : List Tm) (hits : (Tm.mk k1 n1 s1 xs1).its = [.mk xk xn xz xas, .mk yk yn yz yas]) (hq : isSym (.mk xk xn xz xas) ⟨#[113, 117, 111, 116, 101]⟩ = false) (hc : isSym (.mk xk xn xz xas) ⟨#[99, 97, 114]⟩ = false) (hd : isSym (.mk xk xn xz xas) ⟨#[99, 100, 114]⟩ = false) (hbad : (ev fuel left (.mk xk xn xz xas) (Tm.mk k2 n2 s2 xs2)).1.tl.kind ≠ 0 ∨ (ev fuel left (.mk xk xn xz xas) (Tm.mk k2 n2 s2 xs2)).1.its.length ≠ 4 ∨ ∃ p rest, (ev fuel left (.mk xk xn xz xas) (Tm.mk k2 n2 s2 xs2)).1.its = p :: rest ∧ isSym p ⟨#[99, 108, 111, 115, 117, 114, 101]⟩ = false) :
    Calls Try.prog 86 #[.pointer (some ⟨B, 0, none⟩), .agg #[.int .i64 k1, .int .i64 n1, .string s1, .slice a1 l1 c1], .agg #[.int .i64 k2, .int .i64 n2, .string s2, .slice a2 l2 c2]] w
      (EvOut w B steps F1 F2 (evStep (ev fuel) left (.mk k1 n1 s1 xs1) (.mk k2 n2 s2 xs2))) := by
  have hres : evStep (ev fuel) left (.mk k1 n1 s1 xs1) (.mk k2 n2 s2 xs2) = evApp (ev fuel) (ev fuel left (.mk xk xn xz xas) (Tm.mk k2 n2 s2 xs2)) (.mk yk yn yz yas) (Tm.mk k2 n2 s2 xs2) := by
    rw [evStep_list (show (Tm.mk k1 n1 s1 xs1).kind ≠ 2 from hk) htl]
    rw [hits, evForm, if_neg (by simp [hq]), if_neg (by simp [hc, hd])]
  rw [hres]
  have HTL : Hid (((Tm.mk k1 n1 s1 xs1).tl.kind == 0) = true) := by show _ = _; simpa using htl
  clear hres htl
  have HOKL : Hid (∀ x ∈ [Tm.mk xk xn xz xas, Tm.mk yk yn yz yas], x.ok = true) := fun x hx => its_ok hok1 x (by rw [hits]; exact hx)
  obtain ⟨rR, hrR⟩ : ∃ r : Res, r = ev fuel left (.mk xk xn xz xas) (Tm.mk k2 n2 s2 xs2) := ⟨_, rfl⟩
  rw [← hrR] at hbad ⊢
  have hgoodR : GoodR rR left := by
    rw [hrR]; exact ev_good fuel left _ _ (HOKL.out _ (by simp)) hok2
  have HRR := Lib.hid hrR; have HGOODR := Lib.hid hgoodR
  have hlR := hgoodR.left
  clear hgoodR hrR
  have HOKR := Lib.hid (HOKL.out (.mk xk xn xz xas) (by simp))
  have HITS := Lib.hid hits; have HQ := Lib.hid hq; have HC := Lib.hid hc; have HD := Lib.hid hd
  obtain ⟨rs, hrs⟩ : ∃ r : Res, r = evApp (ev fuel) rR (.mk yk yn yz yas) (Tm.mk k2 n2 s2 xs2) := ⟨_, rfl⟩
  rw [← hrs]
  have HRS : Hid (rs = if rR.2.1 ≠ 0 then failV rR else stuck rR.2.2) := by show _ = _; rw [hrs, evApp_bad hbad]
  have HBAD := Lib.hid hbad
  clear hits hq hc hd hrs hbad
  have hk' : (k1 == 2) = false := by simpa using hk
  have IT := Lib.hid (items_impl k1 n1 s1 xs1 a1 l1 c1 F1)
  clear hk
  have hBw : B < w.heap.size := heap_lt hlsp
  have hF1 := RdS_lt h1
  have hF2 := RdS_lt h2
  obtain ⟨tk, htk⟩ : ∃ tk : Int, tk = (steps : Int) - ((left + 1 : Nat) : Int) := ⟨_, rfl⟩
  unfold LispAt at hlsp
  rw [← htk] at hlsp
  have HTK := Lib.hid htk; have HLSP := Lib.hid hlsp; have HF1 := Lib.hid hF1; have HF2 := Lib.hid hF2; have IH := Lib.hid ih
  have HH1 := Lib.hid h1; have HH2 := Lib.hid h2; have HOK1 := Lib.hid hok1; have HOK2 := Lib.hid hok2; have HB1 := Lib.hid hB1; have HB2 := Lib.hid hB2
  have htk0 : 0 ≤ tk := by omega
  have htk1 : tk ≤ 1000 := by omega
  have hne : (tk == (steps : Int)) = false := by simp; omega
  have HNE := Lib.hid hne
  clear htk hlsp hF1 hF2 ih h1 h2 hok1 hok2 hB1 hB2 hne
  go_enter Try.func86, Try.ntmps86
  go_wp2_with fail
  have hbN : Below w.heap.size w (((w.alloc (.cells #[.int .i64 k1, .int .i64 n1, .string s1, .slice a1 l1 c1] 26)).alloc (.cells #[.int .i64 k2, .int .i64 n2, .string s2, .slice a2 l2 c2] 26)).alloc (.cells #[.int .i64 0, .int .i64 0, .string ⟨#[]⟩, .slice none 0 0] 26)) := (((Below.refl _ _).alloc (Nat.le_refl _) _).alloc (by simp) _).alloc (by simp; omega) _
  have hA1 : (((w.alloc (.cells #[.int .i64 k1, .int .i64 n1, .string s1, .slice a1 l1 c1] 26)).alloc (.cells #[.int .i64 k2, .int .i64 n2, .string s2, .slice a2 l2 c2] 26)).alloc (.cells #[.int .i64 0, .int .i64 0, .string ⟨#[]⟩, .slice none 0 0] 26)).heap[w.heap.size]? = some (.cells #[.int .i64 k1, .int .i64 n1, .string s1, .slice a1 l1 c1] 26 (0, 0)) := by
    rw [heap_old (by simp; omega), heap_old (by simp)]; exact heap_new rfl
  have hA2 : (((w.alloc (.cells #[.int .i64 k1, .int .i64 n1, .string s1, .slice a1 l1 c1] 26)).alloc (.cells #[.int .i64 k2, .int .i64 n2, .string s2, .slice a2 l2 c2] 26)).alloc (.cells #[.int .i64 0, .int .i64 0, .string ⟨#[]⟩, .slice none 0 0] 26)).heap[w.heap.size + 1]? = some (.cells #[.int .i64 k2, .int .i64 n2, .string s2, .slice a2 l2 c2] 26 (0, 0)) := by
    rw [heap_old (by simp)]; exact heap_new (by simp)
  have hA3 : (((w.alloc (.cells #[.int .i64 k1, .int .i64 n1, .string s1, .slice a1 l1 c1] 26)).alloc (.cells #[.int .i64 k2, .int .i64 n2, .string s2, .slice a2 l2 c2] 26)).alloc (.cells #[.int .i64 0, .int .i64 0, .string ⟨#[]⟩, .slice none 0 0] 26)).heap[w.heap.size + 1 + 1]? = some (.cells #[.int .i64 0, .int .i64 0, .string ⟨#[]⟩, .slice none 0 0] 26 (0, 0)) := heap_new (by simp)
  have hsz : (((w.alloc (.cells #[.int .i64 k1, .int .i64 n1, .string s1, .slice a1 l1 c1] 26)).alloc (.cells #[.int .i64 k2, .int .i64 n2, .string s2, .slice a2 l2 c2] 26)).alloc (.cells #[.int .i64 0, .int .i64 0, .string ⟨#[]⟩, .slice none 0 0] 26)).heap.size = w.heap.size + 3 := by simp
  generalize (((w.alloc (.cells #[.int .i64 k1, .int .i64 n1, .string s1, .slice a1 l1 c1] 26)).alloc (.cells #[.int .i64 k2, .int .i64 n2, .string s2, .slice a2 l2 c2] 26)).alloc (.cells #[.int .i64 0, .int .i64 0, .string ⟨#[]⟩, .slice none 0 0] 26)) = W at *
  have HA1 := Lib.hid hA1; have HA2 := Lib.hid hA2; have HA3 := Lib.hid hA3; have HSZ := Lib.hid hsz
  have HBL := Lib.hid ((hbN.block _ hBw).trans HLSP.out)
  have hBW : B < W.heap.size := by omega
  obtain ⟨m0, m1, mf⟩ : W.cell? ⟨B, 0, none⟩ = some (.int .i64 (steps : Int)) ∧ W.cell? ⟨B, 1, none⟩ = some (.int .i64 tk) ∧ ∀ o, W.frozen? ⟨B, o, none⟩ = false := ⟨by simpa using cell_of_block HBL.out 0, by simpa using cell_of_block HBL.out 1, frozen_of_block HBL.out⟩
  clear hA1 hA2 hA3 hsz
  go_region_held3 (fun w' => w'.cell? ⟨B, 0, none⟩ = some (.int .i64 (steps : Int)) ∧ w'.cell? ⟨B, 1, none⟩ = some (.int .i64 tk)) (first | exact ⟨m0, m1⟩) (fail)
  have hne := HNE.out
  obtain ⟨e0, e1, e2, e3, _⟩ := box4 HA1.out
  obtain ⟨f0, f1, f2, f3, _⟩ := box4 HA2.out
  have hlt1 : w.heap.size < W.heap.size := by have := HSZ.out; omega
  have hlt2 : w.heap.size + 1 < W.heap.size := by have := HSZ.out; omega
  have hneB0 : w.heap.size ≠ B := by omega
  have hneB1 : w.heap.size + 1 ≠ B := by omega
  have hneB2 : w.heap.size + 1 + 1 ≠ B := by omega
  go_wp2_with fail
  have hFr : Fr w ((W.setCell ⟨B, 1, none⟩ (.int .i64 (tk + 1))).drew) B steps left k2 n2 s2 a2 l2 c2 := by
    refine ⟨(heap_set_other _ hneB1).trans HA2.out, (heap_set_other _ hneB2).trans HA3.out, ?_, ⟨hbN.os, hbN.tape, hbN.output, by have := HSZ.out; simp [World.setCell]; omega, fun x hx hr => (heap_set_other _ (by simpa using hr)).trans (hbN.block x hx)⟩, by have := HSZ.out; simp [World.setCell]; omega⟩
    have h0 := heap_set (o := 1) (.int .i64 (tk + 1)) HBL.out
    show (W.setCell ⟨B, 1, none⟩ (.int .i64 (tk + 1))).heap[B]? = _
    rw [h0, HTK.out]
    have he : (steps : Int) - ((left + 1 : Nat) : Int) + 1 = (steps : Int) - (left : Int) := by omega
    rw [he]; rfl
  have hrdE : RdS ((W.setCell ⟨B, 1, none⟩ (.int .i64 (tk + 1))).drew) xs1 a1 l1 c1 F1 := RdS_grown HH1.out hFr.ext (fun x hx hh => HB1.out (hh ▸ hx))
  have hrdN : RdS ((W.setCell ⟨B, 1, none⟩ (.int .i64 (tk + 1))).drew) xs2 a2 l2 c2 F2 := RdS_grown HH2.out hFr.ext (fun x hx hh => HB2.out (hh ▸ hx))
  generalize (W.setCell ⟨B, 1, none⟩ (.int .i64 (tk + 1))).drew = V at *
  have hsV := hFr.sz
  refine (IT.out V hrdE HOK1.out).mono ?_
  rintro e V1 ⟨ia, il, ic, iF, rfl, hird, hiF, hb⟩
  replace hFr := hFr.below hBw hb
  replace hrdN := RdS_ext hrdN hb
  have hGi : Gd w F1 F2 iF := fun x hx => by
    rcases hiF x hx with h' | h'
    · exact .inl h'
    · exact .inr (.inr (by omega))
  clear hiF hb hrdE e0 e1 e2 e3 f0 f1 f2 f3 m0 m1 mf
  rw [HTL.out]
  rw [HITS.out] at hird
  obtain rfl : il = 2 := hird.1
  obtain ⟨b, o, rfl⟩ := RdS_addr hird (by simp)
  have hBi : B ∉ iF := hGi.ne HB1.out HB2.out hBw
  have hbI : b ≠ B := by
    intro hh
    obtain ⟨_, _, h3⟩ := hird
    rcases h3 with ⟨h4, _⟩ | ⟨_, b', o', F', ha, hF', _⟩
    · simp at h4
    · simp at ha; apply hBi; rw [hF', ← hh, ha.1]; simp
  obtain ⟨xa, xl, xc, xF, ⟨x0, x1, x2, x3⟩, hrx, hxF, hblx⟩ := RdS_el0 hird rfl
  go_wp2_with fail
  refine (isSymbol_any xk xn xz xas xa xl xc _ V1).mono ?_
  rintro e V2 ⟨rfl, hb⟩
  rw [HQ.out]
  replace hFr := hFr.below hBw hb
  replace hrdN := RdS_ext hrdN hb
  replace hird := RdS_ext hird hb
  clear x0 x1 x2 x3 hrx hxF hblx
  clear hb
  obtain ⟨xa, xl, xc, xF, ⟨x0, x1, x2, x3⟩, hrx, hxF, hblx⟩ := RdS_el0 hird rfl
  go_wp2_with fail
  refine (isSymbol_any xk xn xz xas xa xl xc _ V2).mono ?_
  rintro e V3 ⟨rfl, hb⟩
  rw [HC.out]
  replace hFr := hFr.below hBw hb
  replace hrdN := RdS_ext hrdN hb
  replace hird := RdS_ext hird hb
  clear x0 x1 x2 x3 hrx hxF hblx
  clear hb
  obtain ⟨xa, xl, xc, xF, ⟨x0, x1, x2, x3⟩, hrx, hxF, hblx⟩ := RdS_el0 hird rfl
  go_wp2_with fail
  refine (isSymbol_any xk xn xz xas xa xl xc _ V3).mono ?_
  rintro e V4 ⟨rfl, hb⟩
  rw [HD.out]
  replace hFr := hFr.below hBw hb
  replace hrdN := RdS_ext hrdN hb
  replace hird := RdS_ext hird hb
  clear x0 x1 x2 x3 hrx hxF hblx
  clear hb
  obtain ⟨xa, xl, xc, xF, ⟨x0, x1, x2, x3⟩, hrx, hxF, hblx⟩ := RdS_el0 hird rfl
  obtain ⟨f0, f1, f2, f3, fl⟩ := hFr.env
  go_upto_region 46 with fail
  go_cut [22, 23] (fun s6 s7 wx => s7 = .int .i64 (rR.2.1 : Int) ∧ EvRes V4 B steps w F1 F2 rR s6 wx)
  case first => as_aux_lemma =>
    have hGe := hGi.sub hxF
    have hBe : B ∉ xF := hGe.ne HB1.out HB2.out hBw
    have hBV : B < V4.heap.size := heap_lt hFr.lsp
    have HFR := Lib.hid hFr
    have hbd : Below V4.heap.size V4 V4.drew := (Below.refl _ _).drew
    have hbz : Below V4.heap.size V4 (V4.alloc (.cells #[.int .i64 0, .int .i64 0, .string ⟨#[]⟩, .slice none 0 0] 26)).drew := ((Below.refl _ _).alloc (Nat.le_refl _) _).drew
    have hbz' : Below V4.heap.size V4 (V4.alloc (.cells #[.int .i64 0, .int .i64 0, .string ⟨#[]⟩, .slice none 0 0] 26)) := (Below.refl _ _).alloc (Nat.le_refl _) _
    have CE := Lib.hid (IH.out left steps B xk xn xz xas xa xl xc xF k2 n2 s2 xs2 a2 l2 c2 F2)
    rw [← HRR.out] at CE
    have HS : Hid (El8 b (o) (w.heap.size + 1) (.int .i64 xk) (.int .i64 xn) (.string xz) (.slice xa xl xc) (.int .i64 k2) (.int .i64 n2) (.string s2) (.slice a2 l2 c2) V4) := ⟨x0, x1, x2, x3, f0, f1, f2, f3⟩
    have hsV1 := hFr.sz
    have hne5 : w.heap.size + 1 ≠ B := by omega
    have hneV : b ≠ V4.heap.size := by omega
    have hne5V : w.heap.size + 1 ≠ V4.heap.size := by omega
    have hlF : ∀ x ∈ xF, x < V4.heap.size := RdS_lt hrx
    have hlN : ∀ x ∈ F2, x < V4.heap.size := fun x hx => by have := HF2.out x hx; omega
    have HLF := Lib.hid hlF; have HLN := Lib.hid hlN
    clear hlF hlN
    go_region_held3 (fun w' => w'.cell? ⟨b, o, none⟩ = some (.int .i64 xk) ∧ w'.cell? ⟨b, o + 1, none⟩ = some (.int .i64 xn) ∧ w'.cell? ⟨b, o + 2, none⟩ = some (.string xz) ∧ w'.cell? ⟨b, o + 3, none⟩ = some (.slice xa xl xc) ∧ w'.cell? ⟨w.heap.size + 1, 0, none⟩ = some (.int .i64 k2) ∧ w'.cell? ⟨w.heap.size + 1, 1, none⟩ = some (.int .i64 n2) ∧ w'.cell? ⟨w.heap.size + 1, 2, none⟩ = some (.string s2) ∧ w'.cell? ⟨w.heap.size + 1, 3, none⟩ = some (.slice a2 l2 c2))
      (first | with_reducible exact El8.same (hbd.block _ hblx) (hbd.block _ fl) HS.out | with_reducible exact El8.same (hbz.block _ hblx) (hbz.block _ fl) HS.out | with_reducible exact El8.same (hg.block _ hblx (by simpa using hbI)) (hg.block _ fl (by simpa using hne5)) HS.out | with_reducible exact El8.same ((heap_old (Nat.lt_of_lt_of_le hblx hg.size)).trans (hg.block _ hblx (by simpa using hbI))) ((heap_old (Nat.lt_of_lt_of_le fl hg.size)).trans (hg.block _ fl (by simpa using hne5))) HS.out | with_reducible exact El8.same ((heap_set4_other hneV).trans (hg.block _ hblx (by simpa using hbI))) ((heap_set4_other hne5V).trans (hg.block _ fl (by simpa using hne5))) HS.out)
      (first | (go_at_call 86; (with_reducible refine (CE.out _ (by omega) (by omega) h1000 ?_ ?_ ?_ hBe HB2.out ?_ HOK2.out).mono ?_); (first | exact lisp_below hbd hBV HFR.out.lsp | exact lisp_below hbz hBV HFR.out.lsp); (first | exact RdS_ext hrx hbd | exact RdS_ext hrx hbz); (first | exact RdS_ext hrdN hbd | exact RdS_ext hrdN hbz); exact HOKR.out; rintro e w5 ⟨k9, n9, z9, xs9, a9, l9, c9, F9, hr9, rfl, hrd9, hF9, hg9, hl9⟩; (first | (have hg : V4.grownBy w5 (some B) := grown_trans (grown_below hbd _) hg9) | (have hg : V4.grownBy w5 (some B) := grown_trans (grown_below hbz _) hg9)); have hG9 : Gd w F1 F2 F9 := (fun x hx => by rcases hF9 x hx with h' | h' | h'; exact hGe x h'; exact .inr (.inl h'); simp at h'; exact .inr (.inr (by omega))); (try (have hz : w5.heap[V4.heap.size]? = some (.cells #[.int .i64 0, .int .i64 0, .string ⟨#[]⟩, .slice none 0 0] 26 (0, 0)) := (hg9.block _ (by simp) (by simp; omega)).trans (heap_new rfl); obtain ⟨z0, z1, z2, z3, zf⟩ := box4 hz; have hzl := heap_lt hz; have HZ := Lib.hid hz; clear hz; have hne9 : ∀ x ∈ F9, x ≠ V4.heap.size := (fun x hx => by rcases hF9 x hx with h' | h' | h'; (have := HLF.out x h'; omega); (have := HLN.out x h'; omega); (simp at h'; omega))))))
    all_goals (go_wp2_with fail; go_meet; first | exact ⟨rfl, EvRes_new hr9 hrd9 hG9 hg hl9⟩ | exact ⟨rfl, EvRes_set hr9 hrd9 hG9 hg hl9 (Nat.le_refl _) HZ.out hne9 (by omega)⟩)
  case rest =>
    obtain ⟨rfl, BR, kR, nR, zR, xsR, aR, lR, cR, FR, rfl, hrR, hbxR, hGR, hg, hl, hBvR⟩ := hcut
    obtain ⟨V5, hVV⟩ : ∃ x : World, x = wc := ⟨_, rfl⟩
    subst hVV
    have hszV := hFr.sz
    replace hFr := hFr.grown hBw hg hl
    replace hrdN := RdS_grown hrdN hg (fun x hx hh => HB2.out (hh ▸ hx))
    replace hird := RdS_grown hird hg (fun x hx hh => hBi (hh ▸ hx))
    clear f0 f1 f2 f3 fl
    clear x0 x1 x2 x3 hrx hxF hblx
    obtain ⟨r0, r1, r2, r3, rf, rl⟩ := hFr.res
    obtain ⟨g0, g1, g2, g3, gl⟩ := hbxR.cells
    by_cases hc0 : rR.2.1 = 0
    case neg => as_aux_lemma =>
      have hd : ((rR.2.1 : Int) != 0) = true := by simp; omega
      have HE : Hid (rs = failV rR) := by show _ = _; rw [HRS.out, if_pos hc0]
      clear hc0
      generalize hcd : (rR.2.1 : Int) = cd at *
      have HCD := Lib.hid hcd; clear hcd
      go_wp2
      rw [HE.out]
      exact bodyPost_ret (v := .tuple #[.agg #[.int .i64 0, .int .i64 0, .string ⟨#[]⟩, .slice none 0 0], .int .i64 cd]) (results_term2 rfl _ _ (w.heap.size + 1 + 1) rfl rfl (heap_set4 hFr.b6)) rfl (EvOut_nil (r := failV rR) hFr hBw HF1.out HF2.out rfl HCD.out.symm rfl)
    have HC0R := Lib.hid hc0
    have hdR : ((rR.2.1 : Int) != 0) = false := by simp [hc0]
    clear hc0
    have HE : Hid (rs = stuck rR.2.2) := by show _ = _; rw [HRS.out, if_neg (by simp [HC0R.out])]
    have HOKF : Hid ((Tm.mk kR nR zR xsR).ok = true) := by show _ = _; rw [← hrR]; exact HGOODR.out.ok
    have HRR1 := Lib.hid hrR
    clear r0 r1 r2 r3 rf rl
    go_wp2_with fail
    have hsV3 := hFr.sz
    refine (items_impl kR nR zR xsR aR lR cR FR V5 hbxR.rd HOKF.out).mono ?_
    rintro e V9 ⟨pa, pl, pc, pF, rfl, hprd, hpF, hb⟩
    rw [← HRR1.out] at hprd ⊢
    replace hFr := hFr.below hBw hb
    clear g0 g1 g2 g3 gl hb hpF
    obtain ⟨r0, r1, r2, r3, rf, rl⟩ := hFr.res
    by_cases hyt : rR.1.tl.kind = 0
    case neg =>
      have hdd : (rR.1.tl.kind == 0) = false := by simpa using hyt
      rw [hdd]
      clear hyt hdd
      go_wp2
      rw [HE.out]
      exact bodyPost_ret (v := .tuple #[.agg #[.int .i64 0, .int .i64 0, .string ⟨#[]⟩, .slice none 0 0], .int .i64 1]) (results_term2 rfl _ _ (w.heap.size + 1 + 1) rfl rfl (heap_set4 hFr.b6)) rfl (EvOut_nil (r := stuck rR.2.2) hFr hBw HF1.out HF2.out rfl rfl rfl)
    have hdd : (rR.1.tl.kind == 0) = true := by simpa using hyt
    rw [hdd]
    clear hdd
    by_cases hpl : pl = 4
    case neg =>
      have d1 : ((pl : Int) != 4) = true := by simp; omega
      clear hyt hpl
      go_wp2
      rw [HE.out]
      exact bodyPost_ret (v := .tuple #[.agg #[.int .i64 0, .int .i64 0, .string ⟨#[]⟩, .slice none 0 0], .int .i64 1]) (results_term2 rfl _ _ (w.heap.size + 1 + 1) rfl rfl (heap_set4 hFr.b6)) rfl (EvOut_nil (r := stuck rR.2.2) hFr hBw HF1.out HF2.out rfl rfl rfl)
    have hplen := hprd.1
    have hex : ∃ p rest, rR.1.its = p :: rest ∧ isSym p ⟨#[99, 108, 111, 115, 117, 114, 101]⟩ = false := by
      rcases HBAD.out with h' | h' | h'
      · exact absurd hyt h'
      · omega
      · exact h'
    obtain ⟨⟨pk, pn, pz, pas⟩, rest, hpi, hps⟩ := hex
    rw [hpi] at hprd
    subst hpl
    obtain ⟨pb, po, rfl⟩ := RdS_addr hprd (by simp)
    have HPS := Lib.hid hps
    clear hyt hpi hps hplen
    obtain ⟨qa, ql, qc, qF, ⟨q0, q1, q2, q3⟩, hrq, hqF, hblq⟩ := RdS_el0 hprd rfl
    go_wp2_with fail
    refine (isSymbol_any pk pn pz pas qa ql qc _ V9).mono ?_
    rintro e V10 ⟨rfl, hb⟩
    rw [HPS.out]
    replace hFr := hFr.below hBw hb
    clear r0 r1 r2 r3 rf rl q0 q1 q2 q3 hrq hqF hblq hb
    obtain ⟨r0, r1, r2, r3, rf, rl⟩ := hFr.res
    go_wp2
    rw [HE.out]
    exact bodyPost_ret (v := .tuple #[.agg #[.int .i64 0, .int .i64 0, .string ⟨#[]⟩, .slice none 0 0], .int .i64 1]) (results_term2 rfl _ _ (w.heap.size + 1 + 1) rfl rfl (heap_set4 hFr.b6)) rfl (EvOut_nil (r := stuck rR.2.2) hFr hBw HF1.out HF2.out rfl rfl rfl)
end Go.Proofs.Ytjkabbkaeioibaa
namespace Go.Proofs.Ytjkabbkaeioibaa
open Go.RowKit
set_option linter.unusedVariables false

set_option maxHeartbeats 8000000 in
set_option maxRecDepth 200000 in
theorem eval_lam_bad (fuel : Nat) (ih : EvalT fuel) (left steps B : Nat) (k1 n1 : Int) (s1 : ByteArray) (xs1 : List Tm) (a1 : Option Addr) (l1 c1 : Nat) (F1 : List Nat) (k2 n2 : Int) (s2 : ByteArray) (xs2 : List Tm) (a2 : Option Addr) (l2 c2 : Nat) (F2 : List Nat) (w : World)
    (hlf : left ≤ fuel) (hst : left + 1 ≤ steps) (h1000 : steps ≤ 1000) (hlsp : LispAt w B steps (left + 1)) (h1 : RdS w xs1 a1 l1 c1 F1) (h2 : RdS w xs2 a2 l2 c2 F2) (hB1 : B ∉ F1) (hB2 : B ∉ F2) (hok1 : (Tm.mk k1 n1 s1 xs1).ok = true) (hok2 : (Tm.mk k2 n2 s2 xs2).ok = true) (hk : k1 ≠ 2) (htl : (Tm.mk k1 n1 s1 xs1).tl.kind = 0) (xk xn : Int) (xz : ByteArray) (xas : List Tm) (yk yn : Int) (yz : ByteArray) (yas : List Tm) (zk zn : Int) (zz : ByteArray) (zas : List Tm) (hits : (Tm.mk k1 n1 s1 xs1).its = [.mk xk xn xz xas, .mk yk yn yz yas, .mk zk zn zz zas]) (hq : isSym (.mk xk xn xz xas) ⟨#[108, 97, 109, 98, 100, 97]⟩ = true) (hbad : (Tm.mk yk yn yz yas).tl.kind ≠ 0 ∨ (Tm.mk yk yn yz yas).its.length ≠ 1 ∨ ∃ z, (Tm.mk yk yn yz yas).its = [z] ∧ z.kind ≠ 2) :
    Calls Try.prog 86 #[.pointer (some ⟨B, 0, none⟩), .agg #[.int .i64 k1, .int .i64 n1, .string s1, .slice a1 l1 c1], .agg #[.int .i64 k2, .int .i64 n2, .string s2, .slice a2 l2 c2]] w
      (EvOut w B steps F1 F2 (evStep (ev fuel) left (.mk k1 n1 s1 xs1) (.mk k2 n2 s2 xs2))) := by
  have hres : evStep (ev fuel) left (.mk k1 n1 s1 xs1) (.mk k2 n2 s2 xs2) = stuck left := by
    rw [evStep_list (show (Tm.mk k1 n1 s1 xs1).kind ≠ 2 from hk) htl]
    rw [hits, evForm, if_pos hq]; exact evLam_bad hbad
  rw [hres]
  have HTL : Hid (((Tm.mk k1 n1 s1 xs1).tl.kind == 0) = true) := by show _ = _; simpa using htl
  clear hres htl
  have HOKL : Hid (∀ x ∈ [Tm.mk xk xn xz xas, Tm.mk yk yn yz yas, Tm.mk zk zn zz zas], x.ok = true) := fun x hx => its_ok hok1 x (by rw [hits]; exact hx)
  have HOKY := Lib.hid (HOKL.out (.mk yk yn yz yas) (by simp))
  have HOKZ := Lib.hid (HOKL.out (.mk zk zn zz zas) (by simp))
  have HITS := Lib.hid hits; have HQ := Lib.hid hq
  clear hits hq
  have HBAD := Lib.hid hbad
  clear hbad
  have hk' : (k1 == 2) = false := by simpa using hk
  have IT := Lib.hid (items_impl k1 n1 s1 xs1 a1 l1 c1 F1)
  clear hk
  have hBw : B < w.heap.size := heap_lt hlsp
  have hF1 := RdS_lt h1
  have hF2 := RdS_lt h2
  obtain ⟨tk, htk⟩ : ∃ tk : Int, tk = (steps : Int) - ((left + 1 : Nat) : Int) := ⟨_, rfl⟩
  unfold LispAt at hlsp
  rw [← htk] at hlsp
  have HTK := Lib.hid htk; have HLSP := Lib.hid hlsp; have HF1 := Lib.hid hF1; have HF2 := Lib.hid hF2; have IH := Lib.hid ih
  have HH1 := Lib.hid h1; have HH2 := Lib.hid h2; have HOK1 := Lib.hid hok1; have HOK2 := Lib.hid hok2; have HB1 := Lib.hid hB1; have HB2 := Lib.hid hB2
  have htk0 : 0 ≤ tk := by omega
  have htk1 : tk ≤ 1000 := by omega
  have hne : (tk == (steps : Int)) = false := by simp; omega
  have HNE := Lib.hid hne
  clear htk hlsp hF1 hF2 ih h1 h2 hok1 hok2 hB1 hB2 hne
  go_enter Try.func86, Try.ntmps86
  go_wp2_with fail
  have hbN : Below w.heap.size w (((w.alloc (.cells #[.int .i64 k1, .int .i64 n1, .string s1, .slice a1 l1 c1] 26)).alloc (.cells #[.int .i64 k2, .int .i64 n2, .string s2, .slice a2 l2 c2] 26)).alloc (.cells #[.int .i64 0, .int .i64 0, .string ⟨#[]⟩, .slice none 0 0] 26)) := (((Below.refl _ _).alloc (Nat.le_refl _) _).alloc (by simp) _).alloc (by simp; omega) _
  have hA1 : (((w.alloc (.cells #[.int .i64 k1, .int .i64 n1, .string s1, .slice a1 l1 c1] 26)).alloc (.cells #[.int .i64 k2, .int .i64 n2, .string s2, .slice a2 l2 c2] 26)).alloc (.cells #[.int .i64 0, .int .i64 0, .string ⟨#[]⟩, .slice none 0 0] 26)).heap[w.heap.size]? = some (.cells #[.int .i64 k1, .int .i64 n1, .string s1, .slice a1 l1 c1] 26 (0, 0)) := by
    rw [heap_old (by simp; omega), heap_old (by simp)]; exact heap_new rfl
  have hA2 : (((w.alloc (.cells #[.int .i64 k1, .int .i64 n1, .string s1, .slice a1 l1 c1] 26)).alloc (.cells #[.int .i64 k2, .int .i64 n2, .string s2, .slice a2 l2 c2] 26)).alloc (.cells #[.int .i64 0, .int .i64 0, .string ⟨#[]⟩, .slice none 0 0] 26)).heap[w.heap.size + 1]? = some (.cells #[.int .i64 k2, .int .i64 n2, .string s2, .slice a2 l2 c2] 26 (0, 0)) := by
    rw [heap_old (by simp)]; exact heap_new (by simp)
  have hA3 : (((w.alloc (.cells #[.int .i64 k1, .int .i64 n1, .string s1, .slice a1 l1 c1] 26)).alloc (.cells #[.int .i64 k2, .int .i64 n2, .string s2, .slice a2 l2 c2] 26)).alloc (.cells #[.int .i64 0, .int .i64 0, .string ⟨#[]⟩, .slice none 0 0] 26)).heap[w.heap.size + 1 + 1]? = some (.cells #[.int .i64 0, .int .i64 0, .string ⟨#[]⟩, .slice none 0 0] 26 (0, 0)) := heap_new (by simp)
  have hsz : (((w.alloc (.cells #[.int .i64 k1, .int .i64 n1, .string s1, .slice a1 l1 c1] 26)).alloc (.cells #[.int .i64 k2, .int .i64 n2, .string s2, .slice a2 l2 c2] 26)).alloc (.cells #[.int .i64 0, .int .i64 0, .string ⟨#[]⟩, .slice none 0 0] 26)).heap.size = w.heap.size + 3 := by simp
  generalize (((w.alloc (.cells #[.int .i64 k1, .int .i64 n1, .string s1, .slice a1 l1 c1] 26)).alloc (.cells #[.int .i64 k2, .int .i64 n2, .string s2, .slice a2 l2 c2] 26)).alloc (.cells #[.int .i64 0, .int .i64 0, .string ⟨#[]⟩, .slice none 0 0] 26)) = W at *
  have HA1 := Lib.hid hA1; have HA2 := Lib.hid hA2; have HA3 := Lib.hid hA3; have HSZ := Lib.hid hsz
  have HBL := Lib.hid ((hbN.block _ hBw).trans HLSP.out)
  have hBW : B < W.heap.size := by omega
  obtain ⟨m0, m1, mf⟩ : W.cell? ⟨B, 0, none⟩ = some (.int .i64 (steps : Int)) ∧ W.cell? ⟨B, 1, none⟩ = some (.int .i64 tk) ∧ ∀ o, W.frozen? ⟨B, o, none⟩ = false := ⟨by simpa using cell_of_block HBL.out 0, by simpa using cell_of_block HBL.out 1, frozen_of_block HBL.out⟩
  clear hA1 hA2 hA3 hsz
  go_region_held3 (fun w' => w'.cell? ⟨B, 0, none⟩ = some (.int .i64 (steps : Int)) ∧ w'.cell? ⟨B, 1, none⟩ = some (.int .i64 tk)) (first | exact ⟨m0, m1⟩) (fail)
  have hne := HNE.out
  obtain ⟨e0, e1, e2, e3, _⟩ := box4 HA1.out
  obtain ⟨f0, f1, f2, f3, _⟩ := box4 HA2.out
  have hlt1 : w.heap.size < W.heap.size := by have := HSZ.out; omega
  have hlt2 : w.heap.size + 1 < W.heap.size := by have := HSZ.out; omega
  have hneB0 : w.heap.size ≠ B := by omega
  have hneB1 : w.heap.size + 1 ≠ B := by omega
  have hneB2 : w.heap.size + 1 + 1 ≠ B := by omega
  go_wp2_with fail
  have hFr : Fr w ((W.setCell ⟨B, 1, none⟩ (.int .i64 (tk + 1))).drew) B steps left k2 n2 s2 a2 l2 c2 := by
    refine ⟨(heap_set_other _ hneB1).trans HA2.out, (heap_set_other _ hneB2).trans HA3.out, ?_, ⟨hbN.os, hbN.tape, hbN.output, by have := HSZ.out; simp [World.setCell]; omega, fun x hx hr => (heap_set_other _ (by simpa using hr)).trans (hbN.block x hx)⟩, by have := HSZ.out; simp [World.setCell]; omega⟩
    have h0 := heap_set (o := 1) (.int .i64 (tk + 1)) HBL.out
    show (W.setCell ⟨B, 1, none⟩ (.int .i64 (tk + 1))).heap[B]? = _
    rw [h0, HTK.out]
    have he : (steps : Int) - ((left + 1 : Nat) : Int) + 1 = (steps : Int) - (left : Int) := by omega
    rw [he]; rfl
  have hrdE : RdS ((W.setCell ⟨B, 1, none⟩ (.int .i64 (tk + 1))).drew) xs1 a1 l1 c1 F1 := RdS_grown HH1.out hFr.ext (fun x hx hh => HB1.out (hh ▸ hx))
  have hrdN : RdS ((W.setCell ⟨B, 1, none⟩ (.int .i64 (tk + 1))).drew) xs2 a2 l2 c2 F2 := RdS_grown HH2.out hFr.ext (fun x hx hh => HB2.out (hh ▸ hx))
  generalize (W.setCell ⟨B, 1, none⟩ (.int .i64 (tk + 1))).drew = V at *
  have hsV := hFr.sz
  refine (IT.out V hrdE HOK1.out).mono ?_
  rintro e V1 ⟨ia, il, ic, iF, rfl, hird, hiF, hb⟩
  replace hFr := hFr.below hBw hb
  replace hrdN := RdS_ext hrdN hb
  have hGi : Gd w F1 F2 iF := fun x hx => by
    rcases hiF x hx with h' | h'
    · exact .inl h'
    · exact .inr (.inr (by omega))
  clear hiF hb hrdE e0 e1 e2 e3 f0 f1 f2 f3 m0 m1 mf
  rw [HTL.out]
  rw [HITS.out] at hird
  obtain rfl : il = 3 := hird.1
  obtain ⟨b, o, rfl⟩ := RdS_addr hird (by simp)
  have hBi : B ∉ iF := hGi.ne HB1.out HB2.out hBw
  have hbI : b ≠ B := by
    intro hh
    obtain ⟨_, _, h3⟩ := hird
    rcases h3 with ⟨h4, _⟩ | ⟨_, b', o', F', ha, hF', _⟩
    · simp at h4
    · simp at ha; apply hBi; rw [hF', ← hh, ha.1]; simp
  obtain ⟨xa, xl, xc, xF, ⟨x0, x1, x2, x3⟩, hrx, hxF, hblx⟩ := RdS_el0 hird rfl
  go_wp2_with fail
  refine (isSymbol_any xk xn xz xas xa xl xc _ V1).mono ?_
  rintro e V2 ⟨rfl, hb⟩
  rw [HQ.out]
  replace hFr := hFr.below hBw hb
  replace hrdN := RdS_ext hrdN hb
  replace hird := RdS_ext hird hb
  clear x0 x1 x2 x3 hrx hxF hblx
  clear hb
  obtain ⟨ya, yl, yc, yF, ⟨y0, y1, y2, y3⟩, hry, hyF, hbly⟩ := RdS_el1 hird rfl
  go_wp2_with fail
  have hsV3 := hFr.sz
  have hGy := hGi.sub hyF
  refine (items_impl yk yn yz yas ya yl yc yF V2 hry HOKY.out).mono ?_
  rintro e V9 ⟨ja, jl, jc, jF, rfl, hjrd, hjF, hb⟩
  have hGj : Gd w F1 F2 jF := hGy.new hsV3 hjF
  replace hFr := hFr.below hBw hb
  replace hird := RdS_ext hird hb
  replace hrdN := RdS_ext hrdN hb
  clear y0 y1 y2 y3 hry hyF hbly hb hjF
  obtain ⟨r0, r1, r2, r3, rf, rl⟩ := hFr.res
  by_cases hyt : (Tm.mk yk yn yz yas).tl.kind = 0
  case neg =>
    have hd : ((Tm.mk yk yn yz yas).tl.kind == 0) = false := by simpa using hyt
    rw [hd]
    clear hyt hd
    go_wp2
    exact bodyPost_ret (v := .tuple #[.agg #[.int .i64 0, .int .i64 0, .string ⟨#[]⟩, .slice none 0 0], .int .i64 1]) (results_term2 rfl _ _ (w.heap.size + 1 + 1) rfl rfl (heap_set4 hFr.b6)) rfl (EvOut_nil (r := stuck left) hFr hBw HF1.out HF2.out rfl rfl rfl)
  have hd : ((Tm.mk yk yn yz yas).tl.kind == 0) = true := by simpa using hyt
  rw [hd]
  clear hd
  by_cases hjl : jl = 1
  case neg =>
    have d1 : ((jl : Int) != 1) = true := by simp; omega
    clear hyt hjl
    go_wp2
    exact bodyPost_ret (v := .tuple #[.agg #[.int .i64 0, .int .i64 0, .string ⟨#[]⟩, .slice none 0 0], .int .i64 1]) (results_term2 rfl _ _ (w.heap.size + 1 + 1) rfl rfl (heap_set4 hFr.b6)) rfl (EvOut_nil (r := stuck left) hFr hBw HF1.out HF2.out rfl rfl rfl)
  have hjlen := hjrd.1
  have hex : ∃ z, (Tm.mk yk yn yz yas).its = [z] ∧ z.kind ≠ 2 := by
    rcases HBAD.out with h' | h' | h'
    · exact absurd hyt h'
    · omega
    · exact h'
  obtain ⟨⟨gk, gn, gz, gas⟩, hyi, hgk⟩ := hex
  rw [hyi] at hjrd
  subst hjl
  obtain ⟨jb, jo, rfl⟩ := RdS_addr hjrd (by simp)
  have hgd : (gk != 2) = true := by simpa [Tm.kind] using hgk
  clear hyt hyi hgk hjlen
  obtain ⟨ga, gl, gc, gF, ⟨g0, g1, g2, g3⟩, hrg, hgF, hblg⟩ := RdS_el0 hjrd rfl
  go_wp2
  exact bodyPost_ret (v := .tuple #[.agg #[.int .i64 0, .int .i64 0, .string ⟨#[]⟩, .slice none 0 0], .int .i64 1]) (results_term2 rfl _ _ (w.heap.size + 1 + 1) rfl rfl (heap_set4 hFr.b6)) rfl (EvOut_nil (r := stuck left) hFr hBw HF1.out HF2.out rfl rfl rfl)

set_option maxHeartbeats 8000000 in
set_option maxRecDepth 200000 in
theorem eval_lam_good (fuel : Nat) (ih : EvalT fuel) (left steps B : Nat) (k1 n1 : Int) (s1 : ByteArray) (xs1 : List Tm) (a1 : Option Addr) (l1 c1 : Nat) (F1 : List Nat) (k2 n2 : Int) (s2 : ByteArray) (xs2 : List Tm) (a2 : Option Addr) (l2 c2 : Nat) (F2 : List Nat) (w : World)
    (hlf : left ≤ fuel) (hst : left + 1 ≤ steps) (h1000 : steps ≤ 1000) (hlsp : LispAt w B steps (left + 1)) (h1 : RdS w xs1 a1 l1 c1 F1) (h2 : RdS w xs2 a2 l2 c2 F2) (hB1 : B ∉ F1) (hB2 : B ∉ F2) (hok1 : (Tm.mk k1 n1 s1 xs1).ok = true) (hok2 : (Tm.mk k2 n2 s2 xs2).ok = true) (hk : k1 ≠ 2) (htl : (Tm.mk k1 n1 s1 xs1).tl.kind = 0) (xk xn : Int) (xz : ByteArray) (xas : List Tm) (yk yn : Int) (yz : ByteArray) (yas : List Tm) (zk zn : Int) (zz : ByteArray) (zas : List Tm) (hits : (Tm.mk k1 n1 s1 xs1).its = [.mk xk xn xz xas, .mk yk yn yz yas, .mk zk zn zz zas]) (hq : isSym (.mk xk xn xz xas) ⟨#[108, 97, 109, 98, 100, 97]⟩ = true) (gk gn : Int) (gz : ByteArray) (gas : List Tm) (hyi : (Tm.mk yk yn yz yas).its = [.mk gk gn gz gas]) (hyt : (Tm.mk yk yn yz yas).tl.kind = 0) (hgk : gk = 2) :
    Calls Try.prog 86 #[.pointer (some ⟨B, 0, none⟩), .agg #[.int .i64 k1, .int .i64 n1, .string s1, .slice a1 l1 c1], .agg #[.int .i64 k2, .int .i64 n2, .string s2, .slice a2 l2 c2]] w
      (EvOut w B steps F1 F2 (evStep (ev fuel) left (.mk k1 n1 s1 xs1) (.mk k2 n2 s2 xs2))) := by
  have hres : evStep (ev fuel) left (.mk k1 n1 s1 xs1) (.mk k2 n2 s2 xs2) = keepV (cloT (.mk gk gn gz gas) (.mk zk zn zz zas) (Tm.mk k2 n2 s2 xs2)) left := by
    rw [evStep_list (show (Tm.mk k1 n1 s1 xs1).kind ≠ 2 from hk) htl]
    rw [hits, evForm, if_pos hq, evLam, hyi]
    exact if_pos ⟨hyt, hgk⟩
  rw [hres]
  have HTL : Hid (((Tm.mk k1 n1 s1 xs1).tl.kind == 0) = true) := by show _ = _; simpa using htl
  clear hres htl
  have HOKL : Hid (∀ x ∈ [Tm.mk xk xn xz xas, Tm.mk yk yn yz yas, Tm.mk zk zn zz zas], x.ok = true) := fun x hx => its_ok hok1 x (by rw [hits]; exact hx)
  have HOKY := Lib.hid (HOKL.out (.mk yk yn yz yas) (by simp))
  have HOKZ := Lib.hid (HOKL.out (.mk zk zn zz zas) (by simp))
  have HITS := Lib.hid hits; have HQ := Lib.hid hq
  clear hits hq
  have HYI := Lib.hid hyi; have HYT := Lib.hid hyt; have HGK := Lib.hid hgk
  have HOKG := Lib.hid (its_ok HOKY.out (.mk gk gn gz gas) (by rw [hyi]; simp))
  obtain ⟨ct, hct⟩ : ∃ t : Tm, t = cloT (.mk gk gn gz gas) (.mk zk zn zz zas) (Tm.mk k2 n2 s2 xs2) := ⟨_, rfl⟩
  rw [← hct]
  have HLC : Hid ct.Lens := by show ct.Lens; rw [hct]; exact wf_lens (clo_wf (ok_wf HOKG.out).1 (ok_wf HOKZ.out).1 (ok_wf hok2).1)
  have HCT := Lib.hid hct
  clear hyi hyt hgk hct
  have hk' : (k1 == 2) = false := by simpa using hk
  have IT := Lib.hid (items_impl k1 n1 s1 xs1 a1 l1 c1 F1)
  clear hk
  have hBw : B < w.heap.size := heap_lt hlsp
  have hF1 := RdS_lt h1
  have hF2 := RdS_lt h2
  obtain ⟨tk, htk⟩ : ∃ tk : Int, tk = (steps : Int) - ((left + 1 : Nat) : Int) := ⟨_, rfl⟩
  unfold LispAt at hlsp
  rw [← htk] at hlsp
  have HTK := Lib.hid htk; have HLSP := Lib.hid hlsp; have HF1 := Lib.hid hF1; have HF2 := Lib.hid hF2; have IH := Lib.hid ih
  have HH1 := Lib.hid h1; have HH2 := Lib.hid h2; have HOK1 := Lib.hid hok1; have HOK2 := Lib.hid hok2; have HB1 := Lib.hid hB1; have HB2 := Lib.hid hB2
  have htk0 : 0 ≤ tk := by omega
  have htk1 : tk ≤ 1000 := by omega
  have hne : (tk == (steps : Int)) = false := by simp; omega
  have HNE := Lib.hid hne
  clear htk hlsp hF1 hF2 ih h1 h2 hok1 hok2 hB1 hB2 hne
  go_enter Try.func86, Try.ntmps86
  go_wp2_with fail
  have hbN : Below w.heap.size w (((w.alloc (.cells #[.int .i64 k1, .int .i64 n1, .string s1, .slice a1 l1 c1] 26)).alloc (.cells #[.int .i64 k2, .int .i64 n2, .string s2, .slice a2 l2 c2] 26)).alloc (.cells #[.int .i64 0, .int .i64 0, .string ⟨#[]⟩, .slice none 0 0] 26)) := (((Below.refl _ _).alloc (Nat.le_refl _) _).alloc (by simp) _).alloc (by simp; omega) _
  have hA1 : (((w.alloc (.cells #[.int .i64 k1, .int .i64 n1, .string s1, .slice a1 l1 c1] 26)).alloc (.cells #[.int .i64 k2, .int .i64 n2, .string s2, .slice a2 l2 c2] 26)).alloc (.cells #[.int .i64 0, .int .i64 0, .string ⟨#[]⟩, .slice none 0 0] 26)).heap[w.heap.size]? = some (.cells #[.int .i64 k1, .int .i64 n1, .string s1, .slice a1 l1 c1] 26 (0, 0)) := by
    rw [heap_old (by simp; omega), heap_old (by simp)]; exact heap_new rfl
  have hA2 : (((w.alloc (.cells #[.int .i64 k1, .int .i64 n1, .string s1, .slice a1 l1 c1] 26)).alloc (.cells #[.int .i64 k2, .int .i64 n2, .string s2, .slice a2 l2 c2] 26)).alloc (.cells #[.int .i64 0, .int .i64 0, .string ⟨#[]⟩, .slice none 0 0] 26)).heap[w.heap.size + 1]? = some (.cells #[.int .i64 k2, .int .i64 n2, .string s2, .slice a2 l2 c2] 26 (0, 0)) := by
    rw [heap_old (by simp)]; exact heap_new (by simp)
  have hA3 : (((w.alloc (.cells #[.int .i64 k1, .int .i64 n1, .string s1, .slice a1 l1 c1] 26)).alloc (.cells #[.int .i64 k2, .int .i64 n2, .string s2, .slice a2 l2 c2] 26)).alloc (.cells #[.int .i64 0, .int .i64 0, .string ⟨#[]⟩, .slice none 0 0] 26)).heap[w.heap.size + 1 + 1]? = some (.cells #[.int .i64 0, .int .i64 0, .string ⟨#[]⟩, .slice none 0 0] 26 (0, 0)) := heap_new (by simp)
  have hsz : (((w.alloc (.cells #[.int .i64 k1, .int .i64 n1, .string s1, .slice a1 l1 c1] 26)).alloc (.cells #[.int .i64 k2, .int .i64 n2, .string s2, .slice a2 l2 c2] 26)).alloc (.cells #[.int .i64 0, .int .i64 0, .string ⟨#[]⟩, .slice none 0 0] 26)).heap.size = w.heap.size + 3 := by simp
  generalize (((w.alloc (.cells #[.int .i64 k1, .int .i64 n1, .string s1, .slice a1 l1 c1] 26)).alloc (.cells #[.int .i64 k2, .int .i64 n2, .string s2, .slice a2 l2 c2] 26)).alloc (.cells #[.int .i64 0, .int .i64 0, .string ⟨#[]⟩, .slice none 0 0] 26)) = W at *
  have HA1 := Lib.hid hA1; have HA2 := Lib.hid hA2; have HA3 := Lib.hid hA3; have HSZ := Lib.hid hsz
  have HBL := Lib.hid ((hbN.block _ hBw).trans HLSP.out)
  have hBW : B < W.heap.size := by omega
  obtain ⟨m0, m1, mf⟩ : W.cell? ⟨B, 0, none⟩ = some (.int .i64 (steps : Int)) ∧ W.cell? ⟨B, 1, none⟩ = some (.int .i64 tk) ∧ ∀ o, W.frozen? ⟨B, o, none⟩ = false := ⟨by simpa using cell_of_block HBL.out 0, by simpa using cell_of_block HBL.out 1, frozen_of_block HBL.out⟩
  clear hA1 hA2 hA3 hsz
  go_region_held3 (fun w' => w'.cell? ⟨B, 0, none⟩ = some (.int .i64 (steps : Int)) ∧ w'.cell? ⟨B, 1, none⟩ = some (.int .i64 tk)) (first | exact ⟨m0, m1⟩) (fail)
  have hne := HNE.out
  obtain ⟨e0, e1, e2, e3, _⟩ := box4 HA1.out
  obtain ⟨f0, f1, f2, f3, _⟩ := box4 HA2.out
  have hlt1 : w.heap.size < W.heap.size := by have := HSZ.out; omega
  have hlt2 : w.heap.size + 1 < W.heap.size := by have := HSZ.out; omega
  have hneB0 : w.heap.size ≠ B := by omega
  have hneB1 : w.heap.size + 1 ≠ B := by omega
  have hneB2 : w.heap.size + 1 + 1 ≠ B := by omega
  go_wp2_with fail
  have hFr : Fr w ((W.setCell ⟨B, 1, none⟩ (.int .i64 (tk + 1))).drew) B steps left k2 n2 s2 a2 l2 c2 := by
    refine ⟨(heap_set_other _ hneB1).trans HA2.out, (heap_set_other _ hneB2).trans HA3.out, ?_, ⟨hbN.os, hbN.tape, hbN.output, by have := HSZ.out; simp [World.setCell]; omega, fun x hx hr => (heap_set_other _ (by simpa using hr)).trans (hbN.block x hx)⟩, by have := HSZ.out; simp [World.setCell]; omega⟩
    have h0 := heap_set (o := 1) (.int .i64 (tk + 1)) HBL.out
    show (W.setCell ⟨B, 1, none⟩ (.int .i64 (tk + 1))).heap[B]? = _
    rw [h0, HTK.out]
    have he : (steps : Int) - ((left + 1 : Nat) : Int) + 1 = (steps : Int) - (left : Int) := by omega
    rw [he]; rfl
  have hrdE : RdS ((W.setCell ⟨B, 1, none⟩ (.int .i64 (tk + 1))).drew) xs1 a1 l1 c1 F1 := RdS_grown HH1.out hFr.ext (fun x hx hh => HB1.out (hh ▸ hx))
  have hrdN : RdS ((W.setCell ⟨B, 1, none⟩ (.int .i64 (tk + 1))).drew) xs2 a2 l2 c2 F2 := RdS_grown HH2.out hFr.ext (fun x hx hh => HB2.out (hh ▸ hx))
  generalize (W.setCell ⟨B, 1, none⟩ (.int .i64 (tk + 1))).drew = V at *
  have hsV := hFr.sz
  refine (IT.out V hrdE HOK1.out).mono ?_
  rintro e V1 ⟨ia, il, ic, iF, rfl, hird, hiF, hb⟩
  replace hFr := hFr.below hBw hb
  replace hrdN := RdS_ext hrdN hb
  have hGi : Gd w F1 F2 iF := fun x hx => by
    rcases hiF x hx with h' | h'
    · exact .inl h'
    · exact .inr (.inr (by omega))
  clear hiF hb hrdE e0 e1 e2 e3 f0 f1 f2 f3 m0 m1 mf
  rw [HTL.out]
  rw [HITS.out] at hird
  obtain rfl : il = 3 := hird.1
  obtain ⟨b, o, rfl⟩ := RdS_addr hird (by simp)
  have hBi : B ∉ iF := hGi.ne HB1.out HB2.out hBw
  have hbI : b ≠ B := by
    intro hh
    obtain ⟨_, _, h3⟩ := hird
    rcases h3 with ⟨h4, _⟩ | ⟨_, b', o', F', ha, hF', _⟩
    · simp at h4
    · simp at ha; apply hBi; rw [hF', ← hh, ha.1]; simp
  obtain ⟨xa, xl, xc, xF, ⟨x0, x1, x2, x3⟩, hrx, hxF, hblx⟩ := RdS_el0 hird rfl
  go_wp2_with fail
  refine (isSymbol_any xk xn xz xas xa xl xc _ V1).mono ?_
  rintro e V2 ⟨rfl, hb⟩
  rw [HQ.out]
  replace hFr := hFr.below hBw hb
  replace hrdN := RdS_ext hrdN hb
  replace hird := RdS_ext hird hb
  clear x0 x1 x2 x3 hrx hxF hblx
  clear hb
  obtain ⟨ya, yl, yc, yF, ⟨y0, y1, y2, y3⟩, hry, hyF, hbly⟩ := RdS_el1 hird rfl
  go_wp2_with fail
  have hsV3 := hFr.sz
  have hGy := hGi.sub hyF
  refine (items_impl yk yn yz yas ya yl yc yF V2 hry HOKY.out).mono ?_
  rintro e V9 ⟨ja, jl, jc, jF, rfl, hjrd, hjF, hb⟩
  have hGj : Gd w F1 F2 jF := hGy.new hsV3 hjF
  replace hFr := hFr.below hBw hb
  replace hird := RdS_ext hird hb
  replace hrdN := RdS_ext hrdN hb
  clear y0 y1 y2 y3 hry hyF hbly hb hjF
  obtain ⟨r0, r1, r2, r3, rf, rl⟩ := hFr.res
  have hd : ((Tm.mk yk yn yz yas).tl.kind == 0) = true := by simpa using HYT.out
  rw [hd]
  rw [HYI.out] at hjrd
  obtain rfl : jl = 1 := hjrd.1
  obtain ⟨jb, jo, rfl⟩ := RdS_addr hjrd (by simp)
  have hgd : (gk != 2) = false := by simpa using HGK.out
  clear hd
  obtain ⟨ga, gl, gc, gF, ⟨g0, g1, g2, g3⟩, hrg, hgF, hblg⟩ := RdS_el0 hjrd rfl
  obtain ⟨za, zl, zc, zF, ⟨z0, z1, z2, z3⟩, hrz, hzF, hblz⟩ := RdS_el2 hird rfl
  obtain ⟨f0, f1, f2, f3, fl⟩ := hFr.env
  go_wp2_with fail
  have hGg := hGj.sub hgF
  have hGz := hGi.sub hzF
  have hbW : Below V9.heap.size V9 V9.drew := (Below.refl _ _).drew
  have HFR := Lib.hid hFr
  have HS : Hid (El12 jb jo b (o + 8) (w.heap.size + 1) (.int .i64 gk) (.int .i64 gn) (.string gz) (.slice ga gl gc) (.int .i64 zk) (.int .i64 zn) (.string zz) (.slice za zl zc) (.int .i64 k2) (.int .i64 n2) (.string s2) (.slice a2 l2 c2) V9) := ⟨g0, g1, g2, g3, z0, z1, z2, z3, f0, f1, f2, f3⟩
  have hsV1 := hFr.sz
  have n6a : jb ≠ w.heap.size + 1 + 1 := by
    obtain ⟨_, _, h3⟩ := hjrd
    rcases h3 with ⟨h4, _⟩ | ⟨_, b', o', F', ha, hF', _⟩
    · simp at h4
    · have := hGj.ne6 HF1.out HF2.out b' (by rw [hF']; simp)
      simp at ha; rw [ha.1]; exact this
  have n6b : b ≠ w.heap.size + 1 + 1 := by
    obtain ⟨_, _, h3⟩ := hird
    rcases h3 with ⟨h4, _⟩ | ⟨_, b', o', F', ha, hF', _⟩
    · simp at h4
    · have := hGi.ne6 HF1.out HF2.out b' (by rw [hF']; simp)
      simp at ha; rw [ha.1]; exact this
  have n6c : w.heap.size + 1 ≠ w.heap.size + 1 + 1 := by omega
  clear r0 r1 r2 r3 rf
  go_region_held3 (fun w' => w'.cell? ⟨jb, jo, none⟩ = some (.int .i64 gk) ∧ w'.cell? ⟨jb, jo + 1, none⟩ = some (.int .i64 gn) ∧ w'.cell? ⟨jb, jo + 2, none⟩ = some (.string gz) ∧ w'.cell? ⟨jb, jo + 3, none⟩ = some (.slice ga gl gc) ∧ w'.cell? ⟨b, o + 8, none⟩ = some (.int .i64 zk) ∧ w'.cell? ⟨b, o + 8 + 1, none⟩ = some (.int .i64 zn) ∧ w'.cell? ⟨b, o + 8 + 2, none⟩ = some (.string zz) ∧ w'.cell? ⟨b, o + 8 + 3, none⟩ = some (.slice za zl zc) ∧ w'.cell? ⟨w.heap.size + 1, 0, none⟩ = some (.int .i64 k2) ∧ w'.cell? ⟨w.heap.size + 1, 1, none⟩ = some (.int .i64 n2) ∧ w'.cell? ⟨w.heap.size + 1, 2, none⟩ = some (.string s2) ∧ w'.cell? ⟨w.heap.size + 1, 3, none⟩ = some (.slice a2 l2 c2))
    (first | with_reducible exact El12.same (hbW.block _ hblg) (hbW.block _ hblz) (hbW.block _ fl) HS.out | with_reducible exact El12.same ((hbW.alloc hbW.size (.cells #[.int .i64 2, .int .i64 0, .string ⟨#[99, 108, 111, 115, 117, 114, 101]⟩, .slice none 0 0, .int .i64 gk, .int .i64 gn, .string gz, .slice ga gl gc, .int .i64 zk, .int .i64 zn, .string zz, .slice za zl zc, .int .i64 k2, .int .i64 n2, .string s2, .slice a2 l2 c2] 26)).block _ hblg) ((hbW.alloc hbW.size (.cells #[.int .i64 2, .int .i64 0, .string ⟨#[99, 108, 111, 115, 117, 114, 101]⟩, .slice none 0 0, .int .i64 gk, .int .i64 gn, .string gz, .slice ga gl gc, .int .i64 zk, .int .i64 zn, .string zz, .slice za zl zc, .int .i64 k2, .int .i64 n2, .string s2, .slice a2 l2 c2] 26)).block _ hblz) ((hbW.alloc hbW.size (.cells #[.int .i64 2, .int .i64 0, .string ⟨#[99, 108, 111, 115, 117, 114, 101]⟩, .slice none 0 0, .int .i64 gk, .int .i64 gn, .string gz, .slice ga gl gc, .int .i64 zk, .int .i64 zn, .string zz, .slice za zl zc, .int .i64 k2, .int .i64 n2, .string s2, .slice a2 l2 c2] 26)).block _ fl) HS.out | with_reducible exact El12.same ((heap_set4_other n6a).trans (hbW.block _ hblg)) ((heap_set4_other n6b).trans (hbW.block _ hblz)) ((heap_set4_other n6c).trans (hbW.block _ fl)) HS.out)
    (first | (go_at_call 101; (with_reducible refine (symbol_any _ V9.drew).mono ?_); rintro e w3 ⟨rfl, hb3⟩; replace hbW : Below V9.heap.size V9 w3 := hbW.trans (hb3.mono hbW.size)) | (go_at_call 74; (with_reducible refine (list_some [.mk 2 0 ⟨#[99, 108, 111, 115, 117, 114, 101]⟩ [], .mk gk gn gz gas, .mk zk zn zz zas, .mk k2 n2 s2 xs2] (some ⟨w3.heap.size, 0, none⟩) w3.heap.size 0 4 4 [[], gF, zF, F2] (w3.alloc (.cells #[.int .i64 2, .int .i64 0, .string ⟨#[99, 108, 111, 115, 117, 114, 101]⟩, .slice none 0 0, .int .i64 gk, .int .i64 gn, .string gz, .slice ga gl gc, .int .i64 zk, .int .i64 zn, .string zz, .slice za zl zc, .int .i64 k2, .int .i64 n2, .string s2, .slice a2 l2 c2] 26)) (fun _ => rfl) rfl (by decide) rfl ?_).mono ?_); (exact row4_rd (e0 := ⟨2, 0, ⟨#[99, 108, 111, 115, 117, 114, 101]⟩, none, 0, 0⟩) (e1 := ⟨gk, gn, gz, ga, gl, gc⟩) (e2 := ⟨zk, zn, zz, za, zl, zc⟩) (e3 := ⟨k2, n2, s2, a2, l2, c2⟩) (heap_new rfl) (RdS_nil _ _ _) (RdS_ext hrg (hbW.alloc hbW.size _)) (RdS_ext hrz (hbW.alloc hbW.size _)) (RdS_ext hrdN (hbW.alloc hbW.size _))); rintro e w4 ⟨k7, n7, z7, xs7, a7, l7, c7, F7, ht7, rfl, hrd7, hgr7, hb7⟩; have hs3 := hbW.size; replace hbW : Below V9.heap.size V9 w4 := (hbW.alloc hbW.size _).trans (hb7.mono (hbW.alloc hbW.size _).size)) | (go_at_call 100; (with_reducible refine (small_any k7 n7 z7 xs7 a7 l7 c7 F7 w4 hrd7 ?_).mono ?_); (have hlc := HLC.out; rw [HCT.out] at hlc; rw [← ht7]; exact hlc); rintro e w5 ⟨k9, n9, z9, xs9, a9, l9, c9, F9, hr9, rfl, hrd9, hF9, hb9⟩; replace hbW : Below V9.heap.size V9 w5 := hbW.trans (hb9.mono hbW.size); have hFr5 := HFR.out.below hBw hbW; obtain ⟨t0, t1, t2, t3, tf, tl⟩ := hFr5.res))
  have hG9 : Gd w F1 F2 F9 := fun x hx => by
    rcases hgr7.mem x (hF9 x hx) with h' | ⟨h', _⟩
    · simp at h'
      rcases h' with h' | h' | h'
      · exact hGg x h'
      · exact hGz x h'
      · exact .inr (.inl h')
    · simp at h'; exact .inr (.inr (by omega))
  have hKE : cloT (.mk gk gn gz gas) (.mk zk zn zz zas) (Tm.mk k2 n2 s2 xs2) = .mk k7 n7 z7 xs7 := ht7
  rw [← HCT.out] at hKE
  have HKE := Lib.hid hKE
  clear hKE ht7
  rw [← HKE.out] at hr9 ⊢
  have HR9 := Lib.hid hr9
  have HKL := Lib.hid (keepV_left ct left)
  clear hr9 f0 f1 f2 f3 fl g0 g1 g2 g3 z0 z1 z2 z3
  replace hFr := hFr5
  have rl := tl
  generalize hcd : (((keepV ct 0).2.1 : Nat) : Int) = cd at *
  have HCD := Lib.hid hcd; clear hcd
  go_wp2
  rw [HKL.out]
  exact bodyPost_ret (v := .tuple #[.agg #[.int .i64 k9, .int .i64 n9, .string z9, .slice a9 l9 c9], .int .i64 cd]) (results_term2 rfl _ _ (w.heap.size + 1 + 1) rfl rfl (heap_set4 hFr.b6)) rfl (EvOut_set (r := ((keepV ct 0).1, (keepV ct 0).2.1, left)) hFr hBw HF1.out HF2.out HR9.out HCD.out.symm rfl hrd9 hG9)
end Go.Proofs.Ytjkabbkaeioibaa
