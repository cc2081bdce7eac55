/- FnExactEvalLisp: for all arguments the law returns true: the program's EvalLisp is the reference's, and shares no memory. No condition. -/
import Derived.Test.YtjkabbkaeioibaaOpen
import Derived.Test.YtjkabbkaeioibaaTo
import Derived.Test.YtjkabbkaeioibaaRunS
import Derived.Test.YtjkabbkaeioibaaEvalAll
import Derived.Test.YtjkabbkaeioibaaSpAll
import Derived.Deep.RegionHeld3
import Derived.Deep.DeepCutAuto
import Derived.ProofKit
import Derived.OpenShut
import Derived.ChangeOld
import Derived.Below
namespace Go.Proofs.Ytjkabbkaeioibaa
open Go.RowKit

namespace fnExactEvalLisp
set_option linter.unusedVariables false

set_option maxHeartbeats 8000000 in
set_option maxRecDepth 100000 in
theorem walk (k1 n1 : Int) (s1 : ByteArray) (xs1 : List Tm) (a1 : Option Addr) (l1 c1 : Nat) (F1 : List Nat) (k2 n2 : Int) (s2 : ByteArray) (xs2 : List Tm) (a2 : Option Addr) (l2 c2 : Nat) (F2 : List Nat) (st : Int) (w : World)
    (h1 : RdS w xs1 a1 l1 c1 F1) (h2 : RdS w xs2 a2 l2 c2 F2) (hin1 : (Tm.mk k1 n1 s1 xs1).In) (hin2 : (Tm.mk k2 n2 s2 xs2).In) :
    Calls Try.prog 13 #[.agg #[.int .i64 k1, .int .i64 n1, .string s1, .slice a1 l1 c1], .agg #[.int .i64 k2, .int .i64 n2, .string s2, .slice a2 l2 c2], .int .i64 st] w fun e w' => e = .returned (.bool true) ∧ Below w.heap.size w w' := by
  have hX1 := (Bx.new 43 (k := k1) (n := n1) (s := s1) h1).alloc (.cells #[.int .i64 k2, .int .i64 n2, .string s2, .slice a2 l2 c2] 43)
  have hX2 := Bx.new 43 (w := w.alloc (.cells #[.int .i64 k1, .int .i64 n1, .string s1, .slice a1 l1 c1] 43)) (k := k2) (n := n2) (s := s2) (RdS_ext h2 ((Below.refl _ _).alloc (Nat.le_refl _) _))
  have hbA : Below w.heap.size w ((w.alloc (.cells #[.int .i64 k1, .int .i64 n1, .string s1, .slice a1 l1 c1] 43)).alloc (.cells #[.int .i64 k2, .int .i64 n2, .string s2, .slice a2 l2 c2] 43)) := ((Below.refl _ _).alloc (Nat.le_refl _) _).alloc (by simp) _
  rw [World.size_alloc] at hX2
  have HF1 := Lib.hid (RdS_lt h1)
  have HF2 := Lib.hid (RdS_lt h2)
  have Z1 := Lib.hid (szT_all hin1 k1 n1 s1 xs1 a1 l1 c1 F1)
  have Z2 := Lib.hid (szT_all hin2 k2 n2 s2 xs2 a2 l2 c2 F2)
  have L1 := Lib.hid (sz_lens (.mk k1 n1 s1 xs1))
  have L2 := Lib.hid (sz_lens (.mk k2 n2 s2 xs2))
  have T1 := Lib.hid (fun hs => toT_all (.mk k1 n1 s1 xs1) hs k1 n1 s1 xs1 a1 l1 c1 F1)
  have T2 := Lib.hid (fun hs => toT_all (.mk k2 n2 s2 xs2) hs k2 n2 s2 xs2 a2 l2 c2 F2)
  have C1 := Lib.hid (cnt_sz (.mk k1 n1 s1 xs1))
  have C2 := Lib.hid (cnt_sz (.mk k2 n2 s2 xs2))
  have E1 := Lib.hid (fun hl => eqT_all (t := .mk k1 n1 s1 xs1) hl k1 n1 s1 xs1)
  have E2 := Lib.hid (fun hl => eqT_all (t := .mk k2 n2 s2 xs2) hl k2 n2 s2 xs2)
  have SP := Lib.hid (fun b1 b2 b3 G1 d1 d2 d3 G2 => EvalLisp_ref spec_all k1 n1 s1 xs1 b1 b2 b3 G1 k2 n2 s2 xs2 d1 d2 d3 G2 st)
  have IM := Lib.hid (fun b1 b2 b3 G1 d1 d2 d3 G2 => EvalLisp_run eval_all k1 n1 s1 xs1 b1 b2 b3 G1 k2 n2 s2 xs2 d1 d2 d3 G2 st)
  have K1 : Hid ((Tm.mk k1 n1 s1 xs1).cnt = 1 + cntL xs1) := by show _ = _; simp only [Tm.cnt]
  have K2 : Hid ((Tm.mk k2 n2 s2 xs2).cnt = 1 + cntL xs2) := by show _ = _; simp only [Tm.cnt]
  obtain ⟨t1, ht1⟩ : ∃ t : Tm, t = .mk k1 n1 s1 xs1 := ⟨_, rfl⟩
  obtain ⟨t2, ht2⟩ : ∃ t : Tm, t = .mk k2 n2 s2 xs2 := ⟨_, rfl⟩
  rw [← ht1] at Z1 L1 T1 C1 E1 SP IM K1
  rw [← ht2] at Z2 L2 T2 C2 E2 SP IM K2
  have hRL : ((runL t1 t2 st).1).Lens := wf_lens (ok_wf (runL_ok t1 t2 st)).1
  have hRC : ((runL t1 t2 st).1).cnt ≤ 2000000002 := by have := (ok_wf (runL_ok t1 t2 st)).2; omega
  generalize (runL t1 t2 st).1 = R at *
  generalize ((runL t1 t2 st).2.2 : Int) = rb at *
  have HT1 := Lib.hid ht1; have HT2 := Lib.hid ht2
  clear ht1 ht2
  go_enter Try.func13, Try.ntmps13
  go_wp2_with fail
  refine (Z1.out 1048576 _ trivial hX1.rd (by omega) (by omega)).mono ?_
  rintro e w1 ⟨rfl, hb1⟩
  replace hX1 := hX1.below hb1
  replace hX2 := hX2.below hb1
  have hbel := hbA.trans (hb1.mono hbA.size)
  obtain ⟨p0, p1, p2, p3, pl⟩ := hX2.cells
  clear hb1 hbA
  by_cases hfit : (t1.sz : Int) ≤ 1048576
  case neg =>
    rw [leftV_not (by omega)]
    clear hfit
    go_wp2
    go_ret
    exact ⟨rfl, hbel⟩
  rw [leftV_fit hfit]
  have hs1 : t1.sz ≤ 1048576 := by omega
  generalize hlf : (1048576 : Int) - t1.sz = lf
  have hlf0 : 0 ≤ lf := by omega
  have hlf1 : lf ≤ 1048576 := by omega
  clear hlf hfit
  go_wp2_with fail
  refine (Z2.out lf _ trivial hX2.rd (by omega) (by omega)).mono ?_
  rintro e w2 ⟨rfl, hb2⟩
  replace hX1 := hX1.below hb2
  replace hX2 := hX2.below hb2
  replace hbel := hbel.trans (hb2.mono hbel.size)
  clear hb2 p0 p1 p2 p3 pl
  by_cases hfit : (t2.sz : Int) ≤ lf
  case neg =>
    rw [leftV_not (by omega)]
    clear hfit
    go_wp2
    go_ret
    exact ⟨rfl, hbel⟩
  rw [leftV_fit hfit]
  have hs2 : t2.sz ≤ 1048576 := by omega
  generalize hlg : lf - t2.sz = lg
  have hlg0 : 0 ≤ lg := by omega
  have hL1 := L1.out hs1
  have hL2 := L2.out hs2
  have hcn1 : t1.cnt ≤ 1048577 := by have := C1.out; omega
  have hcn2 : t2.cnt ≤ 1048577 := by have := C2.out; omega
  clear hlg hfit hlf0 hlf1
  obtain ⟨p0, p1, p2, p3, pl⟩ := hX1.cells
  obtain ⟨q0, q1, q2, q3, ql⟩ := hX2.cells
  go_upto_region 8 with fail
  go_cut [8, 9] (fun s6 s7 wx => s7 = .int .i64 rb ∧ ResAt w2 R s6 wx)
  case first =>
    have hbd : Below w2.heap.size w2 w2.drew := (Below.refl _ _).drew
    have hbW := hbd
    go_region_held3 (fun w' => w'.cell? ⟨w.heap.size, 0, none⟩ = some (.int .i64 k1) ∧ w'.cell? ⟨w.heap.size, 1, none⟩ = some (.int .i64 n1) ∧ w'.cell? ⟨w.heap.size, 2, none⟩ = some (.string s1) ∧ w'.cell? ⟨w.heap.size, 3, none⟩ = some (.slice a1 l1 c1) ∧ w'.cell? ⟨w.heap.size + 1, 0, none⟩ = some (.int .i64 k2) ∧ w'.cell? ⟨w.heap.size + 1, 1, none⟩ = some (.int .i64 n2) ∧ w'.cell? ⟨w.heap.size + 1, 2, none⟩ = some (.string s2) ∧ w'.cell? ⟨w.heap.size + 1, 3, none⟩ = some (.slice a2 l2 c2))
      (first | exact two_cells hX1 hX2 hbW | exact two_cells hX1 hX2 (hbW.alloc hbW.size _) | exact two_cells hX1 hX2 (Below.refl _ _) | exact two_cells hX1 hX2 ((Below.refl _ _).alloc (Nat.le_refl _) _) | exact two_cells hX1 hX2 (hbW.trans (below_set4 hBz)))
      (first | (go_at_call 34; (with_reducible refine (T1.out hs1 _ trivial ?_).mono ?_); (first | exact (hX1.below hbW).rd | exact (hX1.below (hbW.alloc hbW.size _)).rd | exact (hX1.below ((Below.refl _ _).alloc (Nat.le_refl _) _).drew).rd); rintro e v3 ⟨k7, n7, s7, xs7, a7, l7, c7, F7, ht7, rfl, hrd7, _, hb7⟩; rw [HT1.out] at ht7; cases ht7; (try (have hz1 : v3.heap[w2.heap.size]? = some (.cells #[.int .i64 0, .int .i64 0, .string ⟨#[]⟩, .slice none 0 0] 26 (0, 0)) := (hb7.block _ (by simp)).trans (heap_new rfl); have hBz : w2.heap.size ≤ w2.heap.size := Nat.le_refl _)); (first | replace hbW : Below w2.heap.size w2 v3 := hbW.trans (hb7.mono hbW.size) | replace hbW : Below w2.heap.size w2 v3 := (((Below.refl _ _).alloc (Nat.le_refl _) _).drew).trans (hb7.mono (by simp)))) | (go_at_call 34; (with_reducible refine (T2.out hs2 _ trivial ?_).mono ?_); (first | exact (hX2.below hbW).rd | exact (hX2.below (hbW.alloc hbW.size _)).rd); rintro e v4 ⟨k8, n8, s8, xs8, a8, l8, c8, F8, ht8, rfl, hrd8, _, hb8⟩; rw [HT2.out] at ht8; cases ht8; (try (have hz2 : v4.heap[w2.heap.size]? = some (.cells #[.int .i64 0, .int .i64 0, .string ⟨#[]⟩, .slice none 0 0] 26 (0, 0)) := (hb8.block _ (heap_lt hz1)).trans hz1)); (try (have hz2 : v4.heap[v3.heap.size]? = some (.cells #[.int .i64 0, .int .i64 0, .string ⟨#[]⟩, .slice none 0 0] 26 (0, 0)) := (hb8.block _ (by simp)).trans (heap_new rfl); have hBz : w2.heap.size ≤ v3.heap.size := hbW.size)); (first | have hrd7' := RdS_ext hrd7 hb8 | have hrd7' := RdS_ext (RdS_ext hrd7 ((Below.refl _ _).alloc (Nat.le_refl _) _)) hb8); (first | replace hbW : Below w2.heap.size w2 v4 := hbW.trans (hb8.mono hbW.size) | replace hbW : Below w2.heap.size w2 v4 := (hbW.alloc hbW.size _).trans (hb8.mono (hbW.alloc hbW.size _).size))) | (go_at_call 44; (with_reducible refine (SP.out a7 l7 c7 F7 a8 l8 c8 F8 _ ?_ ?_ hL1 hL2 (by omega) (by omega)).mono ?_); (first | exact hrd7' | exact (RdS_ext hrd7' ((Below.refl _ _).alloc (Nat.le_refl _) _))); (first | exact hrd8 | exact (RdS_ext hrd8 ((Below.refl _ _).alloc (Nat.le_refl _) _))); rintro e v5 ⟨k9, n9, s9, xs9, a9, l9, c9, F9, ht9, rfl, hrd9, hgr9, hb9⟩; have hlow9 := fun x hx => (hgr9.fresh.2 x hx).1; (try (have hz : v5.heap[w2.heap.size]? = some (.cells #[.int .i64 0, .int .i64 0, .string ⟨#[]⟩, .slice none 0 0] 26 (0, 0)) := (hb9.block _ (heap_lt hz2)).trans hz2; obtain ⟨z0, z1, z2, z3, zf⟩ := box4 hz; have hzl := heap_lt hz; have hne : ∀ x ∈ F9, x ≠ w2.heap.size := fun x hx => by have := hlow9 x hx; have := heap_lt hz2; omega)); (try (have hz : v5.heap[v3.heap.size]? = some (.cells #[.int .i64 0, .int .i64 0, .string ⟨#[]⟩, .slice none 0 0] 26 (0, 0)) := (hb9.block _ (heap_lt hz2)).trans hz2; obtain ⟨z0, z1, z2, z3, zf⟩ := box4 hz; have hzl := heap_lt hz; have hne : ∀ x ∈ F9, x ≠ v3.heap.size := fun x hx => by have := hlow9 x hx; have := heap_lt hz2; omega)); (try (have hz : v5.heap[v4.heap.size]? = some (.cells #[.int .i64 0, .int .i64 0, .string ⟨#[]⟩, .slice none 0 0] 26 (0, 0)) := (hb9.block _ (by simp)).trans (heap_new rfl); have hBz : w2.heap.size ≤ v4.heap.size := hbW.size; obtain ⟨z0, z1, z2, z3, zf⟩ := box4 hz; have hzl := heap_lt hz; have hne : ∀ x ∈ F9, x ≠ v4.heap.size := fun x hx => by have := hlow9 x hx; simp at this; omega)); (first | replace hbW : Below w2.heap.size w2 v5 := hbW.trans (hb9.mono hbW.size) | replace hbW : Below w2.heap.size w2 v5 := (hbW.alloc hbW.size _).trans (hb9.mono (hbW.alloc hbW.size _).size))))
    all_goals (go_wp2_with fail; go_meet; first | exact ⟨rfl, ResAt_new ht9 hrd9 hbW⟩ | exact ⟨rfl, ResAt_set ht9 hrd9 hbW hBz hz hne⟩)
  case rest =>
    obtain ⟨rfl, B6, k, n, s, xs, a, l, c, F6, rfl, hR, hW0, hbx⟩ := hcut
    subst hR
    clear p0 p1 p2 p3 pl q0 q1 q2 q3 ql
    replace hX1 := hX1.below hbx
    replace hX2 := hX2.below hbx
    replace hbel := hbel.trans (hbx.mono hbel.size)
    have hB6 := heap_lt hW0.box
    have HF6 := Lib.hid (RdS_lt hW0.rd)
    have hwsz := hbel.size
    have hB2 := heap_lt hX2.box
    clear hbx
    obtain ⟨p0, p1, p2, p3, pl⟩ := hX1.cells
    go_wp2_with fail
    refine (T1.out hs1 _ trivial hX1.rd).mono ?_
    rintro e w4 ⟨k7, n7, s7, xs7, a8, l8, c8, F8, ht7, rfl, hrd8, hgr8, hb4⟩
    rw [HT1.out] at ht7
    cases ht7
    have HLO8 := Lib.hid hgr8.fresh
    have hszx := hb4.size
    clear p0 p1 p2 p3 pl
    replace hX1 := hX1.below hb4
    replace hX2 := hX2.below hb4
    replace hW0 := hW0.below hb4
    replace hbel := hbel.trans (hb4.mono hbel.size)
    clear hb4 hgr8
    obtain ⟨q0, q1, q2, q3, ql⟩ := hX2.cells
    go_wp2_with fail
    have hY8 := Bx.new 26 (k := k1) (n := n1) (s := s1) hrd8
    replace hX1 := hX1.alloc (.cells #[.int .i64 k1, .int .i64 n1, .string s1, .slice a8 l8 c8] 26)
    replace hX2 := hX2.alloc (.cells #[.int .i64 k1, .int .i64 n1, .string s1, .slice a8 l8 c8] 26)
    replace hW0 := hW0.alloc (.cells #[.int .i64 k1, .int .i64 n1, .string s1, .slice a8 l8 c8] 26)
    replace hbel := hbel.alloc hbel.size (.cells #[.int .i64 k1, .int .i64 n1, .string s1, .slice a8 l8 c8] 26)
    have hfr8 : Free (w4.alloc (.cells #[.int .i64 k1, .int .i64 n1, .string s1, .slice a8 l8 c8] 26)) F8 := Free_below (fun x hx => (HLO8.out.2 x hx).2) ((Below.refl _ _).alloc (Nat.le_refl _) _) (RdS_lt hrd8)
    have HL8 := Lib.hid (RdS_lt hrd8)
    refine (T2.out hs2 _ trivial hX2.rd).mono ?_
    rintro e w5 ⟨k7, n7, s7, xs7, a9, l9, c9, F9, ht7, rfl, hrd9, hgr9, hb5⟩
    rw [HT2.out] at ht7
    cases ht7
    have HLO9 := Lib.hid hgr9.fresh
    have hsz4 := hb5.size
    rw [World.size_alloc] at hsz4
    replace hfr8 := Free_below hfr8 hb5 (RdS_lt hY8.rd)
    clear q0 q1 q2 q3 ql
    replace hX1 := hX1.below hb5
    replace hX2 := hX2.below hb5
    replace hW0 := hW0.below hb5
    replace hY8 := hY8.below hb5
    replace hbel := hbel.trans (hb5.mono hbel.size)
    clear hb5 hgr9 hrd8
    obtain ⟨y0, y1, y2, y3, yl⟩ := hY8.cells
    go_wp2_with fail
    have hY9 := Bx.new 26 (k := k2) (n := n2) (s := s2) hrd9
    replace hfr8 := Free_below hfr8 ((Below.refl _ _).alloc (Nat.le_refl _) (.cells #[.int .i64 k2, .int .i64 n2, .string s2, .slice a9 l9 c9] 26)) (RdS_lt hY8.rd)
    have hfr9 : Free (w5.alloc (.cells #[.int .i64 k2, .int .i64 n2, .string s2, .slice a9 l9 c9] 26)) F9 := Free_below (fun x hx => (HLO9.out.2 x hx).2) ((Below.refl _ _).alloc (Nat.le_refl _) _) (RdS_lt hrd9)
    have HL9 := Lib.hid (RdS_lt hrd9)
    replace hX1 := hX1.alloc (.cells #[.int .i64 k2, .int .i64 n2, .string s2, .slice a9 l9 c9] 26)
    replace hX2 := hX2.alloc (.cells #[.int .i64 k2, .int .i64 n2, .string s2, .slice a9 l9 c9] 26)
    replace hW0 := hW0.alloc (.cells #[.int .i64 k2, .int .i64 n2, .string s2, .slice a9 l9 c9] 26)
    replace hY8 := hY8.alloc (.cells #[.int .i64 k2, .int .i64 n2, .string s2, .slice a9 l9 c9] 26)
    replace hbel := hbel.alloc hbel.size (.cells #[.int .i64 k2, .int .i64 n2, .string s2, .slice a9 l9 c9] 26)
    refine (IM.out a8 l8 c8 F8 a9 l9 c9 F9 _ hY8.rd hY9.rd hL1 hL2).mono ?_
    rintro e w6 ⟨k7, n7, s7, xs7, aG, lG, cG, FG, ht7, rfl, hrdG, hgrG, hb6⟩
    cases ht7
    have HLOG := Lib.hid hgrG.fresh
    have hsz5 := hb6.size
    rw [World.size_alloc] at hsz5
    replace hfr8 := Free_below hfr8 hb6 (RdS_lt hY8.rd)
    replace hfr9 := Free_below hfr9 hb6 (RdS_lt hY9.rd)
    clear y0 y1 y2 y3 yl
    replace hX1 := hX1.below hb6
    replace hX2 := hX2.below hb6
    replace hW0 := hW0.below hb6
    replace hY8 := hY8.below hb6
    replace hY9 := hY9.below hb6
    replace hbel := hbel.trans (hb6.mono hbel.size)
    clear hb6 hgrG hrd9
    obtain ⟨r0, r1, r2, r3, rl⟩ := hW0.cells
    go_wp2_with fail
    have hG := Bx.new 26 (k := k) (n := n) (s := s) hrdG
    have hfrG : Free (w6.alloc (.cells #[.int .i64 k, .int .i64 n, .string s, .slice aG lG cG] 26)) FG := Free_below (fun x hx => (HLOG.out.2 x hx).2) ((Below.refl _ _).alloc (Nat.le_refl _) _) (RdS_lt hrdG)
    have HLG := Lib.hid (RdS_lt hrdG)
    replace hfr8 := Free_below hfr8 ((Below.refl _ _).alloc (Nat.le_refl _) (.cells #[.int .i64 k, .int .i64 n, .string s, .slice aG lG cG] 26)) (RdS_lt hY8.rd)
    replace hfr9 := Free_below hfr9 ((Below.refl _ _).alloc (Nat.le_refl _) (.cells #[.int .i64 k, .int .i64 n, .string s, .slice aG lG cG] 26)) (RdS_lt hY9.rd)
    replace hX1 := hX1.alloc (.cells #[.int .i64 k, .int .i64 n, .string s, .slice aG lG cG] 26)
    replace hX2 := hX2.alloc (.cells #[.int .i64 k, .int .i64 n, .string s, .slice aG lG cG] 26)
    replace hW0 := hW0.alloc (.cells #[.int .i64 k, .int .i64 n, .string s, .slice aG lG cG] 26)
    replace hY8 := hY8.alloc (.cells #[.int .i64 k, .int .i64 n, .string s, .slice aG lG cG] 26)
    replace hY9 := hY9.alloc (.cells #[.int .i64 k, .int .i64 n, .string s, .slice aG lG cG] 26)
    replace hbel := hbel.alloc hbel.size (.cells #[.int .i64 k, .int .i64 n, .string s, .slice aG lG cG] 26)
    have EQR := Lib.hid (eqT_all hRL k n s xs)
    refine (EQR.out _ _ _ _ _ _ _ _ _ (by trivial) hG.rd hW0.rd).mono ?_
    rintro e w7 ⟨rfl, hb7⟩
    clear r0 r1 r2 r3 rl
    replace hfr8 := Free_below hfr8 hb7 (RdS_lt hY8.rd)
    replace hfr9 := Free_below hfr9 hb7 (RdS_lt hY9.rd)
    replace hfrG := Free_below hfrG hb7 (RdS_lt hG.rd)
    replace hX1 := hX1.below hb7
    replace hX2 := hX2.below hb7
    replace hW0 := hW0.below hb7
    replace hY8 := hY8.below hb7
    replace hY9 := hY9.below hb7
    replace hG := hG.below hb7
    replace hbel := hbel.trans (hb7.mono hbel.size)
    clear hb7 hrdG
    obtain ⟨p0, p1, p2, p3, pl⟩ := hX1.cells
    obtain ⟨q0, q1, q2, q3, ql⟩ := hY8.cells
    go_wp2_with fail
    have hbW : Below w7.heap.size w7 w7.drew := (Below.refl _ _).drew
    have HCT := Lib.hid (T1.out hs1 w7.drew trivial hX1.drew.rd)
    go_region_held3 (fun w' => w'.cell? ⟨w.heap.size, 0, none⟩ = some (.int .i64 k1) ∧ w'.cell? ⟨w.heap.size, 1, none⟩ = some (.int .i64 n1) ∧ w'.cell? ⟨w.heap.size, 2, none⟩ = some (.string s1) ∧ w'.cell? ⟨w.heap.size, 3, none⟩ = some (.slice a1 l1 c1) ∧ w'.cell? ⟨w4.heap.size, 0, none⟩ = some (.int .i64 k1) ∧ w'.cell? ⟨w4.heap.size, 1, none⟩ = some (.int .i64 n1) ∧ w'.cell? ⟨w4.heap.size, 2, none⟩ = some (.string s1) ∧ w'.cell? ⟨w4.heap.size, 3, none⟩ = some (.slice a8 l8 c8))
      (first | exact two_cells hX1 hY8 hbW | exact two_cells hX1 hY8 (Below.refl _ _))
      (first | (go_at_call 34; (with_reducible refine HCT.out.mono ?_); rintro e v7 ⟨k7, n7, s7, xs7, a7, l7, c7, F7, ht7, rfl, hrd7, _, hb7⟩; rw [HT1.out] at ht7; cases ht7; replace hbW : Below w7.heap.size w7 v7 := below_of_drew hb7) | (go_at_call 20; (with_reducible refine (E1.out hL1 _ _ _ _ _ _ _ _ v7 trivial (hY8.below hbW).rd hrd7).mono ?_); rintro e w8 ⟨rfl, hb8⟩; replace hbW : Below w7.heap.size w7 w8 := hbW.trans (hb8.mono hbW.size)))
    clear HCT hb7 hb8 hrd7
    replace hfr8 := Free_below hfr8 hbW (RdS_lt hY8.rd)
    replace hfr9 := Free_below hfr9 hbW (RdS_lt hY9.rd)
    replace hfrG := Free_below hfrG hbW (RdS_lt hG.rd)
    replace hX1 := hX1.below hbW
    replace hX2 := hX2.below hbW
    replace hW0 := hW0.below hbW
    replace hY8 := hY8.below hbW
    replace hY9 := hY9.below hbW
    replace hG := hG.below hbW
    replace hbel := hbel.trans (hbW.mono hbel.size)
    clear p0 p1 p2 p3 pl q0 q1 q2 q3 ql
    clear hbW
    obtain ⟨p0, p1, p2, p3, pl⟩ := hX2.cells
    obtain ⟨q0, q1, q2, q3, ql⟩ := hY9.cells
    go_wp2_with fail
    have hbW : Below w8.heap.size w8 w8.drew := (Below.refl _ _).drew
    have HCT := Lib.hid (T2.out hs2 w8.drew trivial hX2.drew.rd)
    go_region_held3 (fun w' => w'.cell? ⟨w.heap.size + 1, 0, none⟩ = some (.int .i64 k2) ∧ w'.cell? ⟨w.heap.size + 1, 1, none⟩ = some (.int .i64 n2) ∧ w'.cell? ⟨w.heap.size + 1, 2, none⟩ = some (.string s2) ∧ w'.cell? ⟨w.heap.size + 1, 3, none⟩ = some (.slice a2 l2 c2) ∧ w'.cell? ⟨w5.heap.size, 0, none⟩ = some (.int .i64 k2) ∧ w'.cell? ⟨w5.heap.size, 1, none⟩ = some (.int .i64 n2) ∧ w'.cell? ⟨w5.heap.size, 2, none⟩ = some (.string s2) ∧ w'.cell? ⟨w5.heap.size, 3, none⟩ = some (.slice a9 l9 c9))
      (first | exact two_cells hX2 hY9 hbW | exact two_cells hX2 hY9 (Below.refl _ _))
      (first | (go_at_call 34; (with_reducible refine HCT.out.mono ?_); rintro e v7 ⟨k7, n7, s7, xs7, a7, l7, c7, F7, ht7, rfl, hrd7, _, hb7⟩; rw [HT2.out] at ht7; cases ht7; replace hbW : Below w8.heap.size w8 v7 := below_of_drew hb7) | (go_at_call 20; (with_reducible refine (E2.out hL2 _ _ _ _ _ _ _ _ v7 trivial (hY9.below hbW).rd hrd7).mono ?_); rintro e w9 ⟨rfl, hb8⟩; replace hbW : Below w8.heap.size w8 w9 := hbW.trans (hb8.mono hbW.size)))
    clear HCT hb7 hb8 hrd7
    replace hfr8 := Free_below hfr8 hbW (RdS_lt hY8.rd)
    replace hfr9 := Free_below hfr9 hbW (RdS_lt hY9.rd)
    replace hfrG := Free_below hfrG hbW (RdS_lt hG.rd)
    replace hX1 := hX1.below hbW
    replace hX2 := hX2.below hbW
    replace hW0 := hW0.below hbW
    replace hY8 := hY8.below hbW
    replace hY9 := hY9.below hbW
    replace hG := hG.below hbW
    replace hbel := hbel.trans (hbW.mono hbel.size)
    clear p0 p1 p2 p3 pl q0 q1 q2 q3 ql
    clear hbW
    obtain ⟨y0, y1, y2, y3, yl⟩ := hY8.cells
    have hk1 := K1.out
    have hk2 := K2.out
    have hb41 : cntL xs1 ≤ 1048577 := by omega
    have hb42 : cntL xs2 ≤ 1048577 := by omega
    clear hk1 hk2
    go_wp2_with fail
    refine (markTerm_any k1 n1 s1 xs1 a8 l8 c8 F8 1 _ hY8.rd HLO8.out.1 hfr8 (by omega) (by omega)).mono ?_
    rintro e w10 ⟨rfl, hrd10, hwr10⟩
    have lo8 : ∀ x ∈ F8, wc.heap.size ≤ x ∧ x < w4.heap.size := fun x hx => ⟨(HLO8.out.2 x hx).1, HL8.out x hx⟩
    have lo9 : ∀ x ∈ F9, w4.heap.size < x ∧ x < w5.heap.size := fun x hx => ⟨by have := (HLO9.out.2 x hx).1; rw [World.size_alloc] at this; omega, HL9.out x hx⟩
    have loG : ∀ x ∈ FG, w5.heap.size < x ∧ x < w6.heap.size := fun x hx => ⟨by have := (HLOG.out.2 x hx).1; rw [World.size_alloc] at this; omega, HLG.out x hx⟩
    replace hfr9 : Free w10 F9 := fun x hx => hwr10.free x (hfr9 x hx)
    replace hfrG : Free w10 FG := fun x hx => hwr10.free x (hfrG x hx)
    replace hbel := hbel.trans (hwr10.below (fun x hx => by have := lo8 x hx; omega) hbel.size)
    replace hX1 := hX1.wrote hwr10 (fun hm => by have := lo8 _ hm; omega) (fun x hx hm => by have := lo8 x hm; have := HF1.out x hx; omega)
    replace hX2 := hX2.wrote hwr10 (fun hm => by have := lo8 _ hm; omega) (fun x hx hm => by have := lo8 x hm; have := HF2.out x hx; omega)
    replace hW0 := hW0.wrote hwr10 (fun hm => by have := lo8 _ hm; omega) (fun x hx hm => by have := lo8 x hm; have := HF6.out x hx; omega)
    replace hY9 := hY9.wrote hwr10 (fun hm => by have := lo8 _ hm; omega) (fun x hx hm => by have := lo8 x hm; have := lo9 x hx; omega)
    replace hG := hG.wrote hwr10 (fun hm => by have := lo8 _ hm; omega) (fun x hx hm => by have := lo8 x hm; have := loG x hx; omega)
    have LO8 := Lib.hid lo8; have LO9 := Lib.hid lo9; have LOG := Lib.hid loG
    clear hrd10 hwr10 hY8 lo8 lo9 loG hfr8
    clear y0 y1 y2 y3 yl
    obtain ⟨z0, z1, z2, z3, zl⟩ := hY9.cells
    generalize hkn1 : 1 + 3 * cntL xs1 = kn1
    have hkb1 : kn1 ≤ 4000000 := by omega
    have hkb0 : 0 < kn1 := by omega
    clear hkn1
    go_wp2_with fail
    refine (markTerm_any k2 n2 s2 xs2 a9 l9 c9 F9 kn1 _ hY9.rd HLO9.out.1 hfr9 (by omega) (by omega)).mono ?_
    rintro e w11 ⟨rfl, hrd11, hwr11⟩
    replace hfrG : Free w11 FG := fun x hx => hwr11.free x (hfrG x hx)
    replace hbel := hbel.trans (hwr11.below (fun x hx => by have := LO9.out x hx; omega) hbel.size)
    replace hX1 := hX1.wrote hwr11 (fun hm => by have := LO9.out _ hm; omega) (fun x hx hm => by have := LO9.out x hm; have := HF1.out x hx; omega)
    replace hX2 := hX2.wrote hwr11 (fun hm => by have := LO9.out _ hm; omega) (fun x hx hm => by have := LO9.out x hm; have := HF2.out x hx; omega)
    replace hW0 := hW0.wrote hwr11 (fun hm => by have := LO9.out _ hm; omega) (fun x hx hm => by have := LO9.out x hm; have := HF6.out x hx; omega)
    replace hG := hG.wrote hwr11 (fun hm => by have := LO9.out _ hm; omega) (fun x hx hm => by have := LO9.out x hm; have := LOG.out x hx; omega)
    clear hrd11 hwr11 hY9 hfr9
    clear z0 z1 z2 z3 zl
    obtain ⟨g0, g1, g2, g3, gl⟩ := hG.cells
    obtain ⟨r0, r1, r2, r3, rl⟩ := hW0.cells
    generalize hkn2 : kn1 + 3 * cntL xs2 = kn2
    have hk20 : (0 : Int) ≤ (kn2 : Int) := by omega
    have hk2d : decide ((kn2 : Int) < 0) = false := by simp
    clear hkn2
    go_wp2_with fail
    refine (EQR.out _ _ _ _ _ _ _ _ _ (by trivial) hG.rd hW0.rd).mono ?_
    rintro e w12 ⟨rfl, hb12⟩
    replace hfrG := Free_below hfrG hb12 (RdS_lt hG.rd)
    clear g0 g1 g2 g3 gl r0 r1 r2 r3 rl
    replace hX1 := hX1.below hb12
    replace hX2 := hX2.below hb12
    replace hW0 := hW0.below hb12
    replace hG := hG.below hb12
    replace hbel := hbel.trans (hb12.mono hbel.size)
    clear hb12 hk2d
    obtain ⟨g0, g1, g2, g3, gl⟩ := hG.cells
    have hcx : cntL xs ≤ 2000000002 := by simp only [Tm.cnt] at hRC; omega
    go_wp2_with fail
    refine (markTerm_any k n s xs aG lG cG FG 1 _ hG.rd HLOG.out.1 hfrG (by omega) (by omega)).mono ?_
    rintro e w13 ⟨rfl, hrd13, hwr13⟩
    replace hbel := hbel.trans (hwr13.below (fun x hx => by have := LOG.out x hx; omega) hbel.size)
    replace hX1 := hX1.wrote hwr13 (fun hm => by have := LOG.out _ hm; omega) (fun x hx hm => by have := LOG.out x hm; have := HF1.out x hx; omega)
    replace hX2 := hX2.wrote hwr13 (fun hm => by have := LOG.out _ hm; omega) (fun x hx hm => by have := LOG.out x hm; have := HF2.out x hx; omega)
    replace hW0 := hW0.wrote hwr13 (fun hm => by have := LOG.out _ hm; omega) (fun x hx hm => by have := LOG.out x hm; have := HF6.out x hx; omega)
    have hG2 : Bx 26 w13 w6.heap.size k n s aG lG cG (markL xs 1) FG := ⟨by rw [hwr13.block _ (heap_lt hG.box) (fun hm => by have := LOG.out _ hm; omega)]; exact hG.box, hrd13⟩
    clear hrd13 hwr13 hG hfrG
    clear g0 g1 g2 g3 gl
    obtain ⟨g0, g1, g2, g3, gl⟩ := hG2.cells
    generalize hkg : 1 + 3 * cntL xs = kg
    have HKG := Lib.hid hkg; clear hkg
    go_wp2_with fail
    refine (heldTerm_any k n s xs aG lG cG FG 1 _ hG2.rd (by omega) (by omega)).mono ?_
    rintro e w14 ⟨rfl, hb14⟩
    rw [HKG.out]
    clear g0 g1 g2 g3 gl
    replace hX1 := hX1.below hb14
    replace hX2 := hX2.below hb14
    replace hW0 := hW0.below hb14
    replace hG2 := hG2.below hb14
    replace hbel := hbel.trans (hb14.mono hbel.size)
    clear hb14
    obtain ⟨p0, p1, p2, p3, pl⟩ := hX1.cells
    obtain ⟨q0, q1, q2, q3, ql⟩ := hX2.cells
    go_upto_region 31 with fail
    go_cut [17, 18] (fun s6 s7 wx => s7 = .int .i64 rb ∧ ResAt w14 (.mk k n s xs) s6 wx)
    case first =>
      have hbd : Below w14.heap.size w14 w14.drew := (Below.refl _ _).drew
      have hbW := hbd
      go_region_held3 (fun w' => w'.cell? ⟨w.heap.size, 0, none⟩ = some (.int .i64 k1) ∧ w'.cell? ⟨w.heap.size, 1, none⟩ = some (.int .i64 n1) ∧ w'.cell? ⟨w.heap.size, 2, none⟩ = some (.string s1) ∧ w'.cell? ⟨w.heap.size, 3, none⟩ = some (.slice a1 l1 c1) ∧ w'.cell? ⟨w.heap.size + 1, 0, none⟩ = some (.int .i64 k2) ∧ w'.cell? ⟨w.heap.size + 1, 1, none⟩ = some (.int .i64 n2) ∧ w'.cell? ⟨w.heap.size + 1, 2, none⟩ = some (.string s2) ∧ w'.cell? ⟨w.heap.size + 1, 3, none⟩ = some (.slice a2 l2 c2))
        (first | exact two_cells hX1 hX2 hbW | exact two_cells hX1 hX2 (hbW.alloc hbW.size _) | exact two_cells hX1 hX2 (Below.refl _ _) | exact two_cells hX1 hX2 ((Below.refl _ _).alloc (Nat.le_refl _) _) | exact two_cells hX1 hX2 (hbW.trans (below_set4 hBz)))
        (first | (go_at_call 34; (with_reducible refine (T1.out hs1 _ trivial ?_).mono ?_); (first | exact (hX1.below hbW).rd | exact (hX1.below (hbW.alloc hbW.size _)).rd | exact (hX1.below ((Below.refl _ _).alloc (Nat.le_refl _) _).drew).rd); rintro e v3 ⟨k7, n7, s7, xs7, a7, l7, c7, F7, ht7, rfl, hrd7, _, hb7⟩; rw [HT1.out] at ht7; cases ht7; (try (have hz1 : v3.heap[w14.heap.size]? = some (.cells #[.int .i64 0, .int .i64 0, .string ⟨#[]⟩, .slice none 0 0] 26 (0, 0)) := (hb7.block _ (by simp)).trans (heap_new rfl); have hBz : w14.heap.size ≤ w14.heap.size := Nat.le_refl _)); (first | replace hbW : Below w14.heap.size w14 v3 := hbW.trans (hb7.mono hbW.size) | replace hbW : Below w14.heap.size w14 v3 := (((Below.refl _ _).alloc (Nat.le_refl _) _).drew).trans (hb7.mono (by simp)))) | (go_at_call 34; (with_reducible refine (T2.out hs2 _ trivial ?_).mono ?_); (first | exact (hX2.below hbW).rd | exact (hX2.below (hbW.alloc hbW.size _)).rd); rintro e v4 ⟨k8, n8, s8, xs8, a8, l8, c8, F8, ht8, rfl, hrd8, _, hb8⟩; rw [HT2.out] at ht8; cases ht8; (try (have hz2 : v4.heap[w14.heap.size]? = some (.cells #[.int .i64 0, .int .i64 0, .string ⟨#[]⟩, .slice none 0 0] 26 (0, 0)) := (hb8.block _ (heap_lt hz1)).trans hz1)); (try (have hz2 : v4.heap[v3.heap.size]? = some (.cells #[.int .i64 0, .int .i64 0, .string ⟨#[]⟩, .slice none 0 0] 26 (0, 0)) := (hb8.block _ (by simp)).trans (heap_new rfl); have hBz : w14.heap.size ≤ v3.heap.size := hbW.size)); (first | have hrd7' := RdS_ext hrd7 hb8 | have hrd7' := RdS_ext (RdS_ext hrd7 ((Below.refl _ _).alloc (Nat.le_refl _) _)) hb8); (first | replace hbW : Below w14.heap.size w14 v4 := hbW.trans (hb8.mono hbW.size) | replace hbW : Below w14.heap.size w14 v4 := (hbW.alloc hbW.size _).trans (hb8.mono (hbW.alloc hbW.size _).size))) | (go_at_call 39; (with_reducible refine (IM.out a7 l7 c7 F7 a8 l8 c8 F8 _ ?_ ?_ hL1 hL2).mono ?_); (first | exact hrd7' | exact (RdS_ext hrd7' ((Below.refl _ _).alloc (Nat.le_refl _) _))); (first | exact hrd8 | exact (RdS_ext hrd8 ((Below.refl _ _).alloc (Nat.le_refl _) _))); rintro e v5 ⟨k9, n9, s9, xs9, a9, l9, c9, F9, ht9, rfl, hrd9, hgr9, hb9⟩; have hlow9 := fun x hx => (hgr9.fresh.2 x hx).1; (try (have hz : v5.heap[w14.heap.size]? = some (.cells #[.int .i64 0, .int .i64 0, .string ⟨#[]⟩, .slice none 0 0] 26 (0, 0)) := (hb9.block _ (heap_lt hz2)).trans hz2; obtain ⟨z0, z1, z2, z3, zf⟩ := box4 hz; have hzl := heap_lt hz; have hne : ∀ x ∈ F9, x ≠ w14.heap.size := fun x hx => by have := hlow9 x hx; have := heap_lt hz2; omega)); (try (have hz : v5.heap[v3.heap.size]? = some (.cells #[.int .i64 0, .int .i64 0, .string ⟨#[]⟩, .slice none 0 0] 26 (0, 0)) := (hb9.block _ (heap_lt hz2)).trans hz2; obtain ⟨z0, z1, z2, z3, zf⟩ := box4 hz; have hzl := heap_lt hz; have hne : ∀ x ∈ F9, x ≠ v3.heap.size := fun x hx => by have := hlow9 x hx; have := heap_lt hz2; omega)); (try (have hz : v5.heap[v4.heap.size]? = some (.cells #[.int .i64 0, .int .i64 0, .string ⟨#[]⟩, .slice none 0 0] 26 (0, 0)) := (hb9.block _ (by simp)).trans (heap_new rfl); have hBz : w14.heap.size ≤ v4.heap.size := hbW.size; obtain ⟨z0, z1, z2, z3, zf⟩ := box4 hz; have hzl := heap_lt hz; have hne : ∀ x ∈ F9, x ≠ v4.heap.size := fun x hx => by have := hlow9 x hx; simp at this; omega)); (first | replace hbW : Below w14.heap.size w14 v5 := hbW.trans (hb9.mono hbW.size) | replace hbW : Below w14.heap.size w14 v5 := (hbW.alloc hbW.size _).trans (hb9.mono (hbW.alloc hbW.size _).size))))
      all_goals (go_wp2_with fail; go_meet; first | exact ⟨rfl, ResAt_new ht9 hrd9 hbW⟩ | exact ⟨rfl, ResAt_set ht9 hrd9 hbW hBz hz hne⟩)
    case rest =>
      obtain ⟨rfl, B15, k', n', s', xs', aH, lH, cH, FH, rfl, hR, hH0, hbx⟩ := hcut
      cases hR
      clear p0 p1 p2 p3 pl q0 q1 q2 q3 ql
      replace hW0 := hW0.below hbx
      replace hG2 := hG2.below hbx
      replace hbel := hbel.trans (hbx.mono hbel.size)
      clear hbx hX1 hX2
      obtain ⟨y0, y1, y2, y3, yl⟩ := hH0.cells
      obtain ⟨r0, r1, r2, r3, rl⟩ := hW0.cells
      go_wp2_with fail
      refine (EQR.out _ _ _ _ _ _ _ _ _ (by trivial) hH0.rd hW0.rd).mono ?_
      rintro e w16 ⟨rfl, hb16⟩
      clear y0 y1 y2 y3 yl r0 r1 r2 r3 rl
      replace hG2 := hG2.below hb16
      replace hbel := hbel.trans (hb16.mono hbel.size)
      clear hb16 hH0 hW0
      obtain ⟨g0, g1, g2, g3, gl⟩ := hG2.cells
      go_wp2_with fail
      refine (heldTerm_any k n s xs aG lG cG FG 1 _ hG2.rd (by omega) (by omega)).mono ?_
      rintro e w17 ⟨rfl, hb17⟩
      rw [HKG.out]
      replace hbel := hbel.trans (hb17.mono hbel.size)
      clear g0 g1 g2 g3 gl
      go_wp2
      go_ret
      exact ⟨rfl, hbel⟩

open Go.ChangeShapes Go.WideShapes Go.ChangeAt
theorem own : ownKnob Try.prog.godebug = none := by kernel_rfl
theorem laidOut : laidOutB Try.prog = true := by kernel_rfl

set_option maxRecDepth 100000 in
theorem lifted (os : Os) (started : os.Started) (H : Type) (enc : TypeId × Value → H) :
    ReturnsInHanded {} Try.checked os 13 .any (Rows.fnExactEvalLispSpec.pre6 enc Try.prog Try.f13 Rows.fnExactEvalLispRow.domain false) (Rows.fnExactEvalLispSpec.post enc Try.prog Try.f13 false true false false) := by
  refine returnsInHanded_of_change (C := Try.checked) own started (by kernel_rfl) Try.func13
    (ChangeSpec.witness6 (enc := enc) (C := Try.checked) false ⟨#[], #[.agg #[.int .i64 0, .int .i64 0, .string ⟨#[]⟩, .slice none 0 0], .agg #[.int .i64 0, .int .i64 0, .string ⟨#[]⟩, .slice none 0 0], .int .i64 0], []⟩ 8 (by kernel_rfl) (by kernel_rfl) (by kernel_rfl) (by kernel_rfl)) ?_
  intro W base args ds gs before hval0 hW hcnd _
  have hval : ∀ (j : Nat) t v, Try.f13.params[j]? = some t → args[j]? = some v → Value.okWide Try.prog W .any base t v := hval0
  have hW' := hW
  obtain ⟨p, q, hA0, hV, rfl, hfz, hnd⟩ := hW
  have hA : DataW.TrodAll enc Try.prog W 0 (fun _ => true) true Try.f13.params.toList args.toList ds p := hA0
  rw [Try.params13] at hA hval
  obtain ⟨v0, vs0, d0, ds0, p0, q0, hargs, rfl, rfl, h0, r0⟩ := trodAll_cons hA
  obtain ⟨v1, vs1, d1, ds1, p1, q1, hargs1, rfl, rfl, h1, r1⟩ := trodAll_cons r0
  obtain ⟨v2, vs2, d2, ds2, p2, q2, hargs2, rfl, rfl, h2, r2⟩ := trodAll_cons r1
  obtain ⟨rfl, rfl, rfl⟩ := trodAll_nil r2
  subst hargs2
  subst hargs1
  obtain rfl : args = #[v0, v1, v2] := by cases args; simp_all
  obtain ⟨rfl, rfl⟩ := trodVars_none hV
  have k0 := h0
  have k1 := h1
  have lt0 : ∀ x ∈ p0, x.block < W.heap.size := by obtain ⟨m, hm⟩ := k0; exact DataW.trod_lt m _ _ _ hm
  have lt1 : ∀ x ∈ p1, x.block < W.heap.size := by obtain ⟨m, hm⟩ := k1; exact DataW.trod_lt m _ _ _ hm
  obtain ⟨m1, n1, s1, xs1, a1, l1, c1, F1, rfl, hrd1, hin1⟩ := open_term (hval 0 43 v0 rfl rfl) h0
  obtain ⟨m2, n2, s2, xs2, a2, l2, c2, F2, rfl, hrd2, hin2⟩ := open_term (hval 1 43 v1 rfl rfl) h1
  obtain ⟨st, rfl, rfl, rfl, ws⟩ := open_int Try.underlying3 (hval 2 3 v2 rfl rfl) h2
  clear hA0 hval0
  refine (walk m1 n1 s1 xs1 a1 l1 c1 F1 m2 n2 s2 xs2 a2 l2 c2 F2 st W hrd1 hrd2 hin1 hin2).mono fun e W' ⟨he, bel⟩ => ?_
  subst he
  exact ⟨_, rfl, _, _, _, [], _, [], hW', trodAll_mk1 (shut_bool Try.underlying4 _), (trodAll_cons_mk (Below.trod laidOut (by kernel_rfl) (of_decide_eq_true (by kernel_rfl)) k0 bel lt0) (trodAll_cons_mk (Below.trod laidOut (by kernel_rfl) (of_decide_eq_true (by kernel_rfl)) k1 bel lt1) (trodAll_cons_mk (shut_int Try.underlying3 ws) trodAll_mk0))), rfl, bel.frame _, fun h => by cases h⟩

theorem over : Rows.fnExactEvalLispRow.holds Try.pinned (OpenSpec.ofChange Rows.fnExactEvalLispSpec) :=
  OpenClaim.holds_of_wide 13 Try.f13 rfl rfl rfl rfl rfl rfl rfl ⟨rfl, rfl, rfl, rfl, rfl⟩ rfl rfl rfl rfl rfl (by kernel_rfl) Try.func13 (by kernel_rfl)
    (of_decide_eq_true (by kernel_rfl)) (by unfold Func.isWrapper; first | (rw [if_pos (by decide +kernel)]; kernel_rfl) | (rw [if_neg (by decide +kernel)]; exact ⟨rfl, rfl⟩))
    (fun os started H enc _ => lifted os started H enc)

theorem proved : Rows.FnExactEvalLispSaid := over
end fnExactEvalLisp
end Go.Proofs.Ytjkabbkaeioibaa
