/- FnExactStepsLisp: for all arguments the law returns true: the program's StepsLisp is the reference's. No condition. -/
import Derived.Test.YtjkabbkaeioibaaOpen
import Derived.Test.YtjkabbkaeioibaaTo
import Derived.Test.YtjkabbkaeioibaaRunS
import Derived.Test.YtjkabbkaeioibaaEvalAll
import Derived.Test.YtjkabbkaeioibaaSpAll
import Derived.Deep.RegionHeld3
import Derived.Deep.DeepCutAuto
import Derived.ProofKit
import Derived.OpenShut
import Derived.ChangeOld
import Derived.Below
namespace Go.Proofs.Ytjkabbkaeioibaa
open Go.RowKit

namespace fnExactStepsLisp
set_option linter.unusedVariables false

set_option maxHeartbeats 8000000 in
set_option maxRecDepth 100000 in
theorem walk (k1 n1 : Int) (s1 : ByteArray) (xs1 : List Tm) (a1 : Option Addr) (l1 c1 : Nat) (F1 : List Nat) (k2 n2 : Int) (s2 : ByteArray) (xs2 : List Tm) (a2 : Option Addr) (l2 c2 : Nat) (F2 : List Nat) (st : Int) (w : World)
    (h1 : RdS w xs1 a1 l1 c1 F1) (h2 : RdS w xs2 a2 l2 c2 F2) (hin1 : (Tm.mk k1 n1 s1 xs1).In) (hin2 : (Tm.mk k2 n2 s2 xs2).In) :
    Calls Try.prog 12 #[.agg #[.int .i64 k1, .int .i64 n1, .string s1, .slice a1 l1 c1], .agg #[.int .i64 k2, .int .i64 n2, .string s2, .slice a2 l2 c2], .int .i64 st] w fun e w' => e = .returned (.bool true) ∧ Below w.heap.size w w' := by
  have hX1 := (Bx.new 43 (k := k1) (n := n1) (s := s1) h1).alloc (.cells #[.int .i64 k2, .int .i64 n2, .string s2, .slice a2 l2 c2] 43)
  have hX2 := Bx.new 43 (w := w.alloc (.cells #[.int .i64 k1, .int .i64 n1, .string s1, .slice a1 l1 c1] 43)) (k := k2) (n := n2) (s := s2) (RdS_ext h2 ((Below.refl _ _).alloc (Nat.le_refl _) _))
  have hbA : Below w.heap.size w ((w.alloc (.cells #[.int .i64 k1, .int .i64 n1, .string s1, .slice a1 l1 c1] 43)).alloc (.cells #[.int .i64 k2, .int .i64 n2, .string s2, .slice a2 l2 c2] 43)) := ((Below.refl _ _).alloc (Nat.le_refl _) _).alloc (by simp) _
  rw [World.size_alloc] at hX2
  have HF1 := Lib.hid (RdS_lt h1)
  have HF2 := Lib.hid (RdS_lt h2)
  have Z1 := Lib.hid (szT_all hin1 k1 n1 s1 xs1 a1 l1 c1 F1)
  have Z2 := Lib.hid (szT_all hin2 k2 n2 s2 xs2 a2 l2 c2 F2)
  have L1 := Lib.hid (sz_lens (.mk k1 n1 s1 xs1))
  have L2 := Lib.hid (sz_lens (.mk k2 n2 s2 xs2))
  have T1 := Lib.hid (fun hs => toT_all (.mk k1 n1 s1 xs1) hs k1 n1 s1 xs1 a1 l1 c1 F1)
  have T2 := Lib.hid (fun hs => toT_all (.mk k2 n2 s2 xs2) hs k2 n2 s2 xs2 a2 l2 c2 F2)
  have C1 := Lib.hid (cnt_sz (.mk k1 n1 s1 xs1))
  have C2 := Lib.hid (cnt_sz (.mk k2 n2 s2 xs2))
  have E1 := Lib.hid (fun hl => eqT_all (t := .mk k1 n1 s1 xs1) hl k1 n1 s1 xs1)
  have E2 := Lib.hid (fun hl => eqT_all (t := .mk k2 n2 s2 xs2) hl k2 n2 s2 xs2)
  have SP := Lib.hid (fun b1 b2 b3 G1 d1 d2 d3 G2 => StepsLisp_ref spec_all k1 n1 s1 xs1 b1 b2 b3 G1 k2 n2 s2 xs2 d1 d2 d3 G2 st)
  have IM := Lib.hid (fun b1 b2 b3 G1 d1 d2 d3 G2 => StepsLisp_run eval_all k1 n1 s1 xs1 b1 b2 b3 G1 k2 n2 s2 xs2 d1 d2 d3 G2 st)
  have K1 : Hid ((Tm.mk k1 n1 s1 xs1).cnt = 1 + cntL xs1) := by show _ = _; simp only [Tm.cnt]
  have K2 : Hid ((Tm.mk k2 n2 s2 xs2).cnt = 1 + cntL xs2) := by show _ = _; simp only [Tm.cnt]
  obtain ⟨t1, ht1⟩ : ∃ t : Tm, t = .mk k1 n1 s1 xs1 := ⟨_, rfl⟩
  obtain ⟨t2, ht2⟩ : ∃ t : Tm, t = .mk k2 n2 s2 xs2 := ⟨_, rfl⟩
  rw [← ht1] at Z1 L1 T1 C1 E1 SP IM K1
  rw [← ht2] at Z2 L2 T2 C2 E2 SP IM K2
  generalize (if (runL t1 t2 st).2.2 = 0 then ((runL t1 t2 st).2.1 : Int) else -1) = rb at *
  have HT1 := Lib.hid ht1; have HT2 := Lib.hid ht2
  clear ht1 ht2
  go_enter Try.func12, Try.ntmps12
  go_wp2_with fail
  refine (Z1.out 1048576 _ trivial hX1.rd (by omega) (by omega)).mono ?_
  rintro e w1 ⟨rfl, hb1⟩
  replace hX1 := hX1.below hb1
  replace hX2 := hX2.below hb1
  have hbel := hbA.trans (hb1.mono hbA.size)
  obtain ⟨p0, p1, p2, p3, pl⟩ := hX2.cells
  clear hb1 hbA
  by_cases hfit : (t1.sz : Int) ≤ 1048576
  case neg =>
    rw [leftV_not (by omega)]
    clear hfit
    go_wp2
    go_ret
    exact ⟨rfl, hbel⟩
  rw [leftV_fit hfit]
  have hs1 : t1.sz ≤ 1048576 := by omega
  generalize hlf : (1048576 : Int) - t1.sz = lf
  have hlf0 : 0 ≤ lf := by omega
  have hlf1 : lf ≤ 1048576 := by omega
  clear hlf hfit
  go_wp2_with fail
  refine (Z2.out lf _ trivial hX2.rd (by omega) (by omega)).mono ?_
  rintro e w2 ⟨rfl, hb2⟩
  replace hX1 := hX1.below hb2
  replace hX2 := hX2.below hb2
  replace hbel := hbel.trans (hb2.mono hbel.size)
  clear hb2 p0 p1 p2 p3 pl
  by_cases hfit : (t2.sz : Int) ≤ lf
  case neg =>
    rw [leftV_not (by omega)]
    clear hfit
    go_wp2
    go_ret
    exact ⟨rfl, hbel⟩
  rw [leftV_fit hfit]
  have hs2 : t2.sz ≤ 1048576 := by omega
  generalize hlg : lf - t2.sz = lg
  have hlg0 : 0 ≤ lg := by omega
  have hL1 := L1.out hs1
  have hL2 := L2.out hs2
  have hcn1 : t1.cnt ≤ 1048577 := by have := C1.out; omega
  have hcn2 : t2.cnt ≤ 1048577 := by have := C2.out; omega
  clear hlg hfit hlf0 hlf1
  obtain ⟨p0, p1, p2, p3, pl⟩ := hX1.cells
  obtain ⟨q0, q1, q2, q3, ql⟩ := hX2.cells
  go_wp2_with fail
  have hbW : Below w2.heap.size w2 w2.drew := (Below.refl _ _).drew
  go_region_held3 (fun w' => w'.cell? ⟨w.heap.size, 0, none⟩ = some (.int .i64 k1) ∧ w'.cell? ⟨w.heap.size, 1, none⟩ = some (.int .i64 n1) ∧ w'.cell? ⟨w.heap.size, 2, none⟩ = some (.string s1) ∧ w'.cell? ⟨w.heap.size, 3, none⟩ = some (.slice a1 l1 c1) ∧ w'.cell? ⟨w.heap.size + 1, 0, none⟩ = some (.int .i64 k2) ∧ w'.cell? ⟨w.heap.size + 1, 1, none⟩ = some (.int .i64 n2) ∧ w'.cell? ⟨w.heap.size + 1, 2, none⟩ = some (.string s2) ∧ w'.cell? ⟨w.heap.size + 1, 3, none⟩ = some (.slice a2 l2 c2))
    (first | exact two_cells hX1 hX2 hbW | exact two_cells hX1 hX2 (Below.refl _ _))
    (first | (go_at_call 34; (with_reducible refine (T1.out hs1 w2.drew trivial (hX1.below hbW).rd).mono ?_); rintro e v3 ⟨k7, n7, s7, xs7, a7, l7, c7, F7, ht7, rfl, hrd7, _, hb7⟩; rw [HT1.out] at ht7; cases ht7; replace hbW : Below w2.heap.size w2 v3 := hbW.trans (hb7.mono hbW.size)) | (go_at_call 34; (with_reducible refine (T2.out hs2 v3 trivial (hX2.below hbW).rd).mono ?_); rintro e v4 ⟨k8, n8, s8, xs8, a8, l8, c8, F8, ht8, rfl, hrd8, _, hb8⟩; rw [HT2.out] at ht8; cases ht8; have hrd7' := RdS_ext hrd7 hb8; replace hbW : Below w2.heap.size w2 v4 := hbW.trans (hb8.mono hbW.size)) | (go_at_call 43; (with_reducible refine (SP.out a7 l7 c7 F7 a8 l8 c8 F8 v4 hrd7' hrd8 hL1 hL2 (by omega) (by omega)).mono ?_); rintro e v5 ⟨rfl, hb9⟩; replace hbW : Below w2.heap.size w2 v5 := hbW.trans (hb9.mono hbW.size)))
  clear p0 p1 p2 p3 pl q0 q1 q2 q3 ql hb7 hb8 hb9 hrd7 hrd7' hrd8
  replace hX1 := hX1.below hbW
  replace hX2 := hX2.below hbW
  replace hbel := hbel.trans (hbW.mono hbel.size)
  clear hbW
  obtain ⟨p0, p1, p2, p3, pl⟩ := hX1.cells
  go_wp2_with fail
  refine (T1.out hs1 _ trivial hX1.rd).mono ?_
  rintro e w4 ⟨k7, n7, s7, xs7, a8, l8, c8, F8, ht7, rfl, hrd8, _, hb4⟩
  rw [HT1.out] at ht7
  cases ht7
  clear p0 p1 p2 p3 pl
  replace hX1 := hX1.below hb4
  replace hX2 := hX2.below hb4
  replace hbel := hbel.trans (hb4.mono hbel.size)
  clear hb4
  obtain ⟨q0, q1, q2, q3, ql⟩ := hX2.cells
  go_wp2_with fail
  have hY8 := Bx.new 26 (k := k1) (n := n1) (s := s1) hrd8
  replace hX1 := hX1.alloc (.cells #[.int .i64 k1, .int .i64 n1, .string s1, .slice a8 l8 c8] 26)
  replace hX2 := hX2.alloc (.cells #[.int .i64 k1, .int .i64 n1, .string s1, .slice a8 l8 c8] 26)
  replace hbel := hbel.alloc hbel.size (.cells #[.int .i64 k1, .int .i64 n1, .string s1, .slice a8 l8 c8] 26)
  refine (T2.out hs2 _ trivial hX2.rd).mono ?_
  rintro e w5 ⟨k7, n7, s7, xs7, a9, l9, c9, F9, ht7, rfl, hrd9, _, hb5⟩
  rw [HT2.out] at ht7
  cases ht7
  clear q0 q1 q2 q3 ql hrd8
  replace hX1 := hX1.below hb5
  replace hX2 := hX2.below hb5
  replace hY8 := hY8.below hb5
  replace hbel := hbel.trans (hb5.mono hbel.size)
  clear hb5
  obtain ⟨y0, y1, y2, y3, yl⟩ := hY8.cells
  go_wp2_with fail
  have hY9 := Bx.new 26 (k := k2) (n := n2) (s := s2) hrd9
  replace hX1 := hX1.alloc (.cells #[.int .i64 k2, .int .i64 n2, .string s2, .slice a9 l9 c9] 26)
  replace hX2 := hX2.alloc (.cells #[.int .i64 k2, .int .i64 n2, .string s2, .slice a9 l9 c9] 26)
  replace hY8 := hY8.alloc (.cells #[.int .i64 k2, .int .i64 n2, .string s2, .slice a9 l9 c9] 26)
  replace hbel := hbel.alloc hbel.size (.cells #[.int .i64 k2, .int .i64 n2, .string s2, .slice a9 l9 c9] 26)
  refine (IM.out a8 l8 c8 F8 a9 l9 c9 F9 _ hY8.rd hY9.rd hL1 hL2).mono ?_
  rintro e w6 ⟨rfl, hb6⟩
  clear y0 y1 y2 y3 yl hrd9
  replace hX1 := hX1.below hb6
  replace hX2 := hX2.below hb6
  replace hY8 := hY8.below hb6
  replace hY9 := hY9.below hb6
  replace hbel := hbel.trans (hb6.mono hbel.size)
  clear hb6
  obtain ⟨p0, p1, p2, p3, pl⟩ := hX1.cells
  obtain ⟨q0, q1, q2, q3, ql⟩ := hY8.cells
  go_wp2_with fail
  have hbW : Below w6.heap.size w6 w6.drew := (Below.refl _ _).drew
  have HCT := Lib.hid (T1.out hs1 w6.drew trivial hX1.drew.rd)
  go_region_held3 (fun w' => w'.cell? ⟨w.heap.size, 0, none⟩ = some (.int .i64 k1) ∧ w'.cell? ⟨w.heap.size, 1, none⟩ = some (.int .i64 n1) ∧ w'.cell? ⟨w.heap.size, 2, none⟩ = some (.string s1) ∧ w'.cell? ⟨w.heap.size, 3, none⟩ = some (.slice a1 l1 c1) ∧ w'.cell? ⟨w4.heap.size, 0, none⟩ = some (.int .i64 k1) ∧ w'.cell? ⟨w4.heap.size, 1, none⟩ = some (.int .i64 n1) ∧ w'.cell? ⟨w4.heap.size, 2, none⟩ = some (.string s1) ∧ w'.cell? ⟨w4.heap.size, 3, none⟩ = some (.slice a8 l8 c8))
    (first | exact two_cells hX1 hY8 hbW | exact two_cells hX1 hY8 (Below.refl _ _))
    (first | (go_at_call 34; (with_reducible refine HCT.out.mono ?_); rintro e v7 ⟨k7, n7, s7, xs7, a7, l7, c7, F7, ht7, rfl, hrd7, _, hb7⟩; rw [HT1.out] at ht7; cases ht7; replace hbW : Below w6.heap.size w6 v7 := below_of_drew hb7) | (go_at_call 20; (with_reducible refine (E1.out hL1 _ _ _ _ _ _ _ _ v7 trivial (hY8.below hbW).rd hrd7).mono ?_); rintro e w8 ⟨rfl, hb8⟩; replace hbW : Below w6.heap.size w6 w8 := hbW.trans (hb8.mono hbW.size)))
  clear HCT hb7 hb8 hrd7
  replace hX1 := hX1.below hbW
  replace hX2 := hX2.below hbW
  replace hY8 := hY8.below hbW
  replace hY9 := hY9.below hbW
  replace hbel := hbel.trans (hbW.mono hbel.size)
  clear p0 p1 p2 p3 pl q0 q1 q2 q3 ql hbW
  obtain ⟨p0, p1, p2, p3, pl⟩ := hX2.cells
  obtain ⟨q0, q1, q2, q3, ql⟩ := hY9.cells
  go_wp2_with fail
  have hbW : Below w8.heap.size w8 w8.drew := (Below.refl _ _).drew
  have HCT := Lib.hid (T2.out hs2 w8.drew trivial hX2.drew.rd)
  go_region_held3 (fun w' => w'.cell? ⟨w.heap.size + 1, 0, none⟩ = some (.int .i64 k2) ∧ w'.cell? ⟨w.heap.size + 1, 1, none⟩ = some (.int .i64 n2) ∧ w'.cell? ⟨w.heap.size + 1, 2, none⟩ = some (.string s2) ∧ w'.cell? ⟨w.heap.size + 1, 3, none⟩ = some (.slice a2 l2 c2) ∧ w'.cell? ⟨w5.heap.size, 0, none⟩ = some (.int .i64 k2) ∧ w'.cell? ⟨w5.heap.size, 1, none⟩ = some (.int .i64 n2) ∧ w'.cell? ⟨w5.heap.size, 2, none⟩ = some (.string s2) ∧ w'.cell? ⟨w5.heap.size, 3, none⟩ = some (.slice a9 l9 c9))
    (first | exact two_cells hX2 hY9 hbW | exact two_cells hX2 hY9 (Below.refl _ _))
    (first | (go_at_call 34; (with_reducible refine HCT.out.mono ?_); rintro e v7 ⟨k7, n7, s7, xs7, a7, l7, c7, F7, ht7, rfl, hrd7, _, hb7⟩; rw [HT2.out] at ht7; cases ht7; replace hbW : Below w8.heap.size w8 v7 := below_of_drew hb7) | (go_at_call 20; (with_reducible refine (E2.out hL2 _ _ _ _ _ _ _ _ v7 trivial (hY9.below hbW).rd hrd7).mono ?_); rintro e w9 ⟨rfl, hb8⟩; replace hbW : Below w8.heap.size w8 w9 := hbW.trans (hb8.mono hbW.size)))
  clear HCT hb7 hb8 hrd7
  replace hX1 := hX1.below hbW
  replace hX2 := hX2.below hbW
  replace hY8 := hY8.below hbW
  replace hY9 := hY9.below hbW
  replace hbel := hbel.trans (hbW.mono hbel.size)
  clear p0 p1 p2 p3 pl q0 q1 q2 q3 ql hbW
  go_wp2
  go_ret
  exact ⟨rfl, hbel⟩

open Go.ChangeShapes Go.WideShapes Go.ChangeAt
theorem own : ownKnob Try.prog.godebug = none := by kernel_rfl
theorem laidOut : laidOutB Try.prog = true := by kernel_rfl

set_option maxRecDepth 100000 in
theorem lifted (os : Os) (started : os.Started) (H : Type) (enc : TypeId × Value → H) :
    ReturnsInHanded {} Try.checked os 12 .any (Rows.fnExactStepsLispSpec.pre6 enc Try.prog Try.f12 Rows.fnExactStepsLispRow.domain false) (Rows.fnExactStepsLispSpec.post enc Try.prog Try.f12 false true false false) := by
  refine returnsInHanded_of_change (C := Try.checked) own started (by kernel_rfl) Try.func12
    (ChangeSpec.witness6 (enc := enc) (C := Try.checked) false ⟨#[], #[.agg #[.int .i64 0, .int .i64 0, .string ⟨#[]⟩, .slice none 0 0], .agg #[.int .i64 0, .int .i64 0, .string ⟨#[]⟩, .slice none 0 0], .int .i64 0], []⟩ 8 (by kernel_rfl) (by kernel_rfl) (by kernel_rfl) (by kernel_rfl)) ?_
  intro W base args ds gs before hval0 hW hcnd _
  have hval : ∀ (j : Nat) t v, Try.f12.params[j]? = some t → args[j]? = some v → Value.okWide Try.prog W .any base t v := hval0
  have hW' := hW
  obtain ⟨p, q, hA0, hV, rfl, hfz, hnd⟩ := hW
  have hA : DataW.TrodAll enc Try.prog W 0 (fun _ => true) true Try.f12.params.toList args.toList ds p := hA0
  rw [Try.params12] at hA hval
  obtain ⟨v0, vs0, d0, ds0, p0, q0, hargs, rfl, rfl, h0, r0⟩ := trodAll_cons hA
  obtain ⟨v1, vs1, d1, ds1, p1, q1, hargs1, rfl, rfl, h1, r1⟩ := trodAll_cons r0
  obtain ⟨v2, vs2, d2, ds2, p2, q2, hargs2, rfl, rfl, h2, r2⟩ := trodAll_cons r1
  obtain ⟨rfl, rfl, rfl⟩ := trodAll_nil r2
  subst hargs2
  subst hargs1
  obtain rfl : args = #[v0, v1, v2] := by cases args; simp_all
  obtain ⟨rfl, rfl⟩ := trodVars_none hV
  have k0 := h0
  have k1 := h1
  have lt0 : ∀ x ∈ p0, x.block < W.heap.size := by obtain ⟨m, hm⟩ := k0; exact DataW.trod_lt m _ _ _ hm
  have lt1 : ∀ x ∈ p1, x.block < W.heap.size := by obtain ⟨m, hm⟩ := k1; exact DataW.trod_lt m _ _ _ hm
  obtain ⟨m1, n1, s1, xs1, a1, l1, c1, F1, rfl, hrd1, hin1⟩ := open_term (hval 0 43 v0 rfl rfl) h0
  obtain ⟨m2, n2, s2, xs2, a2, l2, c2, F2, rfl, hrd2, hin2⟩ := open_term (hval 1 43 v1 rfl rfl) h1
  obtain ⟨st, rfl, rfl, rfl, ws⟩ := open_int Try.underlying3 (hval 2 3 v2 rfl rfl) h2
  clear hA0 hval0
  refine (walk m1 n1 s1 xs1 a1 l1 c1 F1 m2 n2 s2 xs2 a2 l2 c2 F2 st W hrd1 hrd2 hin1 hin2).mono fun e W' ⟨he, bel⟩ => ?_
  subst he
  exact ⟨_, rfl, _, _, _, [], _, [], hW', trodAll_mk1 (shut_bool Try.underlying4 _), (trodAll_cons_mk (Below.trod laidOut (by kernel_rfl) (of_decide_eq_true (by kernel_rfl)) k0 bel lt0) (trodAll_cons_mk (Below.trod laidOut (by kernel_rfl) (of_decide_eq_true (by kernel_rfl)) k1 bel lt1) (trodAll_cons_mk (shut_int Try.underlying3 ws) trodAll_mk0))), rfl, bel.frame _, fun h => by cases h⟩

theorem over : Rows.fnExactStepsLispRow.holds Try.pinned (OpenSpec.ofChange Rows.fnExactStepsLispSpec) :=
  OpenClaim.holds_of_wide 12 Try.f12 rfl rfl rfl rfl rfl rfl rfl ⟨rfl, rfl, rfl, rfl, rfl⟩ rfl rfl rfl rfl rfl (by kernel_rfl) Try.func12 (by kernel_rfl)
    (of_decide_eq_true (by kernel_rfl)) (by unfold Func.isWrapper; first | (rw [if_pos (by decide +kernel)]; kernel_rfl) | (rw [if_neg (by decide +kernel)]; exact ⟨rfl, rfl⟩))
    (fun os started H enc _ => lifted os started H enc)

theorem proved : Rows.FnExactStepsLispSaid := over
end fnExactStepsLisp
end Go.Proofs.Ytjkabbkaeioibaa
