/- FnExactNumberOf: for every term the law returns true: the program's NumberOf is the reference's. No condition. -/
import Derived.Test.YtjkabbkaeioibaaOpen
import Derived.Test.YtjkabbkaeioibaaNumberS
import Derived.Deep.RegionHeld3
import Derived.ProofKit
import Derived.OpenShut
import Derived.ChangeOld
import Derived.Below
namespace Go.Proofs.Ytjkabbkaeioibaa
open Go.RowKit

namespace fnExactNumberOf
set_option linter.unusedVariables false

set_option maxHeartbeats 4000000 in
set_option maxRecDepth 100000 in
theorem walk (k n : Int) (s : ByteArray) (xs : List Tm) (a : Option Addr) (l c : Nat) (F : List Nat) (w : World) (h : RdS w xs a l c F) (hin : (Tm.mk k n s xs).In) :
    Calls Try.prog 8 #[.agg #[.int .i64 k, .int .i64 n, .string s, .slice a l c]] w fun e w' => e = .returned (.bool true) ∧ Below w.heap.size w w' := by
  have hX := Bx.new 43 (k := k) (n := n) (s := s) h
  have hbA : Below w.heap.size w (w.alloc (.cells #[.int .i64 k, .int .i64 n, .string s, .slice a l c] 43)) := (Below.refl _ _).alloc (Nat.le_refl _) _
  have HSZ := Lib.hid (szT_all hin k n s xs a l c F)
  have HSL := Lib.hid (sz_lens (.mk k n s xs))
  have HTO := Lib.hid (fun hs => toT_all (.mk k n s xs) hs k n s xs a l c F)
  have HCN := Lib.hid (cnt_sz (.mk k n s xs))
  have HNS := Lib.hid (NumberOf_spec k n s xs)
  have HNI := Lib.hid (NumberOf_impl k n s xs)
  have HEQ := Lib.hid (fun hl => eqT_all (t := .mk k n s xs) hl k n s xs)
  have hmk : ∃ t : Tm, t = .mk k n s xs := ⟨_, rfl⟩
  obtain ⟨t, ht⟩ := hmk
  rw [← ht] at HSZ HSL HTO HCN HNS HNI HEQ
  go_enter Try.func8, Try.ntmps8
  go_wp2_with fail
  refine (HSZ.out 1048576 _ trivial hX.rd (by omega) (by omega)).mono ?_
  rintro e w1 ⟨rfl, hb1⟩
  have hX1 := hX.below hb1
  have hb1' := hbA.trans (hb1.mono hbA.size)
  obtain ⟨p0, p1, p2, p3, pl⟩ := hX1.cells
  clear hX hb1 hbA
  by_cases hfit : (t.sz : Int) ≤ 1048576
  · rw [leftV_fit hfit]
    have hs' : t.sz ≤ 1048576 := by omega
    generalize hlf : (1048576 : Int) - t.sz = lf
    have hlf0 : 0 ≤ lf := by omega
    have hL := HSL.out hs'
    have hcn : t.cnt ≤ 10000000000 := by have := HCN.out; omega
    generalize hnv : numV t = nv at HNS HNI
    clear hlf hfit hnv
    go_wp2_with fail
    refine (HTO.out hs' _ trivial hX1.rd).mono ?_
    rintro e w2 ⟨k2, n2, s2, xs2, a2, l2, c2, F2, ht2, rfl, hrd2, _, hb2⟩
    rw [ht] at ht2
    cases ht2
    have hX2 := hX1.below hb2
    have hb2' := hb1'.trans (hb2.mono hb1'.size)
    clear p0 p1 p2 p3 pl hX1 hb2 hb1'
    obtain ⟨p0, p1, p2, p3, pl⟩ := hX2.cells
    go_wp2_with fail
    refine (HNS.out _ _ _ _ _ hrd2 hL hcn).mono ?_
    rintro e w3 ⟨rfl, hb3⟩
    have hX3 := hX2.below hb3
    have hb3' := hb2'.trans (hb3.mono hb2'.size)
    clear p0 p1 p2 p3 pl hX2 hb3 hb2' hrd2
    obtain ⟨p0, p1, p2, p3, pl⟩ := hX3.cells
    go_wp2_with fail
    refine (HTO.out hs' _ trivial hX3.rd).mono ?_
    rintro e w4 ⟨k2, n2, s2, xs2, a4, l4, c4, F4, ht2, rfl, hrd4, _, hb4⟩
    rw [ht] at ht2
    cases ht2
    have hX4 := hX3.below hb4
    have hb4' := hb3'.trans (hb4.mono hb3'.size)
    clear p0 p1 p2 p3 pl hX3 hb4 hb3'
    obtain ⟨p0, p1, p2, p3, pl⟩ := hX4.cells
    go_wp2_with fail
    have hY := Bx.new 26 (k := k) (n := n) (s := s) hrd4
    have hX5 := hX4.alloc (.cells #[.int .i64 k, .int .i64 n, .string s, .slice a4 l4 c4] 26)
    have hb5' := hb4'.alloc hb4'.size (.cells #[.int .i64 k, .int .i64 n, .string s, .slice a4 l4 c4] 26)
    refine (HNI.out _ _ _ _ _ hY.rd hL).mono ?_
    rintro e w6 ⟨rfl, hb6⟩
    have hX6 := hX5.below hb6
    have hY6 := hY.below hb6
    have hb6' := hb5'.trans (hb6.mono hb5'.size)
    clear p0 p1 p2 p3 pl hX4 hb4' hb5' hb6 hX5 hY hrd4
    obtain ⟨p0, p1, p2, p3, pl⟩ := hX6.cells
    obtain ⟨q0, q1, q2, q3, ql⟩ := hY6.cells
    go_wp2_with fail
    have hdX := hX6.drew
    have hdY := hY6.drew
    have HC1 := Lib.hid (HTO.out hs' w6.drew trivial hdX.rd)
    have HDY := Lib.hid hdY
    clear hdX hdY
    go_region_held3 (fun w' => w'.cell? ⟨w.heap.size, 0, none⟩ = some (.int .i64 k) ∧ w'.cell? ⟨w.heap.size, 1, none⟩ = some (.int .i64 n) ∧ w'.cell? ⟨w.heap.size, 2, none⟩ = some (.string s) ∧ w'.cell? ⟨w.heap.size, 3, none⟩ = some (.slice a l c) ∧ w'.cell? ⟨w4.heap.size, 0, none⟩ = some (.int .i64 k) ∧ w'.cell? ⟨w4.heap.size, 1, none⟩ = some (.int .i64 n) ∧ w'.cell? ⟨w4.heap.size, 2, none⟩ = some (.string s) ∧ w'.cell? ⟨w4.heap.size, 3, none⟩ = some (.slice a4 l4 c4))
      (first | exact ⟨p0, p1, p2, p3, q0, q1, q2, q3⟩ | exact ⟨(hbW.cell (p := ⟨w.heap.size, 0, none⟩) pl).trans p0, (hbW.cell (p := ⟨w.heap.size, 1, none⟩) pl).trans p1, (hbW.cell (p := ⟨w.heap.size, 2, none⟩) pl).trans p2, (hbW.cell (p := ⟨w.heap.size, 3, none⟩) pl).trans p3, (hbW.cell (p := ⟨w4.heap.size, 0, none⟩) ql).trans q0, (hbW.cell (p := ⟨w4.heap.size, 1, none⟩) ql).trans q1, (hbW.cell (p := ⟨w4.heap.size, 2, none⟩) ql).trans q2, (hbW.cell (p := ⟨w4.heap.size, 3, none⟩) ql).trans q3⟩ | exact ⟨(hbX.cell (p := ⟨w.heap.size, 0, none⟩) pl).trans p0, (hbX.cell (p := ⟨w.heap.size, 1, none⟩) pl).trans p1, (hbX.cell (p := ⟨w.heap.size, 2, none⟩) pl).trans p2, (hbX.cell (p := ⟨w.heap.size, 3, none⟩) pl).trans p3, (hbX.cell (p := ⟨w4.heap.size, 0, none⟩) ql).trans q0, (hbX.cell (p := ⟨w4.heap.size, 1, none⟩) ql).trans q1, (hbX.cell (p := ⟨w4.heap.size, 2, none⟩) ql).trans q2, (hbX.cell (p := ⟨w4.heap.size, 3, none⟩) ql).trans q3⟩)
      (first | (go_at_call 34; (with_reducible refine HC1.out.mono ?_); rintro e w7 ⟨k7, n7, s7, xs7, a7, l7, c7, F7, ht7, rfl, hrd7, _, hb7⟩; rw [ht] at ht7; cases ht7; have hbW : Below w6.heap.size w6 w7 := below_of_drew hb7) | (go_at_call 20; (with_reducible refine (HEQ.out hL _ _ _ _ _ _ _ _ w7 trivial (hY6.below hbW).rd hrd7).mono ?_); rintro e w8 ⟨rfl, hb8⟩; have hbX : Below w6.heap.size w6 w8 := hbW.trans (hb8.mono hbW.size)))
    have hb8' := hb6'.trans (hbX.mono hb6'.size)
    go_wp2
    go_ret
    exact ⟨rfl, hb8'⟩
  · rw [leftV_not (by omega)]
    clear hfit
    go_wp2
    go_ret
    exact ⟨rfl, hb1'⟩

open Go.ChangeShapes Go.WideShapes Go.ChangeAt
theorem own : ownKnob Try.prog.godebug = none := by kernel_rfl
theorem laidOut : laidOutB Try.prog = true := by kernel_rfl

set_option maxRecDepth 100000 in
theorem lifted (os : Os) (started : os.Started) (H : Type) (enc : TypeId × Value → H) :
    ReturnsInHanded {} Try.checked os 8 .any (Rows.fnExactNumberOfSpec.pre6 enc Try.prog Try.f8 Rows.fnExactNumberOfRow.domain false) (Rows.fnExactNumberOfSpec.post enc Try.prog Try.f8 false true false false) := by
  refine returnsInHanded_of_change (C := Try.checked) own started (by kernel_rfl) Try.func8
    (ChangeSpec.witness6 (enc := enc) (C := Try.checked) false ⟨#[], #[.agg #[.int .i64 0, .int .i64 0, .string ⟨#[]⟩, .slice none 0 0]], []⟩ 8 (by kernel_rfl) (by kernel_rfl) (by kernel_rfl) (by kernel_rfl)) ?_
  intro W base args ds gs before hval0 hW hcnd _
  have hval : ∀ (j : Nat) t v, Try.f8.params[j]? = some t → args[j]? = some v → Value.okWide Try.prog W .any base t v := hval0
  have hW' := hW
  obtain ⟨p, q, hA0, hV, rfl, hfz, hnd⟩ := hW
  have hA : DataW.TrodAll enc Try.prog W 0 (fun _ => true) true Try.f8.params.toList args.toList ds p := hA0
  rw [Try.params8] at hA hval
  obtain ⟨v0, vs0, d0, ds0, p0, q0, hargs, rfl, rfl, h0, r0⟩ := trodAll_cons hA
  obtain ⟨rfl, rfl, rfl⟩ := trodAll_nil r0
  obtain rfl : args = #[v0] := by cases args; simp_all
  obtain ⟨rfl, rfl⟩ := trodVars_none hV
  have k0 := h0
  have lt0 : ∀ x ∈ p0, x.block < W.heap.size := by obtain ⟨m, hm⟩ := k0; exact DataW.trod_lt m _ _ _ hm
  obtain ⟨k, n, s, xs, a, l, c, F, rfl, hrd, hin⟩ := open_term (hval 0 43 v0 rfl rfl) h0
  clear hA0 hval0
  refine (walk k n s xs a l c F W hrd hin).mono fun e W' ⟨he, bel⟩ => ?_
  subst he
  exact ⟨_, rfl, _, _, _, [], _, [], hW', trodAll_mk1 (shut_bool Try.underlying4 _), (trodAll_cons_mk (Below.trod laidOut (by kernel_rfl) (of_decide_eq_true (by kernel_rfl)) k0 bel lt0) trodAll_mk0), rfl, bel.frame _, fun h => by cases h⟩

theorem over : Rows.fnExactNumberOfRow.holds Try.pinned (OpenSpec.ofChange Rows.fnExactNumberOfSpec) :=
  OpenClaim.holds_of_wide 8 Try.f8 rfl rfl rfl rfl rfl rfl rfl ⟨rfl, rfl, rfl, rfl, rfl⟩ rfl rfl rfl rfl rfl (by kernel_rfl) Try.func8 (by kernel_rfl)
    (of_decide_eq_true (by kernel_rfl)) (by unfold Func.isWrapper; first | (rw [if_pos (by decide +kernel)]; kernel_rfl) | (rw [if_neg (by decide +kernel)]; exact ⟨rfl, rfl⟩))
    (fun os started H enc _ => lifted os started H enc)

theorem proved : Rows.FnExactNumberOfSaid := over
end fnExactNumberOf
end Go.Proofs.Ytjkabbkaeioibaa
