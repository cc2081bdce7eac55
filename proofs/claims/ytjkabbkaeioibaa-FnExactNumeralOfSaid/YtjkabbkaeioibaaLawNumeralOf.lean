/- FnExactNumeralOf: for every number the law returns true: the program's NumeralOf is the reference's, and shares no memory. No condition. -/
import Derived.Test.YtjkabbkaeioibaaNumeralS
import Derived.Test.YtjkabbkaeioibaaTwo
import Derived.ProofKit
import Derived.OpenShut
namespace Go.Proofs.Ytjkabbkaeioibaa
open Go.RowKit

theorem lens_atom (k n : Int) (s : ByteArray) : Tm.Lens (.mk k n s []) := .mk _ _ _ _ (by simp) (by simp)
theorem lens_pair {a b : Tm} (ha : a.Lens) (hb : b.Lens) : (Tm.pair a b).Lens := .mk _ _ _ _ (by simp) (by simp [ha, hb])
theorem lens_list {l : List Tm} {t : Tm} (hl : ∀ x ∈ l, x.Lens) (ht : t.Lens) : (Tm.list l t).Lens := by
  induction l with
  | nil => exact ht
  | cons x l ih => exact lens_pair (hl x (by simp)) (ih (fun y hy => hl y (by simp [hy])))
theorem bits_mem (n : Nat) : ∀ x ∈ bitsT n, ∃ d : Int, x = Tm.int d := by
  induction n using Nat.strongRecOn with
  | _ n ih =>
    rcases Nat.eq_zero_or_pos n with rfl | h
    · simp [bitsT_zero]
    · rw [bitsT_pos h]
      intro x hx
      rcases List.mem_cons.1 hx with rfl | hx
      · exact ⟨_, rfl⟩
      · exact ih (n / 2) (by omega) x hx
theorem numeralT_lens (n : Nat) : (numeralT n).Lens := lens_list (fun x hx => by obtain ⟨d, rfl⟩ := bits_mem n x hx; exact lens_atom _ _ _) (lens_atom _ _ _)
theorem numeralR_lens (n : Int) : (numeralR n).Lens := by
  unfold numeralR; split
  · exact numeralT_lens _
  · exact lens_atom _ _ _
theorem cnt_list (l : List Tm) (t : Tm) (h : ∀ x ∈ l, x.cnt = 1) : (Tm.list l t).cnt = 2 * l.length + t.cnt := by
  induction l with
  | nil => simp [Tm.list]
  | cons x l ih =>
    have h1 := h x (by simp)
    have h2 := ih (fun y hy => h y (by simp [hy]))
    show (Tm.pair x (Tm.list l t)).cnt = _
    simp only [Tm.pair, Tm.cnt, cntL, h1, h2, List.length_cons]
    omega
theorem numeralR_cnt (n : Int) : (numeralR n).cnt ≤ 2000000001 := by
  unfold numeralR; split
  · rename_i h
    unfold numeralT
    rw [cnt_list _ _ (fun x hx => by obtain ⟨d, rfl⟩ := bits_mem _ x hx; simp [Tm.int, Tm.cnt, cntL])]
    have := bitsT_len n.toNat
    simp [Tm.nil, Tm.cnt, cntL]; omega
  · simp [Tm.nil, Tm.cnt, cntL]

namespace fnExactNumeralOf
open Go.ChangeShapes Go.WideShapes Go.ChangeAt
set_option linter.unusedVariables false
theorem own : ownKnob Try.prog.godebug = none := by kernel_rfl

set_option maxHeartbeats 1000000 in
set_option maxRecDepth 100000 in
theorem walk (n : Int) (w : World) : Calls Try.prog 5 #[.int .i64 n] w fun e w' => e = .returned (.bool true) ∧ Below w.heap.size w w' := by
  have hcnt := numeralR_cnt n
  have hlens := numeralR_lens n
  generalize ht0 : numeralR n = t at *
  generalize hr0 : numeralB n = r at *
  have HT0 := Lib.hid ht0; have HR0 := Lib.hid hr0; clear ht0 hr0
  go_enter Try.func5, Try.ntmps5
  go_wp2_with fail
  refine (NumeralOf_spec n _).mono ?_
  rintro e w1 ⟨k, m, s, xs, a, l, c, F0, ht1, rfl, hrd1, _, hb1⟩
  rw [HT0.out] at ht1
  subst ht1
  rw [HR0.out]
  go_wp2_with fail
  refine (NumeralOf_impl n _).mono ?_
  rintro e w2 ⟨k2, m2, s2, xs2, a2, l2, c2, F, ht2, rfl, hrd2, hgr2, hb2⟩
  rw [HT0.out] at ht2
  cases ht2
  rw [HR0.out]
  have hbox3 : w2.heap[w1.heap.size]? = some (.cells #[.int .i64 k, .int .i64 m, .string s, .slice a l c] 26 (0, 0)) := by
    rw [hb2.block _ (by simp)]; exact heap_new rfl
  have hS2 : ∀ wc, Below w2.heap.size w2 wc → wc.heap[w2.heap.size]? = some (.cells #[.int .i64 k, .int .i64 m, .string s, .slice a2 l2 c2] 26 (0, 0)) → TwoT w wc w1.heap.size w2.heap.size k m s a l c xs F0 a2 l2 c2 xs F := by
    intro wc hbc hb5
    have hb12 : Below w1.heap.size w1 w2 := ((Below.refl _ _).alloc (Nat.le_refl _) _).trans (hb2.mono (by simp))
    have hnew : ∀ x ∈ F, w1.heap.size + 1 ≤ x ∧ ∃ cs T, w2.heap[x]? = some (.cells cs T (0, 0)) := by
      intro x hx
      rcases hgr2.mem x hx with h' | h'
      · simp at h'
      · simpa using h'
    refine ⟨by rw [hbc.block _ (heap_lt hbox3)]; exact hbox3, hb5, RdS_ext (RdS_ext hrd1 hb12) hbc, RdS_ext hrd2 hbc, Free_below (fun x hx => (hnew x hx).2) hbc (RdS_lt hrd2), hgr2.nodup (by simp), (hb1.trans (hb12.mono hb1.size)).trans (hbc.mono (Nat.le_trans hb1.size hb12.size)), fun x hx => ?_⟩
    have h1 := (hnew x hx).1
    have h2 := RdS_lt hrd2 x hx
    have h3 := hb1.size
    exact ⟨by omega, by omega, by omega, fun hm => by have := RdS_lt hrd1 x hm; omega⟩
  obtain ⟨q0, q1, q2, q3, qf⟩ := box4 hbox3
  have hs2 := hb2.size
  simp only [World.size_alloc] at hs2
  have hlt3 : w1.heap.size < w2.heap.size := by omega
  have HS2 := Lib.hid hS2
  clear hS2 hbox3 hs2
  go_wp2_with fail
  have hst := HS2.out _ ((Below.refl _ _).alloc (Nat.le_refl _) _) (heap_new rfl)
  refine (eqT_all hlens _ _ _ _ _ _ _ _ _ _ _ _ _ rfl hst.r1 hst.r0).mono ?_
  rintro e w3 ⟨rfl, hb3⟩
  have hst3 := hst.below hb3
  obtain ⟨⟨p0, p1, p2, p3⟩, ⟨p4, p5, p6, p7⟩, pl3, pl5⟩ := hst3.cells
  clear q0 q1 q2 q3 qf hlt3 hst hb3 hb2 hrd2 hrd1 hgr2
  have hcx : cntL xs ≤ 2000000001 := by simp only [Tm.cnt] at hcnt; omega
  go_wp2_with fail
  refine (markTerm_any k m s xs a2 l2 c2 F 1 _ hst3.r1 hst3.nd hst3.free (by omega) (by omega)).mono ?_
  rintro e w4 ⟨rfl, hrd4, hwr4⟩
  have hst4 := hst3.wrote hwr4 hrd4
  generalize hkn : 1 + 3 * cntL xs = kn
  have HK := Lib.hid hkn; clear hkn
  clear p0 p1 p2 p3 p4 p5 p6 p7 pl3 pl5 hwr4 hrd4 hst3
  obtain ⟨⟨p0, p1, p2, p3⟩, ⟨p4, p5, p6, p7⟩, pl3, pl5⟩ := hst4.cells
  go_wp2_with fail
  refine (heldTerm_any k m s xs a2 l2 c2 F 1 _ hst4.r1 (by omega) (by omega)).mono ?_
  rintro e w5 ⟨rfl, hb5⟩
  have hst5 := hst4.below hb5
  clear p0 p1 p2 p3 p4 p5 p6 p7 pl3 pl5 hst4 hb5
  obtain ⟨⟨p0, p1, p2, p3⟩, ⟨p4, p5, p6, p7⟩, pl3, pl5⟩ := hst5.cells
  rw [HK.out]
  go_wp2_with fail
  refine (NumeralOf_impl n _).mono ?_
  rintro e w6 ⟨k2, m2, s2, xs2, a3, l3, c3, F3, ht3, rfl, hrd3, _, hb6⟩
  rw [HT0.out] at ht3
  cases ht3
  rw [HR0.out]
  have hst6 := hst5.below hb6
  clear p0 p1 p2 p3 p4 p5 p6 p7 pl3 pl5 hst5 hb6
  obtain ⟨⟨p0, p1, p2, p3⟩, ⟨p4, p5, p6, p7⟩, pl3, pl5⟩ := hst6.cells
  go_wp2_with fail
  have hst7 := hst6.below ((Below.refl _ _).alloc (Nat.le_refl _) (.cells #[.int .i64 k, .int .i64 m, .string s, .slice a3 l3 c3] 26))
  refine (eqT_all hlens _ _ _ _ _ _ _ _ _ _ _ _ _ rfl (RdS_ext hrd3 ((Below.refl _ _).alloc (Nat.le_refl _) _)) hst7.r0).mono ?_
  rintro e w8 ⟨rfl, hb8⟩
  have hst8 := hst7.below hb8
  clear p0 p1 p2 p3 p4 p5 p6 p7 pl3 pl5 hst7 hb8 hst6
  obtain ⟨⟨p0, p1, p2, p3⟩, ⟨p4, p5, p6, p7⟩, pl3, pl5⟩ := hst8.cells
  go_wp2_with fail
  refine (heldTerm_any k m s xs a2 l2 c2 F 1 _ hst8.r1 (by omega) (by omega)).mono ?_
  rintro e w9 ⟨rfl, hb9⟩
  have hst9 := hst8.below hb9
  clear p0 p1 p2 p3 p4 p5 p6 p7 pl3 pl5 hst8 hb9
  rw [HK.out]
  go_wp2
  go_ret
  exact ⟨rfl, hst9.bel⟩

set_option maxRecDepth 100000 in
theorem lifted (os : Os) (started : os.Started) (H : Type) (enc : TypeId × Value → H) :
    ReturnsInHanded {} Try.checked os 5 .any (Rows.fnExactNumeralOfSpec.pre6 enc Try.prog Try.f5 Rows.fnExactNumeralOfRow.domain false) (Rows.fnExactNumeralOfSpec.post enc Try.prog Try.f5 false true false false) := by
  refine returnsInHanded_of_change (C := Try.checked) own started (by kernel_rfl) Try.func5
    (ChangeSpec.witness6 (enc := enc) (C := Try.checked) false ⟨#[], #[.int .i64 0], []⟩ 8 (by kernel_rfl) (by kernel_rfl) (by kernel_rfl) (by kernel_rfl)) ?_
  intro W base args ds gs before hval0 hW hcnd _
  have hval : ∀ (j : Nat) t v, Try.f5.params[j]? = some t → args[j]? = some v → Value.okWide Try.prog W .any base t v := hval0
  have hW' := hW
  obtain ⟨p, q, hA0, hV, rfl, hfz, hnd⟩ := hW
  have hA : DataW.TrodAll enc Try.prog W 0 (fun _ => true) true Try.f5.params.toList args.toList ds p := hA0
  rw [Try.params5] at hA hval
  obtain ⟨v0, vs0, d0, ds0, p0, q0, hargs, rfl, rfl, h0, r0⟩ := trodAll_cons hA
  obtain ⟨rfl, rfl, rfl⟩ := trodAll_nil r0
  obtain rfl : args = #[v0] := by cases args; simp_all
  obtain ⟨rfl, rfl⟩ := trodVars_none hV
  obtain ⟨a0, rfl, rfl, rfl, w0⟩ := open_int Try.underlying3 (hval 0 3 v0 rfl rfl) h0
  clear hA0 hval0
  simp only [List.append_nil] at hW'
  refine (walk a0 W).mono fun e W' ⟨he, bel⟩ => ?_
  subst he
  exact ⟨_, rfl, _, _, _, [], _, [], hW', trodAll_mk1 (shut_bool Try.underlying4 _), (trodAll_cons_mk (shut_int Try.underlying3 w0) trodAll_mk0), rfl, bel.frame _, fun h => by cases h⟩

theorem over : Rows.fnExactNumeralOfRow.holds Try.pinned (OpenSpec.ofChange Rows.fnExactNumeralOfSpec) :=
  OpenClaim.holds_of_wide 5 Try.f5 rfl rfl rfl rfl rfl rfl rfl ⟨rfl, rfl, rfl, rfl, rfl⟩ rfl rfl rfl rfl rfl (by kernel_rfl) Try.func5 (by kernel_rfl)
    (of_decide_eq_true (by kernel_rfl)) (by unfold Func.isWrapper; first | (rw [if_pos (by decide +kernel)]; kernel_rfl) | (rw [if_neg (by decide +kernel)]; exact ⟨rfl, rfl⟩))
    (fun os started H enc _ => lifted os started H enc)

theorem proved : Rows.FnExactNumeralOfSaid := over
end fnExactNumeralOf
end Go.Proofs.Ytjkabbkaeioibaa
