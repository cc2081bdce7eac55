/- FnExactNumeralPairs: for every number the law returns true: the program's NumeralPairs is the reference's, and shares no memory. No condition. -/
import Derived.Test.YtjkabbkaeioibaaNumFacts
import Derived.Test.YtjkabbkaeioibaaPairsW
import Derived.Test.YtjkabbkaeioibaaEqSS
import Derived.ProofKit
import Derived.OpenShut
namespace Go.Proofs.Ytjkabbkaeioibaa
open Go.RowKit

theorem RdSS_same {w w' : World} {tss : List (List Tm)} {a : Option Addr} {l b : Nat} {Fs : List (List Nat)} (h : RdSS w tss a l b Fs) (hs : w.heap.size ≤ w'.heap.size) (hb : 0 < l → w'.heap[b]? = w.heap[b]?) (hF : ∀ x ∈ Fs.flatten, w'.heap[x]? = w.heap[x]?) : RdSS w' tss a l b Fs := by
  obtain ⟨h1, h2, h3, h4⟩ := h
  refine ⟨h1, h2, fun hp => ⟨(h3 hp).1, (h3 hp).2.1, Nat.lt_of_lt_of_le (h3 hp).2.2 hs⟩, fun i ts hi => ?_⟩
  obtain ⟨e, h5, h6⟩ := h4 i ts hi
  have hp : 0 < l := by have := (List.getElem?_eq_some_iff.1 hi).1; omega
  exact ⟨e, (World.cell?_of_block (w := w) (a := ⟨b, i, none⟩) (hb hp)).trans h5, RdS_same (fun x hx => hF x (mem_getD_flatten hx)) h6⟩
theorem cntLL_le {tss : List (List Tm)} {M : Nat} (h : ∀ ts ∈ tss, cntL ts ≤ M) : cntLL tss ≤ tss.length * M := by
  induction tss with
  | nil => simp [cntLL]
  | cons ts tss ih =>
    have h1 := h ts (by simp)
    have h2 := ih (fun x hx => h x (by simp [hx]))
    simp only [cntLL, List.length_cons, Nat.add_mul]; omega
theorem numeralT_cnt (n : Nat) : (numeralT n).cnt ≤ 2 * n + 1 := by
  unfold numeralT
  rw [cnt_list _ _ (fun x hx => by obtain ⟨d, rfl⟩ := bits_mem _ x hx; simp [Tm.int, Tm.cnt, cntL])]
  have := bitsT_len n
  simp [Tm.nil, Tm.cnt, cntL]; omega
theorem pairsR_facts (n : Int) : (pairsR n).length ≤ 41 ∧ cntLL (pairsR n) ≤ 41 * 200 ∧ ∀ ts ∈ pairsR n, ts.length ≤ 1000000000000 ∧ ∀ t ∈ ts, t.Lens := by
  have key : ∀ ts ∈ pairsR n, cntL ts ≤ 200 ∧ ts.length ≤ 1000000000000 ∧ ∀ t ∈ ts, t.Lens := by
    intro ts hts
    unfold pairsR at hts
    split at hts
    · rename_i h
      simp only [pairsTo, List.mem_map, List.mem_range] at hts
      obtain ⟨i, hi, rfl⟩ := hts
      have h1 := numeralT_cnt i
      have h2 := numeralT_cnt (n.toNat - i)
      exact ⟨by simp only [cntL]; omega, by simp, by simp [numeralT_lens]⟩
    · simp at hts
  have hlen : (pairsR n).length ≤ 41 := by
    unfold pairsR; split
    · rw [pairsTo_len]; omega
    · simp
  refine ⟨hlen, Nat.le_trans (cntLL_le (fun ts h => (key ts h).1)) (Nat.mul_le_mul_right _ hlen), fun ts h => (key ts h).2⟩

namespace fnExactNumeralPairs
open Go.ChangeShapes Go.WideShapes Go.ChangeAt
set_option linter.unusedVariables false
theorem own : ownKnob Try.prog.godebug = none := by kernel_rfl

set_option maxHeartbeats 1000000 in
set_option maxRecDepth 100000 in
theorem walk (n : Int) (w : World) : Calls Try.prog 6 #[.int .i64 n] w fun e w' => e = .returned (.bool true) ∧ Below w.heap.size w w' := by
  obtain ⟨hlen, hcnt, hall⟩ := pairsR_facts n
  generalize ht0 : pairsR n = tss at *
  have HT0 := Lib.hid ht0; have HALL := Lib.hid hall; clear ht0 hall
  go_enter Try.func6, Try.ntmps6
  go_wp2_with fail
  refine (NumeralPairs_spec n _).mono ?_
  rintro e w1 ⟨a, l, c, b, Fs0, rfl, hrd1, _, _, hb1⟩
  rw [HT0.out] at hrd1
  go_wp2_with fail
  refine (NumeralPairs_impl n _).mono ?_
  rintro e w2 ⟨a2, l2, c2, b2, Fs, rfl, hrd2, hfr2, _, hb2⟩
  rw [HT0.out] at hrd2
  have hrd1' := RdSS_ext hrd1 hb2
  go_wp2_with fail
  refine (eqTermSS_same tss HALL.out a2 a l2 c2 l c b2 b Fs Fs0 _ hrd2 hrd1' (by omega)).mono ?_
  rintro e w3 ⟨rfl, hb3⟩
  have hrd2' := RdSS_ext hrd2 hb3
  have hrd1'' := RdSS_ext hrd1' hb3
  have hnew := hfr2.below hb3
  go_wp2_with fail
  refine (markTermSS_any tss a2 l2 c2 b2 Fs 1 _ hrd2' hnew.1 (fun x hx => (hnew.2 x hx).2) (by omega) (by omega) (by omega)).mono ?_
  rintro e w4 ⟨rfl, hrd4, hwr4⟩
  generalize hkn : 1 + 3 * cntLL tss = kn
  have HK := Lib.hid hkn; clear hkn
  have hrd14 : RdSS w4 tss a l b Fs0 := by
    refine RdSS_same hrd1'' hwr4.size (fun hp => hwr4.block b (hrd1''.2.2.1 hp).2.2 (fun hm => ?_)) (fun x hx => hwr4.block x (RdSS_lt hrd1'' x hx) (fun hm => ?_))
    · have h1 := (hnew.2 b hm).1
      have h2 := (hrd1.2.2.1 hp).2.2
      omega
    · have h1 := (hnew.2 x hm).1
      have h2 := RdSS_lt hrd1 x hx
      omega
  have hbel4 : Below w.heap.size w w4 := ((hb1.trans (hb2.mono hb1.size)).trans (hb3.mono (Nat.le_trans hb1.size hb2.size))).trans (hwr4.below (fun x hx => Nat.le_trans hb1.size (hnew.2 x hx).1) (Nat.le_trans hb1.size (Nat.le_trans hb2.size hb3.size)))
  clear hrd2' hrd1'' hnew hfr2 hwr4 hb3 hrd1' hrd1 hrd2 hb2 hb1
  go_wp2_with fail
  refine (heldTermSS_any tss a2 l2 c2 b2 Fs 1 _ hrd4 (by omega) (by omega) (by omega)).mono ?_
  rintro e w5 ⟨rfl, hb5⟩
  have hrd5 := RdSS_ext hrd4 hb5
  have hrd15 := RdSS_ext hrd14 hb5
  rw [HK.out]
  go_wp2_with fail
  refine (NumeralPairs_impl n _).mono ?_
  rintro e w6 ⟨a3, l3, c3, b3, Fs3, rfl, hrd3, _, _, hb6⟩
  rw [HT0.out] at hrd3
  have hrd6 := RdSS_ext hrd5 hb6
  have hrd16 := RdSS_ext hrd15 hb6
  go_wp2_with fail
  refine (eqTermSS_same tss HALL.out a3 a l3 c3 l c b3 b Fs3 Fs0 _ hrd3 hrd16 (by omega)).mono ?_
  rintro e w7 ⟨rfl, hb7⟩
  have hrd7 := RdSS_ext hrd6 hb7
  go_wp2_with fail
  refine (heldTermSS_any tss a2 l2 c2 b2 Fs 1 _ hrd7 (by omega) (by omega) (by omega)).mono ?_
  rintro e w8 ⟨rfl, hb8⟩
  rw [HK.out]
  have hend : Below w.heap.size w w8 := (((hbel4.trans (hb5.mono hbel4.size)).trans (hb6.mono (Nat.le_trans hbel4.size hb5.size))).trans (hb7.mono (Nat.le_trans hbel4.size (Nat.le_trans hb5.size hb6.size)))).trans (hb8.mono (Nat.le_trans hbel4.size (Nat.le_trans hb5.size (Nat.le_trans hb6.size hb7.size))))
  go_wp2
  go_ret
  exact ⟨rfl, hend⟩

set_option maxRecDepth 100000 in
theorem lifted (os : Os) (started : os.Started) (H : Type) (enc : TypeId × Value → H) :
    ReturnsInHanded {} Try.checked os 6 .any (Rows.fnExactNumeralPairsSpec.pre6 enc Try.prog Try.f6 Rows.fnExactNumeralPairsRow.domain false) (Rows.fnExactNumeralPairsSpec.post enc Try.prog Try.f6 false true false false) := by
  refine returnsInHanded_of_change (C := Try.checked) own started (by kernel_rfl) Try.func6
    (ChangeSpec.witness6 (enc := enc) (C := Try.checked) false ⟨#[], #[.int .i64 0], []⟩ 8 (by kernel_rfl) (by kernel_rfl) (by kernel_rfl) (by kernel_rfl)) ?_
  intro W base args ds gs before hval0 hW hcnd _
  have hval : ∀ (j : Nat) t v, Try.f6.params[j]? = some t → args[j]? = some v → Value.okWide Try.prog W .any base t v := hval0
  have hW' := hW
  obtain ⟨p, q, hA0, hV, rfl, hfz, hnd⟩ := hW
  have hA : DataW.TrodAll enc Try.prog W 0 (fun _ => true) true Try.f6.params.toList args.toList ds p := hA0
  rw [Try.params6] at hA hval
  obtain ⟨v0, vs0, d0, ds0, p0, q0, hargs, rfl, rfl, h0, r0⟩ := trodAll_cons hA
  obtain ⟨rfl, rfl, rfl⟩ := trodAll_nil r0
  obtain rfl : args = #[v0] := by cases args; simp_all
  obtain ⟨rfl, rfl⟩ := trodVars_none hV
  obtain ⟨a0, rfl, rfl, rfl, w0⟩ := open_int Try.underlying3 (hval 0 3 v0 rfl rfl) h0
  clear hA0 hval0
  simp only [List.append_nil] at hW'
  refine (walk a0 W).mono fun e W' ⟨he, bel⟩ => ?_
  subst he
  exact ⟨_, rfl, _, _, _, [], _, [], hW', trodAll_mk1 (shut_bool Try.underlying4 _), (trodAll_cons_mk (shut_int Try.underlying3 w0) trodAll_mk0), rfl, bel.frame _, fun h => by cases h⟩

theorem over : Rows.fnExactNumeralPairsRow.holds Try.pinned (OpenSpec.ofChange Rows.fnExactNumeralPairsSpec) :=
  OpenClaim.holds_of_wide 6 Try.f6 rfl rfl rfl rfl rfl rfl rfl ⟨rfl, rfl, rfl, rfl, rfl⟩ rfl rfl rfl rfl rfl (by kernel_rfl) Try.func6 (by kernel_rfl)
    (of_decide_eq_true (by kernel_rfl)) (by unfold Func.isWrapper; first | (rw [if_pos (by decide +kernel)]; kernel_rfl) | (rw [if_neg (by decide +kernel)]; exact ⟨rfl, rfl⟩))
    (fun os started H enc _ => lifted os started H enc)

theorem proved : Rows.FnExactNumeralPairsSaid := over
end fnExactNumeralPairs
end Go.Proofs.Ytjkabbkaeioibaa
