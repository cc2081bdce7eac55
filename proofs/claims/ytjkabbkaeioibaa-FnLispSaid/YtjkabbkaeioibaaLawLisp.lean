/- FnLisp: for every code the law returns true: evaluation obeys the equations of the language. No condition. -/
import Derived.Test.YtjkabbkaeioibaaExC
import Derived.Test.YtjkabbkaeioibaaLawNumerals
import Derived.Test.YtjkabbkaeioibaaEvalAll
import Derived.BigQuiet
namespace Go.Proofs.Ytjkabbkaeioibaa
open Go.RowKit
namespace fnLisp
set_option linter.unusedVariables false

set_option maxHeartbeats 16000000 in
set_option maxRecDepth 100000 in
theorem walk_small (a : Option Addr) (l cap : Nat) (w : World) (hby : Bytes w a l) (hl : l ≤ 1048576) :
    Calls Try.prog 11 #[.slice a l cap] w fun e w' => e = .returned (.bool true) ∧ Below w.heap.size w w' := by
  have hbel := Below.refl w.heap.size w
  go_enter Try.func11, Try.ntmps11
  go_wp2_with fail
  refine (MakeLisp_any w a l cap 0 hby (by omega) (by omega)).mono ?_
  rintro e w1 ⟨kA, nA, sA, aA, lA, cA, kE, nE, sE, aE, lE, cE, rfl, tA, tE, hb1⟩
  replace hbel := hbel.trans (hb1.mono hbel.size)
  clear hb1
  obtain ⟨xA, FA, rA, LA, CA, _⟩ := tA
  obtain ⟨xE, FE, rE, LE, CE, _⟩ := tE
  go_upto_region 4 with fail
  have hbx : Below w1.heap.size w1 (w1.alloc (.cells #[.int .i64 kA, .int .i64 nA, .string sA, .slice aA lA cA] 26)) := (Below.refl _ _).alloc (Nat.le_refl _) _
  have bA := Boxed.new (k := kA) (n := nA) (s := sA) rA
  replace hbel := hbel.trans (hbx.mono hbel.size)
  replace rE := RdS_ext rE hbx
  clear hbx rA
  have hbx : Below (w1.alloc (.cells #[.int .i64 kA, .int .i64 nA, .string sA, .slice aA lA cA] 26)).heap.size (w1.alloc (.cells #[.int .i64 kA, .int .i64 nA, .string sA, .slice aA lA cA] 26)) ((w1.alloc (.cells #[.int .i64 kA, .int .i64 nA, .string sA, .slice aA lA cA] 26)).alloc (.cells #[.int .i64 kE, .int .i64 nE, .string sE, .slice aE lE cE] 26)) := (Below.refl _ _).alloc (Nat.le_refl _) _
  have bE := Boxed.new (k := kE) (n := nE) (s := sE) rE
  rw [show (w1.alloc (.cells #[.int .i64 kA, .int .i64 nA, .string sA, .slice aA lA cA] 26)).heap.size = w1.heap.size + 1 by simp] at bE
  replace bA := bA.below hbx
  replace hbel := hbel.trans (hbx.mono hbel.size)
  clear hbx rE
  generalize ((w1.alloc (.cells #[.int .i64 kA, .int .i64 nA, .string sA, .slice aA lA cA] 26)).alloc (.cells #[.int .i64 kE, .int .i64 nE, .string sE, .slice aE lE cE] 26)) = W1 at *
  go_wp2_with fail
  refine (MakeLisp_any W1 a l cap 60 (Bytes_below hby hbel) (by omega) (by omega)).mono ?_
  rintro e w2 ⟨kB, nB, sB, aB, lB, cB, kG, nG, sG, aG, lG, cG, rfl, tB, tG, hb2⟩
  replace bA := bA.below hb2
  replace bE := bE.below hb2
  replace hbel := hbel.trans (hb2.mono hbel.size)
  clear hb2
  obtain ⟨xB, FB, rB, LB, CB, _⟩ := tB
  obtain ⟨xG, FG, rG, LG, CG, _⟩ := tG
  go_upto_region 5 with fail
  have hbx : Below w2.heap.size w2 (w2.alloc (.cells #[.int .i64 kB, .int .i64 nB, .string sB, .slice aB lB cB] 26)) := (Below.refl _ _).alloc (Nat.le_refl _) _
  have bB := Boxed.new (k := kB) (n := nB) (s := sB) rB
  replace bA := bA.below hbx
  replace bE := bE.below hbx
  replace hbel := hbel.trans (hbx.mono hbel.size)
  replace rG := RdS_ext rG hbx
  clear hbx rB
  have hbx : Below (w2.alloc (.cells #[.int .i64 kB, .int .i64 nB, .string sB, .slice aB lB cB] 26)).heap.size (w2.alloc (.cells #[.int .i64 kB, .int .i64 nB, .string sB, .slice aB lB cB] 26)) ((w2.alloc (.cells #[.int .i64 kB, .int .i64 nB, .string sB, .slice aB lB cB] 26)).alloc (.cells #[.int .i64 kG, .int .i64 nG, .string sG, .slice aG lG cG] 26)) := (Below.refl _ _).alloc (Nat.le_refl _) _
  have bG := Boxed.new (k := kG) (n := nG) (s := sG) rG
  rw [show (w2.alloc (.cells #[.int .i64 kB, .int .i64 nB, .string sB, .slice aB lB cB] 26)).heap.size = w2.heap.size + 1 by simp] at bG
  replace bA := bA.below hbx
  replace bE := bE.below hbx
  replace bB := bB.below hbx
  replace hbel := hbel.trans (hbx.mono hbel.size)
  clear hbx rG
  generalize ((w2.alloc (.cells #[.int .i64 kB, .int .i64 nB, .string sB, .slice aB lB cB] 26)).alloc (.cells #[.int .i64 kG, .int .i64 nG, .string sG, .slice aG lG cG] 26)) = W2 at *
  clear bG
  obtain ⟨pA0, pA1, pA2, pA3, pAl⟩ := bA.cells
  obtain ⟨pE0, pE1, pE2, pE3, pEl⟩ := bE.cells
  go_wp2_with fail
  refine (EvalLisp_run eval_all kA nA sA xA aA lA cA FA kE nE sE xE aE lE cE FE 60 _ bA.rd bE.rd LA LE).mono ?_
  rintro e w3 ⟨kV, nV, sV, xV, aV, lV, cV, FV, eV, rfl, rV, _, hb3⟩
  clear pA0 pA1 pA2 pA3 pAl pE0 pE1 pE2 pE3 pEl
  replace bA := bA.below hb3
  replace bE := bE.below hb3
  replace bB := bB.below hb3
  replace hbel := hbel.trans (hb3.mono hbel.size)
  clear hb3
  go_upto_region 6 with fail
  have hbx : Below w3.heap.size w3 (w3.alloc (.cells #[.int .i64 kV, .int .i64 nV, .string sV, .slice aV lV cV] 26)) := (Below.refl _ _).alloc (Nat.le_refl _) _
  have bV := Boxed.new (k := kV) (n := nV) (s := sV) rV
  replace bA := bA.below hbx
  replace bE := bE.below hbx
  replace bB := bB.below hbx
  replace hbel := hbel.trans (hbx.mono hbel.size)
  clear hbx rV
  generalize (w3.alloc (.cells #[.int .i64 kV, .int .i64 nV, .string sV, .slice aV lV cV] 26)) = W3 at *
  obtain ⟨pB0, pB1, pB2, pB3, pBl⟩ := bB.cells
  obtain ⟨pE0, pE1, pE2, pE3, pEl⟩ := bE.cells
  go_wp2_with fail
  refine (EvalLisp_run eval_all kB nB sB xB aB lB cB FB kE nE sE xE aE lE cE FE 60 _ bB.rd bE.rd LB LE).mono ?_
  rintro e w4 ⟨kU, nU, sU, xU, aU, lU, cU, FU, eU, rfl, rU, _, hb4⟩
  clear pB0 pB1 pB2 pB3 pBl pE0 pE1 pE2 pE3 pEl
  replace bA := bA.below hb4
  replace bE := bE.below hb4
  replace bB := bB.below hb4
  replace bV := bV.below hb4
  replace hbel := hbel.trans (hb4.mono hbel.size)
  clear hb4
  go_upto_region 7 with fail
  have hbx : Below w4.heap.size w4 (w4.alloc (.cells #[.int .i64 kU, .int .i64 nU, .string sU, .slice aU lU cU] 26)) := (Below.refl _ _).alloc (Nat.le_refl _) _
  have bU := Boxed.new (k := kU) (n := nU) (s := sU) rU
  replace bA := bA.below hbx
  replace bE := bE.below hbx
  replace bB := bB.below hbx
  replace bV := bV.below hbx
  replace hbel := hbel.trans (hbx.mono hbel.size)
  clear hbx rU
  generalize (w4.alloc (.cells #[.int .i64 kU, .int .i64 nU, .string sU, .slice aU lU cU] 26)) = W4 at *
  obtain ⟨pA0, pA1, pA2, pA3, pAl⟩ := bA.cells
  obtain ⟨pE0, pE1, pE2, pE3, pEl⟩ := bE.cells
  go_wp2_with fail
  refine (StepsLisp_run eval_all kA nA sA xA aA lA cA FA kE nE sE xE aE lE cE FE 60 _ bA.rd bE.rd LA LE).mono ?_
  rintro e w5 ⟨rfl, hb5⟩
  clear pA0 pA1 pA2 pA3 pAl pE0 pE1 pE2 pE3 pEl
  replace bA := bA.below hb5
  replace bE := bE.below hb5
  replace bB := bB.below hb5
  replace bV := bV.below hb5
  replace bU := bU.below hb5
  replace hbel := hbel.trans (hb5.mono hbel.size)
  clear hb5
  obtain ⟨R1, hR1⟩ : ∃ r, r = runL (.mk kA nA sA xA) (.mk kE nE sE xE) 60 := ⟨_, rfl⟩
  obtain ⟨R2, hR2⟩ : ∃ r, r = runL (.mk kB nB sB xB) (.mk kE nE sE xE) 60 := ⟨_, rfl⟩
  rw [← hR1] at eV ⊢
  rw [← hR2] at eU ⊢
  have c1 : R1.2.2 ≤ 2 := by rw [hR1]; exact runL_code _ _ _
  have c2 : R2.2.2 ≤ 2 := by rw [hR2]; exact runL_code _ _ _
  have ok1 : (Tm.mk kV nV sV xV).ok = true := by rw [← eV, hR1]; exact runL_ok' _ _ _
  have ok2 : (Tm.mk kU nU sU xU).ok = true := by rw [← eU, hR2]; exact runL_ok' _ _ _
  obtain ⟨z, hz⟩ : ∃ z : Int, z = (R1.2.2 : Int) := ⟨_, rfl⟩
  obtain ⟨y, hy⟩ : ∃ y : Int, y = (R2.2.2 : Int) := ⟨_, rfl⟩
  obtain ⟨nn, hnn⟩ : ∃ x : Int, x = if R1.2.2 = 0 then (R1.2.1 : Int) else -1 := ⟨_, rfl⟩
  rw [← hz, ← hy, ← hnn]
  have HR1 := Lib.hid hR1; have HR2 := Lib.hid hR2; have HEV := Lib.hid eV; have HEU := Lib.hid eU; have OK1 := Lib.hid ok1; have OK2 := Lib.hid ok2
  have HZ := Lib.hid hz; have HY := Lib.hid hy; have HN := Lib.hid hnn
  have hz2 : z = 0 ∨ z = 1 ∨ z = 2 := by omega
  have hy2 : y = 0 ∨ y = 1 ∨ y = 2 := by omega
  clear hR1 hR2 eV eU ok1 ok2 hz hy hnn c1 c2
  rcases hz2 with rfl | hz2
  case inr =>
    obtain rfl : nn = -1 := by have h1 := HN.out; have h2 := HZ.out; rw [if_neg (by omega)] at h1; exact h1
    rcases hz2 with rfl | rfl
    all_goals
      go_wp2_with fail
      go_quiet (fail)
      go_wp2
      go_ret
      exact ⟨rfl, ⟨hbel.os, hbel.tape, hbel.output, hbel.size, hbel.block⟩⟩
  have h0 : R1.2.2 = 0 := by have := HZ.out; omega
  have hn : 1 ≤ nn ∧ nn ≤ 60 := by
    have h1 := HN.out
    have h3 := h0
    rw [if_pos h0] at h1
    rw [HR1.out] at h3 h1
    obtain ⟨_, _, n, hn1, hn2, hn3, _⟩ := runL_takes h3
    rw [hn3] at h1
    omega
  have HNN := Lib.hid (show nn = (R1.2.1 : Int) by have h1 := HN.out; rw [if_pos h0] at h1; exact h1)
  have HZ0 := Lib.hid h0
  obtain ⟨hn1, hn60⟩ := hn
  clear h0 HN HZ
  rcases hy2 with rfl | hy2
  case inr =>
    rcases hy2 with rfl | rfl
    all_goals
      go_wp2_with fail
      go_quiet (fail)
      go_wp2
      go_ret
      exact ⟨rfl, ⟨hbel.os, hbel.tape, hbel.output, hbel.size, hbel.block⟩⟩
  have HY0 := Lib.hid (show R2.2.2 = 0 by have := HY.out; omega)
  clear HY
  obtain ⟨m1, hm1⟩ : ∃ m, m = (Tm.mk kV nV sV xV).cnt := ⟨_, rfl⟩
  obtain ⟨m2, hm2⟩ : ∃ m, m = (Tm.mk kU nU sU xU).cnt := ⟨_, rfl⟩
  have hm1b : m1 ≤ 5000 := by rw [hm1]; exact (ok_wf OK1.out).2
  have hm2b : m2 ≤ 5000 := by rw [hm2]; exact (ok_wf OK2.out).2
  have e1 : nodesV (.mk kV nV sV xV) 5000 = m1 := by rw [nodesV, if_pos ⟨(ok_wf OK1.out).1, by rw [← hm1]; omega⟩, hm1]
  have e2 : nodesV (.mk kU nU sU xU) 5000 = m2 := by rw [nodesV, if_pos ⟨(ok_wf OK2.out).1, by rw [← hm2]; omega⟩, hm2]
  have HM1 := Lib.hid hm1; have HM2 := Lib.hid hm2
  have T1 : Hid (∀ w', RdS w' xV aV lV cV FV → Calls Try.prog 41 #[.agg #[.int .i64 kV, .int .i64 nV, .string sV, .slice aV lV cV]] w' fun e w'' => e = .returned (.int .i64 (m1 : Int)) ∧ Below w'.heap.size w' w'') := fun w' h => by
    rw [← e1]; exact TermSize_any kV nV sV xV aV lV cV FV w' h (wf_lens (ok_wf OK1.out).1)
  have T2 : Hid (∀ w', RdS w' xU aU lU cU FU → Calls Try.prog 41 #[.agg #[.int .i64 kU, .int .i64 nU, .string sU, .slice aU lU cU]] w' fun e w'' => e = .returned (.int .i64 (m2 : Int)) ∧ Below w'.heap.size w' w'') := fun w' h => by
    rw [← e2]; exact TermSize_any kU nU sU xU aU lU cU FU w' h (wf_lens (ok_wf OK2.out).1)
  clear e1 e2 hm1 hm2
  have HBV := Lib.hid bV; have HBU := Lib.hid bU
  have keep : Hid (∀ w' : World, Below w5.heap.size w5 w' → w'.cell? ⟨w3.heap.size, 0, none⟩ = some (.int .i64 kV) ∧ w'.cell? ⟨w3.heap.size, 1, none⟩ = some (.int .i64 nV) ∧ w'.cell? ⟨w3.heap.size, 2, none⟩ = some (.string sV) ∧ w'.cell? ⟨w3.heap.size, 3, none⟩ = some (.slice aV lV cV) ∧ w'.cell? ⟨w4.heap.size, 0, none⟩ = some (.int .i64 kU) ∧ w'.cell? ⟨w4.heap.size, 1, none⟩ = some (.int .i64 nU) ∧ w'.cell? ⟨w4.heap.size, 2, none⟩ = some (.string sU) ∧ w'.cell? ⟨w4.heap.size, 3, none⟩ = some (.slice aU lU cU)) := by
    intro w' h
    obtain ⟨v0, v1, v2, v3, _⟩ := (HBV.out.below h).cells
    obtain ⟨u0, u1, u2, u3, _⟩ := (HBU.out.below h).cells
    exact ⟨v0, v1, v2, v3, u0, u1, u2, u3⟩
  have g0 : Below w5.heap.size w5 w5.drew := (Below.refl _ _).drew
  go_wp2_with fail
  go_region_held3 (fun w' => w'.cell? ⟨w3.heap.size, 0, none⟩ = some (.int .i64 kV) ∧ w'.cell? ⟨w3.heap.size, 1, none⟩ = some (.int .i64 nV) ∧ w'.cell? ⟨w3.heap.size, 2, none⟩ = some (.string sV) ∧ w'.cell? ⟨w3.heap.size, 3, none⟩ = some (.slice aV lV cV) ∧ w'.cell? ⟨w4.heap.size, 0, none⟩ = some (.int .i64 kU) ∧ w'.cell? ⟨w4.heap.size, 1, none⟩ = some (.int .i64 nU) ∧ w'.cell? ⟨w4.heap.size, 2, none⟩ = some (.string sU) ∧ w'.cell? ⟨w4.heap.size, 3, none⟩ = some (.slice aU lU cU))
    (first | with_reducible exact keep.out _ (Below.refl _ _) | with_reducible exact keep.out _ g0 | with_reducible exact keep.out _ g1 | with_reducible exact keep.out _ g2)
    (first | (go_at_call 41; (with_reducible refine (T1.out _ (RdS_ext HBV.out.rd g0)).mono ?_); rintro e y1 ⟨rfl, hy1⟩; have g1 : Below w5.heap.size w5 y1 := below_of_drew hy1) | (go_at_call 41; (with_reducible refine (T2.out _ (RdS_ext HBU.out.rd g1)).mono ?_); rintro e y2 ⟨rfl, hy2⟩; have g2 : Below w5.heap.size w5 y2 := g1.trans (hy2.mono g1.size)) | fail)
  clear hy1 g1 g0 hy2
  replace bA := bA.below g2
  replace bE := bE.below g2
  replace bB := bB.below g2
  replace bV := bV.below g2
  replace bU := bU.below g2
  replace hbel := hbel.trans (g2.mono hbel.size)
  clear g2 keep T1 T2 HBV HBU
  rw [show IntKind.i64.wrap ((m1 : Int) + (m2 : Int)) = (m1 : Int) + m2 from IntWalk.i64_in _ (by omega)]
  by_cases hs : m1 + m2 ≤ 60
  case neg =>
    have hs' : decide (60 < (m1 : Int) + m2) = true := by simp; omega
    go_wp2
    go_ret
    exact ⟨rfl, hbel⟩
  have hs' : decide (60 < (m1 : Int) + m2) = false := by simp; omega
  rw [hs']
  have h1 : (runL (.mk kA nA sA xA) (.mk kE nE sE xE) 60).2.2 = 0 := by rw [← HR1.out]; exact HZ0.out
  have h2 : (runL (.mk kB nB sB xB) (.mk kE nE sE xE) 60).2.2 = 0 := by rw [← HR2.out]; exact HY0.out
  have LAW := lisp_law h1 h2 (by rw [← HR1.out, ← HR2.out, HEV.out, HEU.out, ← HM1.out, ← HM2.out]; exact hs) (by omega) (by omega)
  rw [← HR1.out, ← HR2.out, HEV.out, HEU.out, ← HNN.out] at LAW
  have okA := gnd_ok (runL_takes h1).1
  have okB := gnd_ok (runL_takes h2).1
  have LV := wf_lens (ok_wf OK1.out).1
  have LU := wf_lens (ok_wf OK2.out).1
  have HL := Lib.hid LAW; have OKA := Lib.hid okA; have OKB := Lib.hid okB
  have HLV := Lib.hid LV; have HLU := Lib.hid LU
  clear LAW okA okB h1 h2 HR1 HR2 HEV HEU HM1 HM2 HNN HZ0 HY0 OK1 OK2 hs LV LU hm1b hm2b
  obtain ⟨pA0, pA1, pA2, pA3, pAl⟩ := bA.cells
  obtain ⟨pB0, pB1, pB2, pB3, pBl⟩ := bB.cells
  go_wp2_with fail
  have hc : cntL [sCons, (.mk kA nA sA xA), (.mk kB nB sB xB)] + 3 + 1 ≤ 5000 := by
    have h1 : sCons.cnt = 1 := rfl
    have h2 : Tm.nil.cnt = 1 := rfl
    simp only [cntL]
    omega
  refine (ListTerm_ok [sCons, (.mk kA nA sA xA), (.mk kB nB sB xB)] [⟨2, 0, ⟨#[99, 111, 110, 115]⟩, none, 0, 0⟩, ⟨kA, nA, sA, aA, lA, cA⟩, ⟨kB, nB, sB, aB, lB, cB⟩] [[], FA, FB] _ _ _ 3 26 (0, 0) (heap_new rfl) rfl rfl (by omega) (by omega) rfl ⟨⟨[], rfl, RdS_nil _ _ _⟩, ⟨xA, rfl, RdS_ext bA.rd ((Below.refl _ _).alloc (Nat.le_refl _) _)⟩, ⟨xB, rfl, RdS_ext bB.rd ((Below.refl _ _).alloc (Nat.le_refl _) _)⟩, trivial⟩ (fun t ht => by simp only [List.mem_cons, List.not_mem_nil, or_false] at ht; rcases ht with rfl | rfl | rfl; exact (by decide +kernel); exact OKA.out; exact OKB.out) (fun t ht => by simp only [List.mem_cons, List.not_mem_nil, or_false] at ht; rcases ht with rfl | rfl | rfl; exact wf_lens (by decide +kernel); exact LA; exact LB) hc).mono ?_
  rintro e w6 ⟨kP, nP, sP, xP, aP, lP, cP, FP, eP, rfl, rP, _, hbz⟩
  have hb6 : Below y2.heap.size y2 w6 := ((Below.refl _ _).alloc (Nat.le_refl _) _).trans (hbz.mono (by simp))
  clear hbz
  clear pA0 pA1 pA2 pA3 pAl pB0 pB1 pB2 pB3 pBl
  replace bA := bA.below hb6
  replace bE := bE.below hb6
  replace bB := bB.below hb6
  replace bV := bV.below hb6
  replace bU := bU.below hb6
  replace hbel := hbel.trans (hb6.mono hbel.size)
  clear hb6
  have CP : (Tm.mk kP nP sP xP).cnt ≤ 400 := by
    rw [← eP, cnt_list3]
    have h1 : sCons.cnt = 1 := rfl
    have h2 : Tm.nil.cnt = 1 := rfl
    omega
  have GP : (Tm.mk kP nP sP xP).gnd = true := by rw [← eP]; exact HL.out.pg
  have OKP := Lib.hid (gnd_ok GP)
  have LP := wf_lens (ok_wf OKP.out).1
  have EP := Lib.hid eP
  clear eP GP hc
  go_upto_region 13 with fail
  have hbx : Below w6.heap.size w6 (w6.alloc (.cells #[.int .i64 kP, .int .i64 nP, .string sP, .slice aP lP cP] 26)) := (Below.refl _ _).alloc (Nat.le_refl _) _
  have bP := Boxed.new (k := kP) (n := nP) (s := sP) rP
  replace bA := bA.below hbx
  replace bE := bE.below hbx
  replace bB := bB.below hbx
  replace bV := bV.below hbx
  replace bU := bU.below hbx
  replace hbel := hbel.trans (hbx.mono hbel.size)
  clear hbx rP
  generalize (w6.alloc (.cells #[.int .i64 kP, .int .i64 nP, .string sP, .slice aP lP cP] 26)) = W6 at *
  obtain ⟨pP0, pP1, pP2, pP3, pPl⟩ := bP.cells
  go_wp2_with fail
  have hc : cntL [sCar, (.mk kP nP sP xP)] + 2 + 1 ≤ 5000 := by
    have h1 : sCar.cnt = 1 := rfl
    have h2 : Tm.nil.cnt = 1 := rfl
    simp only [cntL]
    omega
  refine (ListTerm_ok [sCar, (.mk kP nP sP xP)] [⟨2, 0, ⟨#[99, 97, 114]⟩, none, 0, 0⟩, ⟨kP, nP, sP, aP, lP, cP⟩] [[], FP] _ _ _ 2 26 (0, 0) (heap_new rfl) rfl rfl (by omega) (by omega) rfl ⟨⟨[], rfl, RdS_nil _ _ _⟩, ⟨xP, rfl, RdS_ext bP.rd ((Below.refl _ _).alloc (Nat.le_refl _) _)⟩, trivial⟩ (fun t ht => by simp only [List.mem_cons, List.not_mem_nil, or_false] at ht; rcases ht with rfl | rfl; exact (by decide +kernel); exact OKP.out) (fun t ht => by simp only [List.mem_cons, List.not_mem_nil, or_false] at ht; rcases ht with rfl | rfl; exact wf_lens (by decide +kernel); exact LP) hc).mono ?_
  rintro e w7 ⟨kH, nH, sH, xH, aH, lH, cH, FH, eH, rfl, rH, _, hbz⟩
  have hb7 : Below W6.heap.size W6 w7 := ((Below.refl _ _).alloc (Nat.le_refl _) _).trans (hbz.mono (by simp))
  clear hbz
  clear pP0 pP1 pP2 pP3 pPl
  replace bA := bA.below hb7
  replace bE := bE.below hb7
  replace bB := bB.below hb7
  replace bV := bV.below hb7
  replace bU := bU.below hb7
  replace bP := bP.below hb7
  replace hbel := hbel.trans (hb7.mono hbel.size)
  clear hb7
  have CH : (Tm.mk kH nH sH xH).cnt ≤ 800 := by
    rw [← eH, cnt_list2]
    have h1 : sCar.cnt = 1 := rfl
    have h2 : Tm.nil.cnt = 1 := rfl
    omega
  have GH : (Tm.mk kH nH sH xH).gnd = true := by rw [← eH]; exact (by rw [← EP.out]; exact HL.out.hg)
  have OKH := Lib.hid (gnd_ok GH)
  have LH := wf_lens (ok_wf OKH.out).1
  have EH := Lib.hid eH
  clear eH GH hc
  go_upto_region 14 with fail
  have hbx : Below w7.heap.size w7 (w7.alloc (.cells #[.int .i64 kH, .int .i64 nH, .string sH, .slice aH lH cH] 26)) := (Below.refl _ _).alloc (Nat.le_refl _) _
  have bH := Boxed.new (k := kH) (n := nH) (s := sH) rH
  replace bA := bA.below hbx
  replace bE := bE.below hbx
  replace bB := bB.below hbx
  replace bV := bV.below hbx
  replace bU := bU.below hbx
  replace bP := bP.below hbx
  replace hbel := hbel.trans (hbx.mono hbel.size)
  clear hbx rH
  generalize (w7.alloc (.cells #[.int .i64 kH, .int .i64 nH, .string sH, .slice aH lH cH] 26)) = W7 at *
  obtain ⟨pP0, pP1, pP2, pP3, pPl⟩ := bP.cells
  go_wp2_with fail
  have hc : cntL [sCdr, (.mk kP nP sP xP)] + 2 + 1 ≤ 5000 := by
    have h1 : sCdr.cnt = 1 := rfl
    have h2 : Tm.nil.cnt = 1 := rfl
    simp only [cntL]
    omega
  refine (ListTerm_ok [sCdr, (.mk kP nP sP xP)] [⟨2, 0, ⟨#[99, 100, 114]⟩, none, 0, 0⟩, ⟨kP, nP, sP, aP, lP, cP⟩] [[], FP] _ _ _ 2 26 (0, 0) (heap_new rfl) rfl rfl (by omega) (by omega) rfl ⟨⟨[], rfl, RdS_nil _ _ _⟩, ⟨xP, rfl, RdS_ext bP.rd ((Below.refl _ _).alloc (Nat.le_refl _) _)⟩, trivial⟩ (fun t ht => by simp only [List.mem_cons, List.not_mem_nil, or_false] at ht; rcases ht with rfl | rfl; exact (by decide +kernel); exact OKP.out) (fun t ht => by simp only [List.mem_cons, List.not_mem_nil, or_false] at ht; rcases ht with rfl | rfl; exact wf_lens (by decide +kernel); exact LP) hc).mono ?_
  rintro e w8 ⟨kT, nT, sT, xT, aT, lT, cT, FT, eT, rfl, rT, _, hbz⟩
  have hb8 : Below W7.heap.size W7 w8 := ((Below.refl _ _).alloc (Nat.le_refl _) _).trans (hbz.mono (by simp))
  clear hbz
  clear pP0 pP1 pP2 pP3 pPl
  replace bA := bA.below hb8
  replace bE := bE.below hb8
  replace bB := bB.below hb8
  replace bV := bV.below hb8
  replace bU := bU.below hb8
  replace bP := bP.below hb8
  replace bH := bH.below hb8
  replace hbel := hbel.trans (hb8.mono hbel.size)
  clear hb8
  have CT : (Tm.mk kT nT sT xT).cnt ≤ 800 := by
    rw [← eT, cnt_list2]
    have h1 : sCdr.cnt = 1 := rfl
    have h2 : Tm.nil.cnt = 1 := rfl
    omega
  have GT : (Tm.mk kT nT sT xT).gnd = true := by rw [← eT]; exact (by rw [← EP.out]; exact HL.out.tg)
  have OKT := Lib.hid (gnd_ok GT)
  have LT := wf_lens (ok_wf OKT.out).1
  have ET := Lib.hid eT
  clear eT GT hc
  go_upto_region 15 with fail
  have hbx : Below w8.heap.size w8 (w8.alloc (.cells #[.int .i64 kT, .int .i64 nT, .string sT, .slice aT lT cT] 26)) := (Below.refl _ _).alloc (Nat.le_refl _) _
  have bT := Boxed.new (k := kT) (n := nT) (s := sT) rT
  replace bA := bA.below hbx
  replace bE := bE.below hbx
  replace bB := bB.below hbx
  replace bV := bV.below hbx
  replace bU := bU.below hbx
  replace bP := bP.below hbx
  replace bH := bH.below hbx
  replace hbel := hbel.trans (hbx.mono hbel.size)
  clear hbx rT
  generalize (w8.alloc (.cells #[.int .i64 kT, .int .i64 nT, .string sT, .slice aT lT cT] 26)) = W8 at *
  go_wp2_with fail
  have hc : cntL [sQuote, Tm.nil] + 2 + 1 ≤ 5000 := by
    have h1 : sQuote.cnt = 1 := rfl
    have h2 : Tm.nil.cnt = 1 := rfl
    simp only [cntL]
    omega
  refine (ListTerm_ok [sQuote, Tm.nil] [⟨2, 0, ⟨#[113, 117, 111, 116, 101]⟩, none, 0, 0⟩, ⟨0, 0, ⟨#[]⟩, none, 0, 0⟩] [[], []] _ _ _ 2 26 (0, 0) (heap_new rfl) rfl rfl (by omega) (by omega) rfl ⟨⟨[], rfl, RdS_nil _ _ _⟩, ⟨[], rfl, RdS_nil _ _ _⟩, trivial⟩ (fun t ht => by simp only [List.mem_cons, List.not_mem_nil, or_false] at ht; rcases ht with rfl | rfl; exact (by decide +kernel); exact (by decide +kernel)) (fun t ht => by simp only [List.mem_cons, List.not_mem_nil, or_false] at ht; rcases ht with rfl | rfl; exact wf_lens (by decide +kernel); exact wf_lens (by decide +kernel)) hc).mono ?_
  rintro e w9 ⟨kQ, nQ, sQ, xQ, aQ, lQ, cQ, FQ, eQ, rfl, rQ, _, hbz⟩
  have hb9 : Below W8.heap.size W8 w9 := ((Below.refl _ _).alloc (Nat.le_refl _) _).trans (hbz.mono (by simp))
  clear hbz
  replace bA := bA.below hb9
  replace bE := bE.below hb9
  replace bB := bB.below hb9
  replace bV := bV.below hb9
  replace bU := bU.below hb9
  replace bP := bP.below hb9
  replace bH := bH.below hb9
  replace bT := bT.below hb9
  replace hbel := hbel.trans (hb9.mono hbel.size)
  clear hb9
  have CQ : (Tm.mk kQ nQ sQ xQ).cnt ≤ 100 := by
    rw [← eQ, cnt_list2]
    have h1 : sQuote.cnt = 1 := rfl
    have h2 : Tm.nil.cnt = 1 := rfl
    omega
  have GQ : (Tm.mk kQ nQ sQ xQ).gnd = true := by rw [← eQ]; exact (by decide +kernel)
  have OKQ := Lib.hid (gnd_ok GQ)
  have LQ := wf_lens (ok_wf OKQ.out).1
  have EQ := Lib.hid eQ
  clear eQ GQ hc
  go_upto_region 16 with fail
  have hbx : Below w9.heap.size w9 (w9.alloc (.cells #[.int .i64 kQ, .int .i64 nQ, .string sQ, .slice aQ lQ cQ] 26)) := (Below.refl _ _).alloc (Nat.le_refl _) _
  have bQ := Boxed.new (k := kQ) (n := nQ) (s := sQ) rQ
  replace bA := bA.below hbx
  replace bE := bE.below hbx
  replace bB := bB.below hbx
  replace bV := bV.below hbx
  replace bU := bU.below hbx
  replace bP := bP.below hbx
  replace bH := bH.below hbx
  replace bT := bT.below hbx
  replace hbel := hbel.trans (hbx.mono hbel.size)
  clear hbx rQ
  generalize (w9.alloc (.cells #[.int .i64 kQ, .int .i64 nQ, .string sQ, .slice aQ lQ cQ] 26)) = W9 at *
  obtain ⟨pQ0, pQ1, pQ2, pQ3, pQl⟩ := bQ.cells
  obtain ⟨pA0, pA1, pA2, pA3, pAl⟩ := bA.cells
  obtain ⟨pB0, pB1, pB2, pB3, pBl⟩ := bB.cells
  go_wp2_with fail
  have hc : cntL [sIf, (.mk kQ nQ sQ xQ), (.mk kA nA sA xA), (.mk kB nB sB xB)] + 4 + 1 ≤ 5000 := by
    have h1 : sIf.cnt = 1 := rfl
    have h2 : Tm.nil.cnt = 1 := rfl
    simp only [cntL]
    omega
  refine (ListTerm_ok [sIf, (.mk kQ nQ sQ xQ), (.mk kA nA sA xA), (.mk kB nB sB xB)] [⟨2, 0, ⟨#[105, 102]⟩, none, 0, 0⟩, ⟨kQ, nQ, sQ, aQ, lQ, cQ⟩, ⟨kA, nA, sA, aA, lA, cA⟩, ⟨kB, nB, sB, aB, lB, cB⟩] [[], FQ, FA, FB] _ _ _ 4 26 (0, 0) (heap_new rfl) rfl rfl (by omega) (by omega) rfl ⟨⟨[], rfl, RdS_nil _ _ _⟩, ⟨xQ, rfl, RdS_ext bQ.rd ((Below.refl _ _).alloc (Nat.le_refl _) _)⟩, ⟨xA, rfl, RdS_ext bA.rd ((Below.refl _ _).alloc (Nat.le_refl _) _)⟩, ⟨xB, rfl, RdS_ext bB.rd ((Below.refl _ _).alloc (Nat.le_refl _) _)⟩, trivial⟩ (fun t ht => by simp only [List.mem_cons, List.not_mem_nil, or_false] at ht; rcases ht with rfl | rfl | rfl | rfl; exact (by decide +kernel); exact OKQ.out; exact OKA.out; exact OKB.out) (fun t ht => by simp only [List.mem_cons, List.not_mem_nil, or_false] at ht; rcases ht with rfl | rfl | rfl | rfl; exact wf_lens (by decide +kernel); exact LQ; exact LA; exact LB) hc).mono ?_
  rintro e w10 ⟨kK, nK, sK, xK, aK, lK, cK, FK, eK, rfl, rK, _, hbz⟩
  have hb10 : Below W9.heap.size W9 w10 := ((Below.refl _ _).alloc (Nat.le_refl _) _).trans (hbz.mono (by simp))
  clear hbz
  clear pQ0 pQ1 pQ2 pQ3 pQl pA0 pA1 pA2 pA3 pAl pB0 pB1 pB2 pB3 pBl
  replace bA := bA.below hb10
  replace bE := bE.below hb10
  replace bB := bB.below hb10
  replace bV := bV.below hb10
  replace bU := bU.below hb10
  replace bP := bP.below hb10
  replace bH := bH.below hb10
  replace bT := bT.below hb10
  replace bQ := bQ.below hb10
  replace hbel := hbel.trans (hb10.mono hbel.size)
  clear hb10
  have CK : (Tm.mk kK nK sK xK).cnt ≤ 1000 := by
    rw [← eK, cnt_list4]
    have h1 : sIf.cnt = 1 := rfl
    have h2 : Tm.nil.cnt = 1 := rfl
    omega
  have GK : (Tm.mk kK nK sK xK).gnd = true := by rw [← eK]; exact (by rw [← EQ.out]; exact HL.out.kg)
  have OKK := Lib.hid (gnd_ok GK)
  have LK := wf_lens (ok_wf OKK.out).1
  have EK := Lib.hid eK
  clear eK GK hc
  go_upto_region 17 with fail
  have hbx : Below w10.heap.size w10 (w10.alloc (.cells #[.int .i64 kK, .int .i64 nK, .string sK, .slice aK lK cK] 26)) := (Below.refl _ _).alloc (Nat.le_refl _) _
  have bK := Boxed.new (k := kK) (n := nK) (s := sK) rK
  replace bA := bA.below hbx
  replace bE := bE.below hbx
  replace bB := bB.below hbx
  replace bV := bV.below hbx
  replace bU := bU.below hbx
  replace bP := bP.below hbx
  replace bH := bH.below hbx
  replace bT := bT.below hbx
  replace bQ := bQ.below hbx
  replace hbel := hbel.trans (hbx.mono hbel.size)
  clear hbx rK
  generalize (w10.alloc (.cells #[.int .i64 kK, .int .i64 nK, .string sK, .slice aK lK cK] 26)) = W10 at *
  have lh := HL.out.head
  rw [show headT (.mk kA nA sA xA) (.mk kB nB sB xB) = .mk kH nH sH xH by (rw [← EH.out, ← EP.out])] at lh
  obtain ⟨pH0, pH1, pH2, pH3, pHl⟩ := bH.cells
  obtain ⟨pE0, pE1, pE2, pE3, pEl⟩ := bE.cells
  go_wp2_with fail
  refine (EvalLisp_run eval_all kH nH sH xH aH lH cH FH kE nE sE xE aE lE cE FE 200 _ bH.rd bE.rd LH LE).mono ?_
  rintro e w11 ⟨kX, nX, sX, xX, aX, lX, cX, FX, eX, rfl, rX, _, hb11⟩
  rw [lh.1]
  rw [lh.2] at eX
  cases eX
  clear lh
  clear pH0 pH1 pH2 pH3 pHl pE0 pE1 pE2 pE3 pEl
  replace bA := bA.below hb11
  replace bE := bE.below hb11
  replace bB := bB.below hb11
  replace bV := bV.below hb11
  replace bU := bU.below hb11
  replace bP := bP.below hb11
  replace bH := bH.below hb11
  replace bT := bT.below hb11
  replace bQ := bQ.below hb11
  replace bK := bK.below hb11
  replace hbel := hbel.trans (hb11.mono hbel.size)
  clear hb11
  go_upto_region 18 with fail
  have hbx : Below w11.heap.size w11 (w11.alloc (.cells #[.int .i64 kV, .int .i64 nV, .string sV, .slice aX lX cX] 26)) := (Below.refl _ _).alloc (Nat.le_refl _) _
  have bX := Boxed.new (k := kV) (n := nV) (s := sV) rX
  replace bA := bA.below hbx
  replace bE := bE.below hbx
  replace bB := bB.below hbx
  replace bV := bV.below hbx
  replace bU := bU.below hbx
  replace bP := bP.below hbx
  replace bH := bH.below hbx
  replace bT := bT.below hbx
  replace bQ := bQ.below hbx
  replace bK := bK.below hbx
  replace hbel := hbel.trans (hbx.mono hbel.size)
  clear hbx rX
  generalize (w11.alloc (.cells #[.int .i64 kV, .int .i64 nV, .string sV, .slice aX lX cX] 26)) = W11 at *
  have lh := HL.out.tail
  rw [show tailT (.mk kA nA sA xA) (.mk kB nB sB xB) = .mk kT nT sT xT by (rw [← ET.out, ← EP.out])] at lh
  obtain ⟨pT0, pT1, pT2, pT3, pTl⟩ := bT.cells
  obtain ⟨pE0, pE1, pE2, pE3, pEl⟩ := bE.cells
  go_wp2_with fail
  refine (EvalLisp_run eval_all kT nT sT xT aT lT cT FT kE nE sE xE aE lE cE FE 200 _ bT.rd bE.rd LT LE).mono ?_
  rintro e w12 ⟨kY, nY, sY, xY, aY, lY, cY, FY, eY, rfl, rY, _, hb12⟩
  rw [lh.1]
  rw [lh.2] at eY
  cases eY
  clear lh
  clear pT0 pT1 pT2 pT3 pTl pE0 pE1 pE2 pE3 pEl
  replace bA := bA.below hb12
  replace bE := bE.below hb12
  replace bB := bB.below hb12
  replace bV := bV.below hb12
  replace bU := bU.below hb12
  replace bP := bP.below hb12
  replace bH := bH.below hb12
  replace bT := bT.below hb12
  replace bQ := bQ.below hb12
  replace bK := bK.below hb12
  replace bX := bX.below hb12
  replace hbel := hbel.trans (hb12.mono hbel.size)
  clear hb12
  go_upto_region 19 with fail
  have hbx : Below w12.heap.size w12 (w12.alloc (.cells #[.int .i64 kU, .int .i64 nU, .string sU, .slice aY lY cY] 26)) := (Below.refl _ _).alloc (Nat.le_refl _) _
  have bY := Boxed.new (k := kU) (n := nU) (s := sU) rY
  replace bA := bA.below hbx
  replace bE := bE.below hbx
  replace bB := bB.below hbx
  replace bV := bV.below hbx
  replace bU := bU.below hbx
  replace bP := bP.below hbx
  replace bH := bH.below hbx
  replace bT := bT.below hbx
  replace bQ := bQ.below hbx
  replace bK := bK.below hbx
  replace bX := bX.below hbx
  replace hbel := hbel.trans (hbx.mono hbel.size)
  clear hbx rY
  generalize (w12.alloc (.cells #[.int .i64 kU, .int .i64 nU, .string sU, .slice aY lY cY] 26)) = W12 at *
  have lh := HL.out.pick
  rw [show pickT (.mk kA nA sA xA) (.mk kB nB sB xB) = .mk kK nK sK xK by (rw [← EK.out, ← EQ.out])] at lh
  obtain ⟨pK0, pK1, pK2, pK3, pKl⟩ := bK.cells
  obtain ⟨pE0, pE1, pE2, pE3, pEl⟩ := bE.cells
  go_wp2_with fail
  refine (EvalLisp_run eval_all kK nK sK xK aK lK cK FK kE nE sE xE aE lE cE FE 200 _ bK.rd bE.rd LK LE).mono ?_
  rintro e w13 ⟨kZ, nZ, sZ, xZ, aZ, lZ, cZ, FZ, eZ, rfl, rZ, _, hb13⟩
  rw [lh.1]
  rw [lh.2] at eZ
  cases eZ
  clear lh
  clear pK0 pK1 pK2 pK3 pKl pE0 pE1 pE2 pE3 pEl
  replace bA := bA.below hb13
  replace bE := bE.below hb13
  replace bB := bB.below hb13
  replace bV := bV.below hb13
  replace bU := bU.below hb13
  replace bP := bP.below hb13
  replace bH := bH.below hb13
  replace bT := bT.below hb13
  replace bQ := bQ.below hb13
  replace bK := bK.below hb13
  replace bX := bX.below hb13
  replace bY := bY.below hb13
  replace hbel := hbel.trans (hb13.mono hbel.size)
  clear hb13
  go_upto_region 20 with fail
  have hbx : Below w13.heap.size w13 (w13.alloc (.cells #[.int .i64 kU, .int .i64 nU, .string sU, .slice aZ lZ cZ] 26)) := (Below.refl _ _).alloc (Nat.le_refl _) _
  have bZ := Boxed.new (k := kU) (n := nU) (s := sU) rZ
  replace bA := bA.below hbx
  replace bE := bE.below hbx
  replace bB := bB.below hbx
  replace bV := bV.below hbx
  replace bU := bU.below hbx
  replace bP := bP.below hbx
  replace bH := bH.below hbx
  replace bT := bT.below hbx
  replace bQ := bQ.below hbx
  replace bK := bK.below hbx
  replace bX := bX.below hbx
  replace bY := bY.below hbx
  replace hbel := hbel.trans (hbx.mono hbel.size)
  clear hbx rZ
  generalize (w13.alloc (.cells #[.int .i64 kU, .int .i64 nU, .string sU, .slice aZ lZ cZ] 26)) = W13 at *
  have lh := HL.out.same
  obtain ⟨pA0, pA1, pA2, pA3, pAl⟩ := bA.cells
  obtain ⟨pE0, pE1, pE2, pE3, pEl⟩ := bE.cells
  go_wp2_with fail
  refine (EvalLisp_run eval_all kA nA sA xA aA lA cA FA kE nE sE xE aE lE cE FE nn _ bA.rd bE.rd LA LE).mono ?_
  rintro e w14 ⟨kM, nM, sM, xM, aM, lM, cM, FM, eM, rfl, rM, _, hb14⟩
  rw [lh.1]
  rw [lh.2] at eM
  cases eM
  clear lh
  clear pA0 pA1 pA2 pA3 pAl pE0 pE1 pE2 pE3 pEl
  replace bA := bA.below hb14
  replace bE := bE.below hb14
  replace bB := bB.below hb14
  replace bV := bV.below hb14
  replace bU := bU.below hb14
  replace bP := bP.below hb14
  replace bH := bH.below hb14
  replace bT := bT.below hb14
  replace bQ := bQ.below hb14
  replace bK := bK.below hb14
  replace bX := bX.below hb14
  replace bY := bY.below hb14
  replace bZ := bZ.below hb14
  replace hbel := hbel.trans (hb14.mono hbel.size)
  clear hb14
  go_upto_region 21 with fail
  have hbx : Below w14.heap.size w14 (w14.alloc (.cells #[.int .i64 kV, .int .i64 nV, .string sV, .slice aM lM cM] 26)) := (Below.refl _ _).alloc (Nat.le_refl _) _
  have bM := Boxed.new (k := kV) (n := nV) (s := sV) rM
  replace bA := bA.below hbx
  replace bE := bE.below hbx
  replace bB := bB.below hbx
  replace bV := bV.below hbx
  replace bU := bU.below hbx
  replace bP := bP.below hbx
  replace bH := bH.below hbx
  replace bT := bT.below hbx
  replace bQ := bQ.below hbx
  replace bK := bK.below hbx
  replace bX := bX.below hbx
  replace bY := bY.below hbx
  replace bZ := bZ.below hbx
  replace hbel := hbel.trans (hbx.mono hbel.size)
  clear hbx rM
  generalize (w14.alloc (.cells #[.int .i64 kV, .int .i64 nV, .string sV, .slice aM lM cM] 26)) = W14 at *
  have lh := HL.out.short
  obtain ⟨pA0, pA1, pA2, pA3, pAl⟩ := bA.cells
  obtain ⟨pE0, pE1, pE2, pE3, pEl⟩ := bE.cells
  go_wp2_with fail
  refine (EvalLisp_run eval_all kA nA sA xA aA lA cA FA kE nE sE xE aE lE cE FE (nn - 1) _ bA.rd bE.rd LA LE).mono ?_
  rintro e w15 ⟨kS, nS, sS, xS, aS, lS, cS, FS, eS, rfl, rS, _, hb15⟩
  rw [lh]
  clear lh eS
  clear pA0 pA1 pA2 pA3 pAl pE0 pE1 pE2 pE3 pEl
  replace bA := bA.below hb15
  replace bE := bE.below hb15
  replace bB := bB.below hb15
  replace bV := bV.below hb15
  replace bU := bU.below hb15
  replace bP := bP.below hb15
  replace bH := bH.below hb15
  replace bT := bT.below hb15
  replace bQ := bQ.below hb15
  replace bK := bK.below hb15
  replace bX := bX.below hb15
  replace bY := bY.below hb15
  replace bZ := bZ.below hb15
  replace bM := bM.below hb15
  replace hbel := hbel.trans (hb15.mono hbel.size)
  clear hb15
  go_upto_region 22 with fail
  have hbx : Below w15.heap.size w15 (w15.alloc (.cells #[.int .i64 kS, .int .i64 nS, .string sS, .slice aS lS cS] 26)) := (Below.refl _ _).alloc (Nat.le_refl _) _
  have bS := Boxed.new (k := kS) (n := nS) (s := sS) rS
  replace bA := bA.below hbx
  replace bE := bE.below hbx
  replace bB := bB.below hbx
  replace bV := bV.below hbx
  replace bU := bU.below hbx
  replace bP := bP.below hbx
  replace bH := bH.below hbx
  replace bT := bT.below hbx
  replace bQ := bQ.below hbx
  replace bK := bK.below hbx
  replace bX := bX.below hbx
  replace bY := bY.below hbx
  replace bZ := bZ.below hbx
  replace bM := bM.below hbx
  replace hbel := hbel.trans (hbx.mono hbel.size)
  clear hbx rS
  generalize (w15.alloc (.cells #[.int .i64 kS, .int .i64 nS, .string sS, .slice aS lS cS] 26)) = W15 at *
  obtain ⟨pX0, pX1, pX2, pX3, pXl⟩ := bX.cells
  obtain ⟨pV0, pV1, pV2, pV3, pVl⟩ := bV.cells
  go_wp2_with fail
  refine (same_all HLV.out _ _ _ _ _ _ _ _ _ _ _ _ _ rfl bX.rd bV.rd).mono ?_
  rintro e v0 ⟨rfl, hbs⟩
  clear pX0 pX1 pX2 pX3 pXl pV0 pV1 pV2 pV3 pVl
  replace bA := bA.below hbs
  replace bE := bE.below hbs
  replace bB := bB.below hbs
  replace bV := bV.below hbs
  replace bU := bU.below hbs
  replace bP := bP.below hbs
  replace bH := bH.below hbs
  replace bT := bT.below hbs
  replace bQ := bQ.below hbs
  replace bK := bK.below hbs
  replace bX := bX.below hbs
  replace bY := bY.below hbs
  replace bZ := bZ.below hbs
  replace bM := bM.below hbs
  replace bS := bS.below hbs
  replace hbel := hbel.trans (hbs.mono hbel.size)
  clear hbs
  obtain ⟨pY0, pY1, pY2, pY3, pYl⟩ := bY.cells
  obtain ⟨pU0, pU1, pU2, pU3, pUl⟩ := bU.cells
  go_wp2_with fail
  refine (same_all HLU.out _ _ _ _ _ _ _ _ _ _ _ _ _ rfl bY.rd bU.rd).mono ?_
  rintro e v1 ⟨rfl, hbs⟩
  clear pY0 pY1 pY2 pY3 pYl pU0 pU1 pU2 pU3 pUl
  replace bA := bA.below hbs
  replace bE := bE.below hbs
  replace bB := bB.below hbs
  replace bV := bV.below hbs
  replace bU := bU.below hbs
  replace bP := bP.below hbs
  replace bH := bH.below hbs
  replace bT := bT.below hbs
  replace bQ := bQ.below hbs
  replace bK := bK.below hbs
  replace bX := bX.below hbs
  replace bY := bY.below hbs
  replace bZ := bZ.below hbs
  replace bM := bM.below hbs
  replace bS := bS.below hbs
  replace hbel := hbel.trans (hbs.mono hbel.size)
  clear hbs
  obtain ⟨pU0, pU1, pU2, pU3, pUl⟩ := bU.cells
  obtain ⟨pZ0, pZ1, pZ2, pZ3, pZl⟩ := bZ.cells
  go_wp2_with fail
  refine (same_all HLU.out _ _ _ _ _ _ _ _ _ _ _ _ _ rfl bZ.rd bU.rd).mono ?_
  rintro e v2 ⟨rfl, hbs⟩
  clear pU0 pU1 pU2 pU3 pUl pZ0 pZ1 pZ2 pZ3 pZl
  replace bA := bA.below hbs
  replace bE := bE.below hbs
  replace bB := bB.below hbs
  replace bV := bV.below hbs
  replace bU := bU.below hbs
  replace bP := bP.below hbs
  replace bH := bH.below hbs
  replace bT := bT.below hbs
  replace bQ := bQ.below hbs
  replace bK := bK.below hbs
  replace bX := bX.below hbs
  replace bY := bY.below hbs
  replace bZ := bZ.below hbs
  replace bM := bM.below hbs
  replace bS := bS.below hbs
  replace hbel := hbel.trans (hbs.mono hbel.size)
  clear hbs
  obtain ⟨pV0, pV1, pV2, pV3, pVl⟩ := bV.cells
  obtain ⟨pM0, pM1, pM2, pM3, pMl⟩ := bM.cells
  go_wp2_with fail
  refine (same_all HLV.out _ _ _ _ _ _ _ _ _ _ _ _ _ rfl bM.rd bV.rd).mono ?_
  rintro e v3 ⟨rfl, hbs⟩
  clear pV0 pV1 pV2 pV3 pVl pM0 pM1 pM2 pM3 pMl
  replace bA := bA.below hbs
  replace bE := bE.below hbs
  replace bB := bB.below hbs
  replace bV := bV.below hbs
  replace bU := bU.below hbs
  replace bP := bP.below hbs
  replace bH := bH.below hbs
  replace bT := bT.below hbs
  replace bQ := bQ.below hbs
  replace bK := bK.below hbs
  replace bX := bX.below hbs
  replace bY := bY.below hbs
  replace bZ := bZ.below hbs
  replace bM := bM.below hbs
  replace bS := bS.below hbs
  replace hbel := hbel.trans (hbs.mono hbel.size)
  clear hbs
  go_wp2
  go_ret
  exact ⟨rfl, hbel⟩

set_option maxRecDepth 100000 in
set_option maxHeartbeats 400000 in
theorem walk (a : Option Addr) (l cap : Nat) (w : World) (hby : Bytes w a l) (hm : l ≤ 9223372036854775807) :
    Calls Try.prog 11 #[.slice a l cap] w fun e w' => e = .returned (.bool true) ∧ Below w.heap.size w w' := by
  by_cases hl : l ≤ 1048576
  · exact walk_small a l cap w hby hl
  · have hl' : 1048576 < (l : Int) := by omega
    clear hl hby
    go_enter Try.func11, Try.ntmps11
    go_wp2
    go_ret
    exact ⟨rfl, Below.refl _ _⟩

open Go.ChangeShapes Go.WideShapes Go.ChangeAt
theorem own : ownKnob Try.prog.godebug = none := by kernel_rfl
theorem laidOut : laidOutB Try.prog = true := by kernel_rfl

set_option maxRecDepth 100000 in
theorem lifted (os : Os) (started : os.Started) (H : Type) (enc : TypeId × Value → H) :
    ReturnsInHanded {} Try.checked os 11 .any (Rows.fnLispSpec.pre6 enc Try.prog Try.f11 Rows.fnLispRow.domain false) (Rows.fnLispSpec.post enc Try.prog Try.f11 false true false false) := by
  refine returnsInHanded_of_change (C := Try.checked) own started (by kernel_rfl) Try.func11
    (ChangeSpec.witness6 (enc := enc) (C := Try.checked) false ⟨#[], #[.slice none 0 0], []⟩ 8 (by kernel_rfl) (by kernel_rfl) (by kernel_rfl) (by kernel_rfl)) ?_
  intro W base args ds gs before hval0 hW hcnd _
  have hval : ∀ (j : Nat) t v, Try.f11.params[j]? = some t → args[j]? = some v → Value.okWide Try.prog W .any base t v := hval0
  have hW' := hW
  obtain ⟨p, q, hA0, hV, rfl, hfz, hnd⟩ := hW
  have hA : DataW.TrodAll enc Try.prog W 0 (fun _ => true) true Try.f11.params.toList args.toList ds p := hA0
  rw [Try.params11] at hA hval
  obtain ⟨v0, vs0, d0, ds0, p0, q0, hargs, rfl, rfl, h0, r0⟩ := trodAll_cons hA
  obtain ⟨rfl, rfl, rfl⟩ := trodAll_nil r0
  obtain rfl : args = #[v0] := by cases args; simp_all
  obtain ⟨rfl, rfl⟩ := trodVars_none hV
  obtain ⟨a0, len0, cap0, rfl⟩ := okWide_slice Try.underlying36 (hval 0 36 v0 rfl rfl)
  have k0 := h0
  have lt0 : ∀ x ∈ p0, x.block < W.heap.size := by obtain ⟨m, hm⟩ := k0; exact DataW.trod_lt m _ _ _ hm
  obtain ⟨hby, hm0⟩ : Bytes W a0 len0 ∧ len0 ≤ 9223372036854775807 := by
    obtain ⟨fuel, hf⟩ := h0
    rcases open_ints Try.underlying36 Try.underlying5 (by kernel_rfl) hf with ⟨hcs, _⟩ | ⟨x, l, c, zs, hcs, _, hl, hm, hz, _, hcell, hwz⟩
    · simp [Value.cells] at hcs
      obtain ⟨rfl, rfl, rfl⟩ := hcs
      exact ⟨⟨0, 0, by simp, by simp⟩, by omega⟩
    · simp [Value.cells] at hcs
      obtain ⟨rfl, rfl, rfl⟩ := hcs
      exact ⟨fnNumerals.bytes_of W x _ _ zs hl (by simpa using hz) hcell hwz, by unfold maxLen at hm; omega⟩
  clear hA0 hval0
  refine (walk a0 len0 cap0 W hby hm0).mono fun e W' ⟨he, bel⟩ => ?_
  subst he
  exact ⟨_, rfl, _, _, _, [], _, [], hW', trodAll_mk1 (shut_bool Try.underlying4 _), (trodAll_cons_mk (Below.trod laidOut (by kernel_rfl) (of_decide_eq_true (by kernel_rfl)) k0 bel lt0) trodAll_mk0), rfl, bel.frame _, fun h => by cases h⟩

theorem over : Rows.fnLispRow.holds Try.pinned (OpenSpec.ofChange Rows.fnLispSpec) :=
  OpenClaim.holds_of_wide 11 Try.f11 rfl rfl rfl rfl rfl rfl rfl ⟨rfl, rfl, rfl, rfl, rfl⟩ rfl rfl rfl rfl rfl (by kernel_rfl) Try.func11 (by kernel_rfl)
    (of_decide_eq_true (by kernel_rfl)) (by unfold Func.isWrapper; first | (rw [if_pos (by decide +kernel)]; kernel_rfl) | (rw [if_neg (by decide +kernel)]; exact ⟨rfl, rfl⟩))
    (fun os started H enc _ => lifted os started H enc)

theorem proved : Rows.FnLispSaid := over

end fnLisp
end Go.Proofs.Ytjkabbkaeioibaa
