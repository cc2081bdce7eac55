/- The program's evaluator: car and cdr. -/
import Derived.Test.YtjkabbkaeioibaaEvalDefs
import Derived.Deep.RegionHeld3
namespace Go.Proofs.Ytjkabbkaeioibaa
open Go.RowKit
set_option linter.unusedVariables false

set_option maxHeartbeats 8000000 in
set_option maxRecDepth 200000 in
theorem eval_car (fuel : Nat) (ih : EvalT fuel) (left steps B : Nat) (k1 n1 : Int) (s1 : ByteArray) (xs1 : List Tm) (a1 : Option Addr) (l1 c1 : Nat) (F1 : List Nat) (k2 n2 : Int) (s2 : ByteArray) (xs2 : List Tm) (a2 : Option Addr) (l2 c2 : Nat) (F2 : List Nat) (w : World)
    (hlf : left ≤ fuel) (hst : left + 1 ≤ steps) (h1000 : steps ≤ 1000) (hlsp : LispAt w B steps (left + 1)) (h1 : RdS w xs1 a1 l1 c1 F1) (h2 : RdS w xs2 a2 l2 c2 F2) (hB1 : B ∉ F1) (hB2 : B ∉ F2) (hok1 : (Tm.mk k1 n1 s1 xs1).ok = true) (hok2 : (Tm.mk k2 n2 s2 xs2).ok = true) (hk : k1 ≠ 2) (htl : (Tm.mk k1 n1 s1 xs1).tl.kind = 0) (xk xn : Int) (xz : ByteArray) (xas : List Tm) (yk yn : Int) (yz : ByteArray) (yas : List Tm) (hits : (Tm.mk k1 n1 s1 xs1).its = [.mk xk xn xz xas, .mk yk yn yz yas]) (hq : isSym (.mk xk xn xz xas) ⟨#[113, 117, 111, 116, 101]⟩ = false) (hc : isSym (.mk xk xn xz xas) ⟨#[99, 97, 114]⟩ = true) :
    Calls Try.prog 86 #[.pointer (some ⟨B, 0, none⟩), .agg #[.int .i64 k1, .int .i64 n1, .string s1, .slice a1 l1 c1], .agg #[.int .i64 k2, .int .i64 n2, .string s2, .slice a2 l2 c2]] w
      (EvOut w B steps F1 F2 (evStep (ev fuel) left (.mk k1 n1 s1 xs1) (.mk k2 n2 s2 xs2))) := by
  have hres : evStep (ev fuel) left (.mk k1 n1 s1 xs1) (.mk k2 n2 s2 xs2) = evSel (ev fuel left (.mk yk yn yz yas) (Tm.mk k2 n2 s2 xs2)) true := by
    rw [evStep_list (show (Tm.mk k1 n1 s1 xs1).kind ≠ 2 from hk) htl]
    rw [hits, evForm, if_neg (by simp [hq]), if_pos (.inl hc), hc]
  rw [hres]
  have HTL : Hid (((Tm.mk k1 n1 s1 xs1).tl.kind == 0) = true) := by show _ = _; simpa using htl
  clear hres htl
  obtain ⟨rR, hrR⟩ : ∃ r : Res, r = ev fuel left (.mk yk yn yz yas) (Tm.mk k2 n2 s2 xs2) := ⟨_, rfl⟩
  rw [← hrR]
  have hgood : GoodR rR left := by
    rw [hrR]; exact ev_good fuel left _ _ (its_ok hok1 _ (by rw [hits]; simp)) hok2
  have HRR := Lib.hid hrR; have HGOOD := Lib.hid hgood
  have HOKR := Lib.hid (its_ok hok1 (.mk yk yn yz yas) (by rw [hits]; simp))
  have HITS := Lib.hid hits; have HQ := Lib.hid hq; have HC := Lib.hid hc
  obtain ⟨rs, hrs⟩ : ∃ r : Res, r = evSel rR true := ⟨_, rfl⟩
  rw [← hrs]
  have HRS := Lib.hid hrs
  clear hits hq hc hrR hgood hrs
  have hk' : (k1 == 2) = false := by simpa using hk
  have IT := Lib.hid (items_impl k1 n1 s1 xs1 a1 l1 c1 F1)
  clear hk
  have hBw : B < w.heap.size := heap_lt hlsp
  have hF1 := RdS_lt h1
  have hF2 := RdS_lt h2
  obtain ⟨tk, htk⟩ : ∃ tk : Int, tk = (steps : Int) - ((left + 1 : Nat) : Int) := ⟨_, rfl⟩
  unfold LispAt at hlsp
  rw [← htk] at hlsp
  have HTK := Lib.hid htk; have HLSP := Lib.hid hlsp; have HF1 := Lib.hid hF1; have HF2 := Lib.hid hF2; have IH := Lib.hid ih
  have HH1 := Lib.hid h1; have HH2 := Lib.hid h2; have HOK1 := Lib.hid hok1; have HOK2 := Lib.hid hok2; have HB1 := Lib.hid hB1; have HB2 := Lib.hid hB2
  have htk0 : 0 ≤ tk := by omega
  have htk1 : tk ≤ 1000 := by omega
  have hne : (tk == (steps : Int)) = false := by simp; omega
  have HNE := Lib.hid hne
  clear htk hlsp hF1 hF2 ih h1 h2 hok1 hok2 hB1 hB2 hne
  go_enter Try.func86, Try.ntmps86
  go_wp2_with fail
  have hbN : Below w.heap.size w (((w.alloc (.cells #[.int .i64 k1, .int .i64 n1, .string s1, .slice a1 l1 c1] 26)).alloc (.cells #[.int .i64 k2, .int .i64 n2, .string s2, .slice a2 l2 c2] 26)).alloc (.cells #[.int .i64 0, .int .i64 0, .string ⟨#[]⟩, .slice none 0 0] 26)) := (((Below.refl _ _).alloc (Nat.le_refl _) _).alloc (by simp) _).alloc (by simp; omega) _
  have hA1 : (((w.alloc (.cells #[.int .i64 k1, .int .i64 n1, .string s1, .slice a1 l1 c1] 26)).alloc (.cells #[.int .i64 k2, .int .i64 n2, .string s2, .slice a2 l2 c2] 26)).alloc (.cells #[.int .i64 0, .int .i64 0, .string ⟨#[]⟩, .slice none 0 0] 26)).heap[w.heap.size]? = some (.cells #[.int .i64 k1, .int .i64 n1, .string s1, .slice a1 l1 c1] 26 (0, 0)) := by
    rw [heap_old (by simp; omega), heap_old (by simp)]; exact heap_new rfl
  have hA2 : (((w.alloc (.cells #[.int .i64 k1, .int .i64 n1, .string s1, .slice a1 l1 c1] 26)).alloc (.cells #[.int .i64 k2, .int .i64 n2, .string s2, .slice a2 l2 c2] 26)).alloc (.cells #[.int .i64 0, .int .i64 0, .string ⟨#[]⟩, .slice none 0 0] 26)).heap[w.heap.size + 1]? = some (.cells #[.int .i64 k2, .int .i64 n2, .string s2, .slice a2 l2 c2] 26 (0, 0)) := by
    rw [heap_old (by simp)]; exact heap_new (by simp)
  have hA3 : (((w.alloc (.cells #[.int .i64 k1, .int .i64 n1, .string s1, .slice a1 l1 c1] 26)).alloc (.cells #[.int .i64 k2, .int .i64 n2, .string s2, .slice a2 l2 c2] 26)).alloc (.cells #[.int .i64 0, .int .i64 0, .string ⟨#[]⟩, .slice none 0 0] 26)).heap[w.heap.size + 1 + 1]? = some (.cells #[.int .i64 0, .int .i64 0, .string ⟨#[]⟩, .slice none 0 0] 26 (0, 0)) := heap_new (by simp)
  have hsz : (((w.alloc (.cells #[.int .i64 k1, .int .i64 n1, .string s1, .slice a1 l1 c1] 26)).alloc (.cells #[.int .i64 k2, .int .i64 n2, .string s2, .slice a2 l2 c2] 26)).alloc (.cells #[.int .i64 0, .int .i64 0, .string ⟨#[]⟩, .slice none 0 0] 26)).heap.size = w.heap.size + 3 := by simp
  generalize (((w.alloc (.cells #[.int .i64 k1, .int .i64 n1, .string s1, .slice a1 l1 c1] 26)).alloc (.cells #[.int .i64 k2, .int .i64 n2, .string s2, .slice a2 l2 c2] 26)).alloc (.cells #[.int .i64 0, .int .i64 0, .string ⟨#[]⟩, .slice none 0 0] 26)) = W at *
  have HA1 := Lib.hid hA1; have HA2 := Lib.hid hA2; have HA3 := Lib.hid hA3; have HSZ := Lib.hid hsz
  have HBL := Lib.hid ((hbN.block _ hBw).trans HLSP.out)
  have hBW : B < W.heap.size := by omega
  obtain ⟨m0, m1, mf⟩ : W.cell? ⟨B, 0, none⟩ = some (.int .i64 (steps : Int)) ∧ W.cell? ⟨B, 1, none⟩ = some (.int .i64 tk) ∧ ∀ o, W.frozen? ⟨B, o, none⟩ = false := ⟨by simpa using cell_of_block HBL.out 0, by simpa using cell_of_block HBL.out 1, frozen_of_block HBL.out⟩
  clear hA1 hA2 hA3 hsz
  go_region_held3 (fun w' => w'.cell? ⟨B, 0, none⟩ = some (.int .i64 (steps : Int)) ∧ w'.cell? ⟨B, 1, none⟩ = some (.int .i64 tk)) (first | exact ⟨m0, m1⟩) (fail)
  have hne := HNE.out
  obtain ⟨e0, e1, e2, e3, _⟩ := box4 HA1.out
  obtain ⟨f0, f1, f2, f3, _⟩ := box4 HA2.out
  have hlt1 : w.heap.size < W.heap.size := by have := HSZ.out; omega
  have hlt2 : w.heap.size + 1 < W.heap.size := by have := HSZ.out; omega
  have hneB0 : w.heap.size ≠ B := by omega
  have hneB1 : w.heap.size + 1 ≠ B := by omega
  have hneB2 : w.heap.size + 1 + 1 ≠ B := by omega
  go_wp2_with fail
  have hFr : Fr w ((W.setCell ⟨B, 1, none⟩ (.int .i64 (tk + 1))).drew) B steps left k2 n2 s2 a2 l2 c2 := by
    refine ⟨(heap_set_other _ hneB1).trans HA2.out, (heap_set_other _ hneB2).trans HA3.out, ?_, ⟨hbN.os, hbN.tape, hbN.output, by have := HSZ.out; simp [World.setCell]; omega, fun x hx hr => (heap_set_other _ (by simpa using hr)).trans (hbN.block x hx)⟩, by have := HSZ.out; simp [World.setCell]; omega⟩
    have h0 := heap_set (o := 1) (.int .i64 (tk + 1)) HBL.out
    show (W.setCell ⟨B, 1, none⟩ (.int .i64 (tk + 1))).heap[B]? = _
    rw [h0, HTK.out]
    have he : (steps : Int) - ((left + 1 : Nat) : Int) + 1 = (steps : Int) - (left : Int) := by omega
    rw [he]; rfl
  have hrdE : RdS ((W.setCell ⟨B, 1, none⟩ (.int .i64 (tk + 1))).drew) xs1 a1 l1 c1 F1 := RdS_grown HH1.out hFr.ext (fun x hx hh => HB1.out (hh ▸ hx))
  have hrdN : RdS ((W.setCell ⟨B, 1, none⟩ (.int .i64 (tk + 1))).drew) xs2 a2 l2 c2 F2 := RdS_grown HH2.out hFr.ext (fun x hx hh => HB2.out (hh ▸ hx))
  generalize (W.setCell ⟨B, 1, none⟩ (.int .i64 (tk + 1))).drew = V at *
  have hsV := hFr.sz
  refine (IT.out V hrdE HOK1.out).mono ?_
  rintro e V1 ⟨ia, il, ic, iF, rfl, hird, hiF, hb⟩
  replace hFr := hFr.below hBw hb
  replace hrdN := RdS_ext hrdN hb
  have hGi : Gd w F1 F2 iF := fun x hx => by
    rcases hiF x hx with h' | h'
    · exact .inl h'
    · exact .inr (.inr (by omega))
  clear hiF hb hrdE e0 e1 e2 e3 f0 f1 f2 f3 m0 m1 mf
  rw [HTL.out]
  rw [HITS.out] at hird
  obtain rfl : il = 2 := hird.1
  obtain ⟨b, o, rfl⟩ := RdS_addr hird (by simp)
  have hBi : B ∉ iF := hGi.ne HB1.out HB2.out hBw
  have hbI : b ≠ B := by
    intro hh
    obtain ⟨_, _, h3⟩ := hird
    rcases h3 with ⟨h4, _⟩ | ⟨_, b', o', F', ha, hF', _⟩
    · simp at h4
    · simp at ha; apply hBi; rw [hF', ← hh, ha.1]; simp
  obtain ⟨xa, xl, xc, xF, ⟨x0, x1, x2, x3⟩, hrx, hxF, hblx⟩ := RdS_el0 hird rfl
  go_wp2_with fail
  refine (isSymbol_any xk xn xz xas xa xl xc _ V1).mono ?_
  rintro e V2 ⟨rfl, hb⟩
  rw [HQ.out]
  replace hFr := hFr.below hBw hb
  replace hrdN := RdS_ext hrdN hb
  replace hird := RdS_ext hird hb
  clear x0 x1 x2 x3 hrx hxF hblx
  clear hb
  obtain ⟨xa, xl, xc, xF, ⟨x0, x1, x2, x3⟩, hrx, hxF, hblx⟩ := RdS_el0 hird rfl
  go_wp2_with fail
  refine (isSymbol_any xk xn xz xas xa xl xc _ V2).mono ?_
  rintro e V3 ⟨rfl, hb⟩
  rw [HC.out]
  replace hFr := hFr.below hBw hb
  replace hrdN := RdS_ext hrdN hb
  replace hird := RdS_ext hird hb
  clear x0 x1 x2 x3 hrx hxF hblx
  clear hb
  obtain ⟨ya, yl, yc, yF, ⟨y0, y1, y2, y3⟩, hry, hyF, hbly⟩ := RdS_el1 hird rfl
  obtain ⟨f0, f1, f2, f3, fl⟩ := hFr.env
  go_upto_region 30 with fail
  go_cut [18, 19] (fun s6 s7 wx => s7 = .int .i64 (rR.2.1 : Int) ∧ EvRes V3 B steps w F1 F2 rR s6 wx)
  case first => as_aux_lemma =>
    have hGe := hGi.sub hyF
    have hBe : B ∉ yF := hGe.ne HB1.out HB2.out hBw
    have hBV : B < V3.heap.size := heap_lt hFr.lsp
    have HFR := Lib.hid hFr
    have hbd : Below V3.heap.size V3 V3.drew := (Below.refl _ _).drew
    have hbz : Below V3.heap.size V3 (V3.alloc (.cells #[.int .i64 0, .int .i64 0, .string ⟨#[]⟩, .slice none 0 0] 26)).drew := ((Below.refl _ _).alloc (Nat.le_refl _) _).drew
    have hbz' : Below V3.heap.size V3 (V3.alloc (.cells #[.int .i64 0, .int .i64 0, .string ⟨#[]⟩, .slice none 0 0] 26)) := (Below.refl _ _).alloc (Nat.le_refl _) _
    have CE := Lib.hid (IH.out left steps B yk yn yz yas ya yl yc yF k2 n2 s2 xs2 a2 l2 c2 F2)
    rw [← HRR.out] at CE
    have HS : Hid (El8 b (o + 4) (w.heap.size + 1) (.int .i64 yk) (.int .i64 yn) (.string yz) (.slice ya yl yc) (.int .i64 k2) (.int .i64 n2) (.string s2) (.slice a2 l2 c2) V3) := ⟨y0, y1, y2, y3, f0, f1, f2, f3⟩
    have hsV1 := hFr.sz
    have hne5 : w.heap.size + 1 ≠ B := by omega
    have hneV : b ≠ V3.heap.size := by omega
    have hne5V : w.heap.size + 1 ≠ V3.heap.size := by omega
    have hlF : ∀ x ∈ yF, x < V3.heap.size := RdS_lt hry
    have hlN : ∀ x ∈ F2, x < V3.heap.size := fun x hx => by have := HF2.out x hx; omega
    have HLF := Lib.hid hlF; have HLN := Lib.hid hlN
    clear hlF hlN
    go_region_held3 (fun w' => w'.cell? ⟨b, o + 4, none⟩ = some (.int .i64 yk) ∧ w'.cell? ⟨b, o + 4 + 1, none⟩ = some (.int .i64 yn) ∧ w'.cell? ⟨b, o + 4 + 2, none⟩ = some (.string yz) ∧ w'.cell? ⟨b, o + 4 + 3, none⟩ = some (.slice ya yl yc) ∧ w'.cell? ⟨w.heap.size + 1, 0, none⟩ = some (.int .i64 k2) ∧ w'.cell? ⟨w.heap.size + 1, 1, none⟩ = some (.int .i64 n2) ∧ w'.cell? ⟨w.heap.size + 1, 2, none⟩ = some (.string s2) ∧ w'.cell? ⟨w.heap.size + 1, 3, none⟩ = some (.slice a2 l2 c2))
      (first | with_reducible exact El8.same (hbd.block _ hbly) (hbd.block _ fl) HS.out | with_reducible exact El8.same (hbz.block _ hbly) (hbz.block _ fl) HS.out | with_reducible exact El8.same (hg.block _ hbly (by simpa using hbI)) (hg.block _ fl (by simpa using hne5)) HS.out | with_reducible exact El8.same ((heap_old (Nat.lt_of_lt_of_le hbly hg.size)).trans (hg.block _ hbly (by simpa using hbI))) ((heap_old (Nat.lt_of_lt_of_le fl hg.size)).trans (hg.block _ fl (by simpa using hne5))) HS.out | with_reducible exact El8.same ((heap_set4_other hneV).trans (hg.block _ hbly (by simpa using hbI))) ((heap_set4_other hne5V).trans (hg.block _ fl (by simpa using hne5))) HS.out)
      (first | (go_at_call 86; (with_reducible refine (CE.out _ (by omega) (by omega) h1000 ?_ ?_ ?_ hBe HB2.out ?_ HOK2.out).mono ?_); (first | exact lisp_below hbd hBV HFR.out.lsp | exact lisp_below hbz hBV HFR.out.lsp); (first | exact RdS_ext hry hbd | exact RdS_ext hry hbz); (first | exact RdS_ext hrdN hbd | exact RdS_ext hrdN hbz); exact HOKR.out; rintro e w5 ⟨k9, n9, z9, xs9, a9, l9, c9, F9, hr9, rfl, hrd9, hF9, hg9, hl9⟩; (first | (have hg : V3.grownBy w5 (some B) := grown_trans (grown_below hbd _) hg9) | (have hg : V3.grownBy w5 (some B) := grown_trans (grown_below hbz _) hg9)); have hG9 : Gd w F1 F2 F9 := (fun x hx => by rcases hF9 x hx with h' | h' | h'; exact hGe x h'; exact .inr (.inl h'); simp at h'; exact .inr (.inr (by omega))); (try (have hz : w5.heap[V3.heap.size]? = some (.cells #[.int .i64 0, .int .i64 0, .string ⟨#[]⟩, .slice none 0 0] 26 (0, 0)) := (hg9.block _ (by simp) (by simp; omega)).trans (heap_new rfl); obtain ⟨z0, z1, z2, z3, zf⟩ := box4 hz; have hzl := heap_lt hz; have HZ := Lib.hid hz; clear hz; have hne9 : ∀ x ∈ F9, x ≠ V3.heap.size := (fun x hx => by rcases hF9 x hx with h' | h' | h'; (have := HLF.out x h'; omega); (have := HLN.out x h'; omega); (simp at h'; omega))))))
    all_goals (go_wp2_with fail; go_meet; first | exact ⟨rfl, EvRes_new hr9 hrd9 hG9 hg hl9⟩ | exact ⟨rfl, EvRes_set hr9 hrd9 hG9 hg hl9 (Nat.le_refl _) HZ.out hne9 (by omega)⟩)
  case rest =>
    obtain ⟨rfl, BR, kR, nR, zR, xsR, aR, lR, cR, FR, rfl, hrR, hbxR, hGR, hg, hl, hBvR⟩ := hcut
    obtain ⟨V4, hVV⟩ : ∃ x : World, x = wc := ⟨_, rfl⟩
    subst hVV
    have hszV := hFr.sz
    replace hFr := hFr.grown hBw hg hl
    replace hrdN := RdS_grown hrdN hg (fun x hx hh => HB2.out (hh ▸ hx))
    replace hird := RdS_grown hird hg (fun x hx hh => hBi (hh ▸ hx))
    clear f0 f1 f2 f3 fl
    clear y0 y1 y2 y3 hry hyF hbly
    obtain ⟨r0, r1, r2, r3, rf, rl⟩ := hFr.res
    obtain ⟨g0, g1, g2, g3, gl⟩ := hbxR.cells
    by_cases hc0 : rR.2.1 = 0
    case neg =>
      have hd : ((rR.2.1 : Int) != 0) = true := by simp; omega
      have HE : Hid (rs = failV rR) := by show _ = _; rw [HRS.out, evSel, if_pos hc0]
      clear hc0
      generalize hcd : (rR.2.1 : Int) = cd at *
      have HCD := Lib.hid hcd; clear hcd
      go_wp2
      rw [HE.out]
      exact bodyPost_ret (v := .tuple #[.agg #[.int .i64 0, .int .i64 0, .string ⟨#[]⟩, .slice none 0 0], .int .i64 cd]) (results_term2 rfl _ _ (w.heap.size + 1 + 1) rfl rfl (heap_set4 hFr.b6)) rfl (EvOut_nil (r := failV rR) hFr hBw HF1.out HF2.out rfl HCD.out.symm rfl)
    have HC0 := Lib.hid hc0
    have hd : ((rR.2.1 : Int) != 0) = false := by simp [hc0]
    clear hc0
    have hwR := (ok_wf HGOOD.out.ok).1
    rw [hrR] at hwR
    generalize (rR.2.1 : Int) = cd at *
    by_cases hkR : kR = 4
    case neg =>
      have hkd : (kR != 4) = true := by simpa using hkR
      have HE : Hid (rs = stuck rR.2.2) := by
        show _ = _
        rw [HRS.out, evSel, if_neg (by simp [HC0.out]), hrR]
        rcases wf_split hwR with ⟨_, rfl⟩ | ⟨h', _⟩
        · rfl
        · exact absurd h' hkR
      clear hkR hwR
      go_wp2
      rw [HE.out]
      exact bodyPost_ret (v := .tuple #[.agg #[.int .i64 0, .int .i64 0, .string ⟨#[]⟩, .slice none 0 0], .int .i64 1]) (results_term2 rfl _ _ (w.heap.size + 1 + 1) rfl rfl (heap_set4 hFr.b6)) rfl (EvOut_nil (r := stuck rR.2.2) hFr hBw HF1.out HF2.out rfl rfl rfl)
    subst hkR
    obtain ⟨rfl, hs0, pa, pb, rfl, hpa, hpb⟩ := wf_four hwR
    obtain rfl := ba_empty hs0
    have hbr := hbxR.rd
    obtain ⟨b', o', uk, un, uz, uas, ua, ul, uc, G3, vk, vn, vz, vas, va, vl, vc, G4, huv, rfl, rfl, hblt', ⟨u0, u1, u2, u3⟩, ⟨v0, v1, v2, v3⟩, hru, hrv⟩ := RdS_pair hbr hbr.1
    obtain ⟨rfl, rfl⟩ : pa = .mk uk un uz uas ∧ pb = .mk vk vn vz vas := by simpa using huv
    obtain rfl : lR = 2 := hbr.1
    have HE : Hid (rs = (.mk uk un uz uas, 0, rR.2.2)) := by
      show _ = _
      rw [HRS.out, evSel, if_neg (by simp [HC0.out]), hrR]
      rfl
    clear hwR hs0 hpa hpb huv hbr
    obtain ⟨xa, xl, xc, xF, ⟨x0, x1, x2, x3⟩, hrx, hxF, hblx⟩ := RdS_el0 hird rfl
    have hnm := (isSym_name HC.out).2
    have hnm2 : (xz.toList == [99, 97, 114]) = true := by simpa [ByteArray.toList_eq] using hnm
    go_wp2
    rw [HE.out]
    exact bodyPost_ret (v := .tuple #[.agg #[.int .i64 uk, .int .i64 un, .string uz, .slice ua ul uc], .int .i64 0]) (results_term2 rfl _ _ (w.heap.size + 1 + 1) rfl rfl (heap_set4 hFr.b6)) rfl (EvOut_set (r := (.mk uk un uz uas, 0, rR.2.2)) hFr hBw HF1.out HF2.out rfl rfl rfl hru (hGR.sub (fun x hx => by simp [hx])))

set_option maxHeartbeats 8000000 in
set_option maxRecDepth 200000 in
theorem eval_cdr (fuel : Nat) (ih : EvalT fuel) (left steps B : Nat) (k1 n1 : Int) (s1 : ByteArray) (xs1 : List Tm) (a1 : Option Addr) (l1 c1 : Nat) (F1 : List Nat) (k2 n2 : Int) (s2 : ByteArray) (xs2 : List Tm) (a2 : Option Addr) (l2 c2 : Nat) (F2 : List Nat) (w : World)
    (hlf : left ≤ fuel) (hst : left + 1 ≤ steps) (h1000 : steps ≤ 1000) (hlsp : LispAt w B steps (left + 1)) (h1 : RdS w xs1 a1 l1 c1 F1) (h2 : RdS w xs2 a2 l2 c2 F2) (hB1 : B ∉ F1) (hB2 : B ∉ F2) (hok1 : (Tm.mk k1 n1 s1 xs1).ok = true) (hok2 : (Tm.mk k2 n2 s2 xs2).ok = true) (hk : k1 ≠ 2) (htl : (Tm.mk k1 n1 s1 xs1).tl.kind = 0) (xk xn : Int) (xz : ByteArray) (xas : List Tm) (yk yn : Int) (yz : ByteArray) (yas : List Tm) (hits : (Tm.mk k1 n1 s1 xs1).its = [.mk xk xn xz xas, .mk yk yn yz yas]) (hq : isSym (.mk xk xn xz xas) ⟨#[113, 117, 111, 116, 101]⟩ = false) (hc : isSym (.mk xk xn xz xas) ⟨#[99, 97, 114]⟩ = false) (hd : isSym (.mk xk xn xz xas) ⟨#[99, 100, 114]⟩ = true) :
    Calls Try.prog 86 #[.pointer (some ⟨B, 0, none⟩), .agg #[.int .i64 k1, .int .i64 n1, .string s1, .slice a1 l1 c1], .agg #[.int .i64 k2, .int .i64 n2, .string s2, .slice a2 l2 c2]] w
      (EvOut w B steps F1 F2 (evStep (ev fuel) left (.mk k1 n1 s1 xs1) (.mk k2 n2 s2 xs2))) := by
  have hres : evStep (ev fuel) left (.mk k1 n1 s1 xs1) (.mk k2 n2 s2 xs2) = evSel (ev fuel left (.mk yk yn yz yas) (Tm.mk k2 n2 s2 xs2)) false := by
    rw [evStep_list (show (Tm.mk k1 n1 s1 xs1).kind ≠ 2 from hk) htl]
    rw [hits, evForm, if_neg (by simp [hq]), if_pos (.inr hd), hc]
  rw [hres]
  have HTL : Hid (((Tm.mk k1 n1 s1 xs1).tl.kind == 0) = true) := by show _ = _; simpa using htl
  clear hres htl
  obtain ⟨rR, hrR⟩ : ∃ r : Res, r = ev fuel left (.mk yk yn yz yas) (Tm.mk k2 n2 s2 xs2) := ⟨_, rfl⟩
  rw [← hrR]
  have hgood : GoodR rR left := by
    rw [hrR]; exact ev_good fuel left _ _ (its_ok hok1 _ (by rw [hits]; simp)) hok2
  have HRR := Lib.hid hrR; have HGOOD := Lib.hid hgood
  have HOKR := Lib.hid (its_ok hok1 (.mk yk yn yz yas) (by rw [hits]; simp))
  have HITS := Lib.hid hits; have HQ := Lib.hid hq; have HC := Lib.hid hc
  obtain ⟨rs, hrs⟩ : ∃ r : Res, r = evSel rR false := ⟨_, rfl⟩
  rw [← hrs]
  have HRS := Lib.hid hrs
  clear hits hq hc hrR hgood hrs
  have HD := Lib.hid hd
  clear hd
  have hk' : (k1 == 2) = false := by simpa using hk
  have IT := Lib.hid (items_impl k1 n1 s1 xs1 a1 l1 c1 F1)
  clear hk
  have hBw : B < w.heap.size := heap_lt hlsp
  have hF1 := RdS_lt h1
  have hF2 := RdS_lt h2
  obtain ⟨tk, htk⟩ : ∃ tk : Int, tk = (steps : Int) - ((left + 1 : Nat) : Int) := ⟨_, rfl⟩
  unfold LispAt at hlsp
  rw [← htk] at hlsp
  have HTK := Lib.hid htk; have HLSP := Lib.hid hlsp; have HF1 := Lib.hid hF1; have HF2 := Lib.hid hF2; have IH := Lib.hid ih
  have HH1 := Lib.hid h1; have HH2 := Lib.hid h2; have HOK1 := Lib.hid hok1; have HOK2 := Lib.hid hok2; have HB1 := Lib.hid hB1; have HB2 := Lib.hid hB2
  have htk0 : 0 ≤ tk := by omega
  have htk1 : tk ≤ 1000 := by omega
  have hne : (tk == (steps : Int)) = false := by simp; omega
  have HNE := Lib.hid hne
  clear htk hlsp hF1 hF2 ih h1 h2 hok1 hok2 hB1 hB2 hne
  go_enter Try.func86, Try.ntmps86
  go_wp2_with fail
  have hbN : Below w.heap.size w (((w.alloc (.cells #[.int .i64 k1, .int .i64 n1, .string s1, .slice a1 l1 c1] 26)).alloc (.cells #[.int .i64 k2, .int .i64 n2, .string s2, .slice a2 l2 c2] 26)).alloc (.cells #[.int .i64 0, .int .i64 0, .string ⟨#[]⟩, .slice none 0 0] 26)) := (((Below.refl _ _).alloc (Nat.le_refl _) _).alloc (by simp) _).alloc (by simp; omega) _
  have hA1 : (((w.alloc (.cells #[.int .i64 k1, .int .i64 n1, .string s1, .slice a1 l1 c1] 26)).alloc (.cells #[.int .i64 k2, .int .i64 n2, .string s2, .slice a2 l2 c2] 26)).alloc (.cells #[.int .i64 0, .int .i64 0, .string ⟨#[]⟩, .slice none 0 0] 26)).heap[w.heap.size]? = some (.cells #[.int .i64 k1, .int .i64 n1, .string s1, .slice a1 l1 c1] 26 (0, 0)) := by
    rw [heap_old (by simp; omega), heap_old (by simp)]; exact heap_new rfl
  have hA2 : (((w.alloc (.cells #[.int .i64 k1, .int .i64 n1, .string s1, .slice a1 l1 c1] 26)).alloc (.cells #[.int .i64 k2, .int .i64 n2, .string s2, .slice a2 l2 c2] 26)).alloc (.cells #[.int .i64 0, .int .i64 0, .string ⟨#[]⟩, .slice none 0 0] 26)).heap[w.heap.size + 1]? = some (.cells #[.int .i64 k2, .int .i64 n2, .string s2, .slice a2 l2 c2] 26 (0, 0)) := by
    rw [heap_old (by simp)]; exact heap_new (by simp)
  have hA3 : (((w.alloc (.cells #[.int .i64 k1, .int .i64 n1, .string s1, .slice a1 l1 c1] 26)).alloc (.cells #[.int .i64 k2, .int .i64 n2, .string s2, .slice a2 l2 c2] 26)).alloc (.cells #[.int .i64 0, .int .i64 0, .string ⟨#[]⟩, .slice none 0 0] 26)).heap[w.heap.size + 1 + 1]? = some (.cells #[.int .i64 0, .int .i64 0, .string ⟨#[]⟩, .slice none 0 0] 26 (0, 0)) := heap_new (by simp)
  have hsz : (((w.alloc (.cells #[.int .i64 k1, .int .i64 n1, .string s1, .slice a1 l1 c1] 26)).alloc (.cells #[.int .i64 k2, .int .i64 n2, .string s2, .slice a2 l2 c2] 26)).alloc (.cells #[.int .i64 0, .int .i64 0, .string ⟨#[]⟩, .slice none 0 0] 26)).heap.size = w.heap.size + 3 := by simp
  generalize (((w.alloc (.cells #[.int .i64 k1, .int .i64 n1, .string s1, .slice a1 l1 c1] 26)).alloc (.cells #[.int .i64 k2, .int .i64 n2, .string s2, .slice a2 l2 c2] 26)).alloc (.cells #[.int .i64 0, .int .i64 0, .string ⟨#[]⟩, .slice none 0 0] 26)) = W at *
  have HA1 := Lib.hid hA1; have HA2 := Lib.hid hA2; have HA3 := Lib.hid hA3; have HSZ := Lib.hid hsz
  have HBL := Lib.hid ((hbN.block _ hBw).trans HLSP.out)
  have hBW : B < W.heap.size := by omega
  obtain ⟨m0, m1, mf⟩ : W.cell? ⟨B, 0, none⟩ = some (.int .i64 (steps : Int)) ∧ W.cell? ⟨B, 1, none⟩ = some (.int .i64 tk) ∧ ∀ o, W.frozen? ⟨B, o, none⟩ = false := ⟨by simpa using cell_of_block HBL.out 0, by simpa using cell_of_block HBL.out 1, frozen_of_block HBL.out⟩
  clear hA1 hA2 hA3 hsz
  go_region_held3 (fun w' => w'.cell? ⟨B, 0, none⟩ = some (.int .i64 (steps : Int)) ∧ w'.cell? ⟨B, 1, none⟩ = some (.int .i64 tk)) (first | exact ⟨m0, m1⟩) (fail)
  have hne := HNE.out
  obtain ⟨e0, e1, e2, e3, _⟩ := box4 HA1.out
  obtain ⟨f0, f1, f2, f3, _⟩ := box4 HA2.out
  have hlt1 : w.heap.size < W.heap.size := by have := HSZ.out; omega
  have hlt2 : w.heap.size + 1 < W.heap.size := by have := HSZ.out; omega
  have hneB0 : w.heap.size ≠ B := by omega
  have hneB1 : w.heap.size + 1 ≠ B := by omega
  have hneB2 : w.heap.size + 1 + 1 ≠ B := by omega
  go_wp2_with fail
  have hFr : Fr w ((W.setCell ⟨B, 1, none⟩ (.int .i64 (tk + 1))).drew) B steps left k2 n2 s2 a2 l2 c2 := by
    refine ⟨(heap_set_other _ hneB1).trans HA2.out, (heap_set_other _ hneB2).trans HA3.out, ?_, ⟨hbN.os, hbN.tape, hbN.output, by have := HSZ.out; simp [World.setCell]; omega, fun x hx hr => (heap_set_other _ (by simpa using hr)).trans (hbN.block x hx)⟩, by have := HSZ.out; simp [World.setCell]; omega⟩
    have h0 := heap_set (o := 1) (.int .i64 (tk + 1)) HBL.out
    show (W.setCell ⟨B, 1, none⟩ (.int .i64 (tk + 1))).heap[B]? = _
    rw [h0, HTK.out]
    have he : (steps : Int) - ((left + 1 : Nat) : Int) + 1 = (steps : Int) - (left : Int) := by omega
    rw [he]; rfl
  have hrdE : RdS ((W.setCell ⟨B, 1, none⟩ (.int .i64 (tk + 1))).drew) xs1 a1 l1 c1 F1 := RdS_grown HH1.out hFr.ext (fun x hx hh => HB1.out (hh ▸ hx))
  have hrdN : RdS ((W.setCell ⟨B, 1, none⟩ (.int .i64 (tk + 1))).drew) xs2 a2 l2 c2 F2 := RdS_grown HH2.out hFr.ext (fun x hx hh => HB2.out (hh ▸ hx))
  generalize (W.setCell ⟨B, 1, none⟩ (.int .i64 (tk + 1))).drew = V at *
  have hsV := hFr.sz
  refine (IT.out V hrdE HOK1.out).mono ?_
  rintro e V1 ⟨ia, il, ic, iF, rfl, hird, hiF, hb⟩
  replace hFr := hFr.below hBw hb
  replace hrdN := RdS_ext hrdN hb
  have hGi : Gd w F1 F2 iF := fun x hx => by
    rcases hiF x hx with h' | h'
    · exact .inl h'
    · exact .inr (.inr (by omega))
  clear hiF hb hrdE e0 e1 e2 e3 f0 f1 f2 f3 m0 m1 mf
  rw [HTL.out]
  rw [HITS.out] at hird
  obtain rfl : il = 2 := hird.1
  obtain ⟨b, o, rfl⟩ := RdS_addr hird (by simp)
  have hBi : B ∉ iF := hGi.ne HB1.out HB2.out hBw
  have hbI : b ≠ B := by
    intro hh
    obtain ⟨_, _, h3⟩ := hird
    rcases h3 with ⟨h4, _⟩ | ⟨_, b', o', F', ha, hF', _⟩
    · simp at h4
    · simp at ha; apply hBi; rw [hF', ← hh, ha.1]; simp
  obtain ⟨xa, xl, xc, xF, ⟨x0, x1, x2, x3⟩, hrx, hxF, hblx⟩ := RdS_el0 hird rfl
  go_wp2_with fail
  refine (isSymbol_any xk xn xz xas xa xl xc _ V1).mono ?_
  rintro e V2 ⟨rfl, hb⟩
  rw [HQ.out]
  replace hFr := hFr.below hBw hb
  replace hrdN := RdS_ext hrdN hb
  replace hird := RdS_ext hird hb
  clear x0 x1 x2 x3 hrx hxF hblx
  clear hb
  obtain ⟨xa, xl, xc, xF, ⟨x0, x1, x2, x3⟩, hrx, hxF, hblx⟩ := RdS_el0 hird rfl
  go_wp2_with fail
  refine (isSymbol_any xk xn xz xas xa xl xc _ V2).mono ?_
  rintro e V3 ⟨rfl, hb⟩
  rw [HC.out]
  replace hFr := hFr.below hBw hb
  replace hrdN := RdS_ext hrdN hb
  replace hird := RdS_ext hird hb
  clear x0 x1 x2 x3 hrx hxF hblx
  clear hb
  obtain ⟨xa, xl, xc, xF, ⟨x0, x1, x2, x3⟩, hrx, hxF, hblx⟩ := RdS_el0 hird rfl
  go_wp2_with fail
  refine (isSymbol_any xk xn xz xas xa xl xc _ V3).mono ?_
  rintro e V4 ⟨rfl, hb⟩
  rw [HD.out]
  replace hFr := hFr.below hBw hb
  replace hrdN := RdS_ext hrdN hb
  replace hird := RdS_ext hird hb
  clear x0 x1 x2 x3 hrx hxF hblx
  clear hb
  obtain ⟨ya, yl, yc, yF, ⟨y0, y1, y2, y3⟩, hry, hyF, hbly⟩ := RdS_el1 hird rfl
  obtain ⟨f0, f1, f2, f3, fl⟩ := hFr.env
  go_upto_region 30 with fail
  go_cut [18, 19] (fun s6 s7 wx => s7 = .int .i64 (rR.2.1 : Int) ∧ EvRes V4 B steps w F1 F2 rR s6 wx)
  case first => as_aux_lemma =>
    have hGe := hGi.sub hyF
    have hBe : B ∉ yF := hGe.ne HB1.out HB2.out hBw
    have hBV : B < V4.heap.size := heap_lt hFr.lsp
    have HFR := Lib.hid hFr
    have hbd : Below V4.heap.size V4 V4.drew := (Below.refl _ _).drew
    have hbz : Below V4.heap.size V4 (V4.alloc (.cells #[.int .i64 0, .int .i64 0, .string ⟨#[]⟩, .slice none 0 0] 26)).drew := ((Below.refl _ _).alloc (Nat.le_refl _) _).drew
    have hbz' : Below V4.heap.size V4 (V4.alloc (.cells #[.int .i64 0, .int .i64 0, .string ⟨#[]⟩, .slice none 0 0] 26)) := (Below.refl _ _).alloc (Nat.le_refl _) _
    have CE := Lib.hid (IH.out left steps B yk yn yz yas ya yl yc yF k2 n2 s2 xs2 a2 l2 c2 F2)
    rw [← HRR.out] at CE
    have HS : Hid (El8 b (o + 4) (w.heap.size + 1) (.int .i64 yk) (.int .i64 yn) (.string yz) (.slice ya yl yc) (.int .i64 k2) (.int .i64 n2) (.string s2) (.slice a2 l2 c2) V4) := ⟨y0, y1, y2, y3, f0, f1, f2, f3⟩
    have hsV1 := hFr.sz
    have hne5 : w.heap.size + 1 ≠ B := by omega
    have hneV : b ≠ V4.heap.size := by omega
    have hne5V : w.heap.size + 1 ≠ V4.heap.size := by omega
    have hlF : ∀ x ∈ yF, x < V4.heap.size := RdS_lt hry
    have hlN : ∀ x ∈ F2, x < V4.heap.size := fun x hx => by have := HF2.out x hx; omega
    have HLF := Lib.hid hlF; have HLN := Lib.hid hlN
    clear hlF hlN
    go_region_held3 (fun w' => w'.cell? ⟨b, o + 4, none⟩ = some (.int .i64 yk) ∧ w'.cell? ⟨b, o + 4 + 1, none⟩ = some (.int .i64 yn) ∧ w'.cell? ⟨b, o + 4 + 2, none⟩ = some (.string yz) ∧ w'.cell? ⟨b, o + 4 + 3, none⟩ = some (.slice ya yl yc) ∧ w'.cell? ⟨w.heap.size + 1, 0, none⟩ = some (.int .i64 k2) ∧ w'.cell? ⟨w.heap.size + 1, 1, none⟩ = some (.int .i64 n2) ∧ w'.cell? ⟨w.heap.size + 1, 2, none⟩ = some (.string s2) ∧ w'.cell? ⟨w.heap.size + 1, 3, none⟩ = some (.slice a2 l2 c2))
      (first | with_reducible exact El8.same (hbd.block _ hbly) (hbd.block _ fl) HS.out | with_reducible exact El8.same (hbz.block _ hbly) (hbz.block _ fl) HS.out | with_reducible exact El8.same (hg.block _ hbly (by simpa using hbI)) (hg.block _ fl (by simpa using hne5)) HS.out | with_reducible exact El8.same ((heap_old (Nat.lt_of_lt_of_le hbly hg.size)).trans (hg.block _ hbly (by simpa using hbI))) ((heap_old (Nat.lt_of_lt_of_le fl hg.size)).trans (hg.block _ fl (by simpa using hne5))) HS.out | with_reducible exact El8.same ((heap_set4_other hneV).trans (hg.block _ hbly (by simpa using hbI))) ((heap_set4_other hne5V).trans (hg.block _ fl (by simpa using hne5))) HS.out)
      (first | (go_at_call 86; (with_reducible refine (CE.out _ (by omega) (by omega) h1000 ?_ ?_ ?_ hBe HB2.out ?_ HOK2.out).mono ?_); (first | exact lisp_below hbd hBV HFR.out.lsp | exact lisp_below hbz hBV HFR.out.lsp); (first | exact RdS_ext hry hbd | exact RdS_ext hry hbz); (first | exact RdS_ext hrdN hbd | exact RdS_ext hrdN hbz); exact HOKR.out; rintro e w5 ⟨k9, n9, z9, xs9, a9, l9, c9, F9, hr9, rfl, hrd9, hF9, hg9, hl9⟩; (first | (have hg : V4.grownBy w5 (some B) := grown_trans (grown_below hbd _) hg9) | (have hg : V4.grownBy w5 (some B) := grown_trans (grown_below hbz _) hg9)); have hG9 : Gd w F1 F2 F9 := (fun x hx => by rcases hF9 x hx with h' | h' | h'; exact hGe x h'; exact .inr (.inl h'); simp at h'; exact .inr (.inr (by omega))); (try (have hz : w5.heap[V4.heap.size]? = some (.cells #[.int .i64 0, .int .i64 0, .string ⟨#[]⟩, .slice none 0 0] 26 (0, 0)) := (hg9.block _ (by simp) (by simp; omega)).trans (heap_new rfl); obtain ⟨z0, z1, z2, z3, zf⟩ := box4 hz; have hzl := heap_lt hz; have HZ := Lib.hid hz; clear hz; have hne9 : ∀ x ∈ F9, x ≠ V4.heap.size := (fun x hx => by rcases hF9 x hx with h' | h' | h'; (have := HLF.out x h'; omega); (have := HLN.out x h'; omega); (simp at h'; omega))))))
    all_goals (go_wp2_with fail; go_meet; first | exact ⟨rfl, EvRes_new hr9 hrd9 hG9 hg hl9⟩ | exact ⟨rfl, EvRes_set hr9 hrd9 hG9 hg hl9 (Nat.le_refl _) HZ.out hne9 (by omega)⟩)
  case rest =>
    obtain ⟨rfl, BR, kR, nR, zR, xsR, aR, lR, cR, FR, rfl, hrR, hbxR, hGR, hg, hl, hBvR⟩ := hcut
    obtain ⟨V5, hVV⟩ : ∃ x : World, x = wc := ⟨_, rfl⟩
    subst hVV
    have hszV := hFr.sz
    replace hFr := hFr.grown hBw hg hl
    replace hrdN := RdS_grown hrdN hg (fun x hx hh => HB2.out (hh ▸ hx))
    replace hird := RdS_grown hird hg (fun x hx hh => hBi (hh ▸ hx))
    clear f0 f1 f2 f3 fl
    clear y0 y1 y2 y3 hry hyF hbly
    obtain ⟨r0, r1, r2, r3, rf, rl⟩ := hFr.res
    obtain ⟨g0, g1, g2, g3, gl⟩ := hbxR.cells
    by_cases hc0 : rR.2.1 = 0
    case neg =>
      have hd : ((rR.2.1 : Int) != 0) = true := by simp; omega
      have HE : Hid (rs = failV rR) := by show _ = _; rw [HRS.out, evSel, if_pos hc0]
      clear hc0
      generalize hcd : (rR.2.1 : Int) = cd at *
      have HCD := Lib.hid hcd; clear hcd
      go_wp2
      rw [HE.out]
      exact bodyPost_ret (v := .tuple #[.agg #[.int .i64 0, .int .i64 0, .string ⟨#[]⟩, .slice none 0 0], .int .i64 cd]) (results_term2 rfl _ _ (w.heap.size + 1 + 1) rfl rfl (heap_set4 hFr.b6)) rfl (EvOut_nil (r := failV rR) hFr hBw HF1.out HF2.out rfl HCD.out.symm rfl)
    have HC0 := Lib.hid hc0
    have hd : ((rR.2.1 : Int) != 0) = false := by simp [hc0]
    clear hc0
    have hwR := (ok_wf HGOOD.out.ok).1
    rw [hrR] at hwR
    generalize (rR.2.1 : Int) = cd at *
    by_cases hkR : kR = 4
    case neg =>
      have hkd : (kR != 4) = true := by simpa using hkR
      have HE : Hid (rs = stuck rR.2.2) := by
        show _ = _
        rw [HRS.out, evSel, if_neg (by simp [HC0.out]), hrR]
        rcases wf_split hwR with ⟨_, rfl⟩ | ⟨h', _⟩
        · rfl
        · exact absurd h' hkR
      clear hkR hwR
      go_wp2
      rw [HE.out]
      exact bodyPost_ret (v := .tuple #[.agg #[.int .i64 0, .int .i64 0, .string ⟨#[]⟩, .slice none 0 0], .int .i64 1]) (results_term2 rfl _ _ (w.heap.size + 1 + 1) rfl rfl (heap_set4 hFr.b6)) rfl (EvOut_nil (r := stuck rR.2.2) hFr hBw HF1.out HF2.out rfl rfl rfl)
    subst hkR
    obtain ⟨rfl, hs0, pa, pb, rfl, hpa, hpb⟩ := wf_four hwR
    obtain rfl := ba_empty hs0
    have hbr := hbxR.rd
    obtain ⟨b', o', uk, un, uz, uas, ua, ul, uc, G3, vk, vn, vz, vas, va, vl, vc, G4, huv, rfl, rfl, hblt', ⟨u0, u1, u2, u3⟩, ⟨v0, v1, v2, v3⟩, hru, hrv⟩ := RdS_pair hbr hbr.1
    obtain ⟨rfl, rfl⟩ : pa = .mk uk un uz uas ∧ pb = .mk vk vn vz vas := by simpa using huv
    obtain rfl : lR = 2 := hbr.1
    have HE : Hid (rs = (.mk vk vn vz vas, 0, rR.2.2)) := by
      show _ = _
      rw [HRS.out, evSel, if_neg (by simp [HC0.out]), hrR]
      rfl
    clear hwR hs0 hpa hpb huv hbr
    obtain ⟨xa, xl, xc, xF, ⟨x0, x1, x2, x3⟩, hrx, hxF, hblx⟩ := RdS_el0 hird rfl
    have hnm := (isSym_other (b' := ⟨#[99, 97, 114]⟩) HD.out (by decide +kernel)).2
    have hnm2 : (xz.toList == [99, 97, 114]) = false := by simpa [ByteArray.toList_eq] using hnm
    go_wp2
    rw [HE.out]
    exact bodyPost_ret (v := .tuple #[.agg #[.int .i64 vk, .int .i64 vn, .string vz, .slice va vl vc], .int .i64 0]) (results_term2 rfl _ _ (w.heap.size + 1 + 1) rfl rfl (heap_set4 hFr.b6)) rfl (EvOut_set (r := (.mk vk vn vz vas, 0, rR.2.2)) hFr hBw HF1.out HF2.out rfl rfl rfl hrv (hGR.sub (fun x hx => by simp [hx])))
end Go.Proofs.Ytjkabbkaeioibaa
