/- The program's evaluator: an application of a closure. -/
import Derived.Test.YtjkabbkaeioibaaEvalDefs
import Derived.Deep.RegionHeld3
namespace Go.Proofs.Ytjkabbkaeioibaa
open Go.RowKit
set_option linter.unusedVariables false

set_option maxHeartbeats 8000000 in
set_option maxRecDepth 200000 in
theorem eval_app (fuel : Nat) (ih : EvalT fuel) (left steps B : Nat) (k1 n1 : Int) (s1 : ByteArray) (xs1 : List Tm) (a1 : Option Addr) (l1 c1 : Nat) (F1 : List Nat) (k2 n2 : Int) (s2 : ByteArray) (xs2 : List Tm) (a2 : Option Addr) (l2 c2 : Nat) (F2 : List Nat) (w : World)
    (hlf : left ≤ fuel) (hst : left + 1 ≤ steps) (h1000 : steps ≤ 1000) (hlsp : LispAt w B steps (left + 1)) (h1 : RdS w xs1 a1 l1 c1 F1) (h2 : RdS w xs2 a2 l2 c2 F2) (hB1 : B ∉ F1) (hB2 : B ∉ F2) (hok1 : (Tm.mk k1 n1 s1 xs1).ok = true) (hok2 : (Tm.mk k2 n2 s2 xs2).ok = true) (hk : k1 ≠ 2) (htl : (Tm.mk k1 n1 s1 xs1).tl.kind = 0) (xk xn : Int) (xz : ByteArray) (xas : List Tm) (yk yn : Int) (yz : ByteArray) (yas : List Tm) (hits : (Tm.mk k1 n1 s1 xs1).its = [.mk xk xn xz xas, .mk yk yn yz yas]) (hq : isSym (.mk xk xn xz xas) ⟨#[113, 117, 111, 116, 101]⟩ = false) (hc : isSym (.mk xk xn xz xas) ⟨#[99, 97, 114]⟩ = false) (hd : isSym (.mk xk xn xz xas) ⟨#[99, 100, 114]⟩ = false) (pk pn : Int) (pz : ByteArray) (pas : List Tm) (gk gn : Int) (gz : ByteArray) (gas : List Tm) (vk vn : Int) (vz : ByteArray) (vas : List Tm) (uk un : Int) (uz : ByteArray) (uas : List Tm) (hcode : (ev fuel left (.mk xk xn xz xas) (Tm.mk k2 n2 s2 xs2)).2.1 = 0) (hft : (ev fuel left (.mk xk xn xz xas) (Tm.mk k2 n2 s2 xs2)).1.tl.kind = 0) (hfi : (ev fuel left (.mk xk xn xz xas) (Tm.mk k2 n2 s2 xs2)).1.its = [.mk pk pn pz pas, .mk gk gn gz gas, .mk vk vn vz vas, .mk uk un uz uas]) (hcl : isSym (.mk pk pn pz pas) ⟨#[99, 108, 111, 115, 117, 114, 101]⟩ = true) :
    Calls Try.prog 86 #[.pointer (some ⟨B, 0, none⟩), .agg #[.int .i64 k1, .int .i64 n1, .string s1, .slice a1 l1 c1], .agg #[.int .i64 k2, .int .i64 n2, .string s2, .slice a2 l2 c2]] w
      (EvOut w B steps F1 F2 (evStep (ev fuel) left (.mk k1 n1 s1 xs1) (.mk k2 n2 s2 xs2))) := by
  have hres : evStep (ev fuel) left (.mk k1 n1 s1 xs1) (.mk k2 n2 s2 xs2) = evApp (ev fuel) (ev fuel left (.mk xk xn xz xas) (Tm.mk k2 n2 s2 xs2)) (.mk yk yn yz yas) (Tm.mk k2 n2 s2 xs2) := by
    rw [evStep_list (show (Tm.mk k1 n1 s1 xs1).kind ≠ 2 from hk) htl]
    rw [hits, evForm, if_neg (by simp [hq]), if_neg (by simp [hc, hd])]
  rw [hres]
  have HTL : Hid (((Tm.mk k1 n1 s1 xs1).tl.kind == 0) = true) := by show _ = _; simpa using htl
  clear hres htl
  have HOKL : Hid (∀ x ∈ [Tm.mk xk xn xz xas, Tm.mk yk yn yz yas], x.ok = true) := fun x hx => its_ok hok1 x (by rw [hits]; exact hx)
  obtain ⟨rR, hrR⟩ : ∃ r : Res, r = ev fuel left (.mk xk xn xz xas) (Tm.mk k2 n2 s2 xs2) := ⟨_, rfl⟩
  rw [← hrR] at hcode hft hfi ⊢
  have hgoodR : GoodR rR left := by
    rw [hrR]; exact ev_good fuel left _ _ (HOKL.out _ (by simp)) hok2
  have HRR := Lib.hid hrR; have HGOODR := Lib.hid hgoodR
  have hlR := hgoodR.left
  clear hgoodR hrR
  obtain ⟨rQ, hrQ⟩ : ∃ r : Res, r = ev fuel rR.2.2 (.mk yk yn yz yas) (Tm.mk k2 n2 s2 xs2) := ⟨_, rfl⟩
  have hgoodQ : GoodR rQ rR.2.2 := by
    rw [hrQ]; exact ev_good fuel rR.2.2 _ _ (HOKL.out _ (by simp)) hok2
  have HRQ := Lib.hid hrQ; have HGOODQ := Lib.hid hgoodQ
  have hlQ := hgoodQ.left
  clear hgoodQ hrQ
  have HOKR := Lib.hid (HOKL.out (.mk xk xn xz xas) (by simp))
  have HOKQ := Lib.hid (HOKL.out (.mk yk yn yz yas) (by simp))
  have HOKP : Hid (∀ z ∈ [Tm.mk pk pn pz pas, .mk gk gn gz gas, .mk vk vn vz vas, .mk uk un uz uas], z.ok = true) := fun z hz => its_ok HGOODR.out.ok z (by rw [hfi]; exact hz)
  have HITS := Lib.hid hits; have HQ := Lib.hid hq; have HC := Lib.hid hc; have HD := Lib.hid hd
  obtain ⟨it, hit⟩ : ∃ t : Tm, t = Tm.pair (Tm.pair (.mk gk gn gz gas) rQ.1) (.mk uk un uz uas) := ⟨_, rfl⟩
  obtain ⟨rT, hrT⟩ : ∃ r : Res, r = ev fuel rQ.2.2 (.mk vk vn vz vas) it := ⟨_, rfl⟩
  obtain ⟨rs, hrs⟩ : ∃ r : Res, r = evApp (ev fuel) rR (.mk yk yn yz yas) (Tm.mk k2 n2 s2 xs2) := ⟨_, rfl⟩
  rw [← hrs]
  have HRS : Hid (rs = if rQ.2.1 ≠ 0 then failV rQ else if it.ok = true then rT else stuck rQ.2.2) := by
    show _ = _
    rw [hrs, evApp, if_neg (by simp [hcode]), hfi]
    simp only
    rw [if_pos ⟨hft, hcl⟩, ← HRQ.out, evBody, hrT, hit]
  have HRT := Lib.hid hrT; have HIT := Lib.hid hit
  have HFI := Lib.hid hfi; have HFT := Lib.hid hft; have HCL := Lib.hid hcl; have HC0R := Lib.hid hcode
  clear hits hq hc hd hrs hfi hft hcl hcode hrT hit
  have hk' : (k1 == 2) = false := by simpa using hk
  have IT := Lib.hid (items_impl k1 n1 s1 xs1 a1 l1 c1 F1)
  clear hk
  have hBw : B < w.heap.size := heap_lt hlsp
  have hF1 := RdS_lt h1
  have hF2 := RdS_lt h2
  obtain ⟨tk, htk⟩ : ∃ tk : Int, tk = (steps : Int) - ((left + 1 : Nat) : Int) := ⟨_, rfl⟩
  unfold LispAt at hlsp
  rw [← htk] at hlsp
  have HTK := Lib.hid htk; have HLSP := Lib.hid hlsp; have HF1 := Lib.hid hF1; have HF2 := Lib.hid hF2; have IH := Lib.hid ih
  have HH1 := Lib.hid h1; have HH2 := Lib.hid h2; have HOK1 := Lib.hid hok1; have HOK2 := Lib.hid hok2; have HB1 := Lib.hid hB1; have HB2 := Lib.hid hB2
  have htk0 : 0 ≤ tk := by omega
  have htk1 : tk ≤ 1000 := by omega
  have hne : (tk == (steps : Int)) = false := by simp; omega
  have HNE := Lib.hid hne
  clear htk hlsp hF1 hF2 ih h1 h2 hok1 hok2 hB1 hB2 hne
  go_enter Try.func86, Try.ntmps86
  go_wp2_with fail
  have hbN : Below w.heap.size w (((w.alloc (.cells #[.int .i64 k1, .int .i64 n1, .string s1, .slice a1 l1 c1] 26)).alloc (.cells #[.int .i64 k2, .int .i64 n2, .string s2, .slice a2 l2 c2] 26)).alloc (.cells #[.int .i64 0, .int .i64 0, .string ⟨#[]⟩, .slice none 0 0] 26)) := (((Below.refl _ _).alloc (Nat.le_refl _) _).alloc (by simp) _).alloc (by simp; omega) _
  have hA1 : (((w.alloc (.cells #[.int .i64 k1, .int .i64 n1, .string s1, .slice a1 l1 c1] 26)).alloc (.cells #[.int .i64 k2, .int .i64 n2, .string s2, .slice a2 l2 c2] 26)).alloc (.cells #[.int .i64 0, .int .i64 0, .string ⟨#[]⟩, .slice none 0 0] 26)).heap[w.heap.size]? = some (.cells #[.int .i64 k1, .int .i64 n1, .string s1, .slice a1 l1 c1] 26 (0, 0)) := by
    rw [heap_old (by simp; omega), heap_old (by simp)]; exact heap_new rfl
  have hA2 : (((w.alloc (.cells #[.int .i64 k1, .int .i64 n1, .string s1, .slice a1 l1 c1] 26)).alloc (.cells #[.int .i64 k2, .int .i64 n2, .string s2, .slice a2 l2 c2] 26)).alloc (.cells #[.int .i64 0, .int .i64 0, .string ⟨#[]⟩, .slice none 0 0] 26)).heap[w.heap.size + 1]? = some (.cells #[.int .i64 k2, .int .i64 n2, .string s2, .slice a2 l2 c2] 26 (0, 0)) := by
    rw [heap_old (by simp)]; exact heap_new (by simp)
  have hA3 : (((w.alloc (.cells #[.int .i64 k1, .int .i64 n1, .string s1, .slice a1 l1 c1] 26)).alloc (.cells #[.int .i64 k2, .int .i64 n2, .string s2, .slice a2 l2 c2] 26)).alloc (.cells #[.int .i64 0, .int .i64 0, .string ⟨#[]⟩, .slice none 0 0] 26)).heap[w.heap.size + 1 + 1]? = some (.cells #[.int .i64 0, .int .i64 0, .string ⟨#[]⟩, .slice none 0 0] 26 (0, 0)) := heap_new (by simp)
  have hsz : (((w.alloc (.cells #[.int .i64 k1, .int .i64 n1, .string s1, .slice a1 l1 c1] 26)).alloc (.cells #[.int .i64 k2, .int .i64 n2, .string s2, .slice a2 l2 c2] 26)).alloc (.cells #[.int .i64 0, .int .i64 0, .string ⟨#[]⟩, .slice none 0 0] 26)).heap.size = w.heap.size + 3 := by simp
  generalize (((w.alloc (.cells #[.int .i64 k1, .int .i64 n1, .string s1, .slice a1 l1 c1] 26)).alloc (.cells #[.int .i64 k2, .int .i64 n2, .string s2, .slice a2 l2 c2] 26)).alloc (.cells #[.int .i64 0, .int .i64 0, .string ⟨#[]⟩, .slice none 0 0] 26)) = W at *
  have HA1 := Lib.hid hA1; have HA2 := Lib.hid hA2; have HA3 := Lib.hid hA3; have HSZ := Lib.hid hsz
  have HBL := Lib.hid ((hbN.block _ hBw).trans HLSP.out)
  have hBW : B < W.heap.size := by omega
  obtain ⟨m0, m1, mf⟩ : W.cell? ⟨B, 0, none⟩ = some (.int .i64 (steps : Int)) ∧ W.cell? ⟨B, 1, none⟩ = some (.int .i64 tk) ∧ ∀ o, W.frozen? ⟨B, o, none⟩ = false := ⟨by simpa using cell_of_block HBL.out 0, by simpa using cell_of_block HBL.out 1, frozen_of_block HBL.out⟩
  clear hA1 hA2 hA3 hsz
  go_region_held3 (fun w' => w'.cell? ⟨B, 0, none⟩ = some (.int .i64 (steps : Int)) ∧ w'.cell? ⟨B, 1, none⟩ = some (.int .i64 tk)) (first | exact ⟨m0, m1⟩) (fail)
  have hne := HNE.out
  obtain ⟨e0, e1, e2, e3, _⟩ := box4 HA1.out
  obtain ⟨f0, f1, f2, f3, _⟩ := box4 HA2.out
  have hlt1 : w.heap.size < W.heap.size := by have := HSZ.out; omega
  have hlt2 : w.heap.size + 1 < W.heap.size := by have := HSZ.out; omega
  have hneB0 : w.heap.size ≠ B := by omega
  have hneB1 : w.heap.size + 1 ≠ B := by omega
  have hneB2 : w.heap.size + 1 + 1 ≠ B := by omega
  go_wp2_with fail
  have hFr : Fr w ((W.setCell ⟨B, 1, none⟩ (.int .i64 (tk + 1))).drew) B steps left k2 n2 s2 a2 l2 c2 := by
    refine ⟨(heap_set_other _ hneB1).trans HA2.out, (heap_set_other _ hneB2).trans HA3.out, ?_, ⟨hbN.os, hbN.tape, hbN.output, by have := HSZ.out; simp [World.setCell]; omega, fun x hx hr => (heap_set_other _ (by simpa using hr)).trans (hbN.block x hx)⟩, by have := HSZ.out; simp [World.setCell]; omega⟩
    have h0 := heap_set (o := 1) (.int .i64 (tk + 1)) HBL.out
    show (W.setCell ⟨B, 1, none⟩ (.int .i64 (tk + 1))).heap[B]? = _
    rw [h0, HTK.out]
    have he : (steps : Int) - ((left + 1 : Nat) : Int) + 1 = (steps : Int) - (left : Int) := by omega
    rw [he]; rfl
  have hrdE : RdS ((W.setCell ⟨B, 1, none⟩ (.int .i64 (tk + 1))).drew) xs1 a1 l1 c1 F1 := RdS_grown HH1.out hFr.ext (fun x hx hh => HB1.out (hh ▸ hx))
  have hrdN : RdS ((W.setCell ⟨B, 1, none⟩ (.int .i64 (tk + 1))).drew) xs2 a2 l2 c2 F2 := RdS_grown HH2.out hFr.ext (fun x hx hh => HB2.out (hh ▸ hx))
  generalize (W.setCell ⟨B, 1, none⟩ (.int .i64 (tk + 1))).drew = V at *
  have hsV := hFr.sz
  refine (IT.out V hrdE HOK1.out).mono ?_
  rintro e V1 ⟨ia, il, ic, iF, rfl, hird, hiF, hb⟩
  replace hFr := hFr.below hBw hb
  replace hrdN := RdS_ext hrdN hb
  have hGi : Gd w F1 F2 iF := fun x hx => by
    rcases hiF x hx with h' | h'
    · exact .inl h'
    · exact .inr (.inr (by omega))
  clear hiF hb hrdE e0 e1 e2 e3 f0 f1 f2 f3 m0 m1 mf
  rw [HTL.out]
  rw [HITS.out] at hird
  obtain rfl : il = 2 := hird.1
  obtain ⟨b, o, rfl⟩ := RdS_addr hird (by simp)
  have hBi : B ∉ iF := hGi.ne HB1.out HB2.out hBw
  have hbI : b ≠ B := by
    intro hh
    obtain ⟨_, _, h3⟩ := hird
    rcases h3 with ⟨h4, _⟩ | ⟨_, b', o', F', ha, hF', _⟩
    · simp at h4
    · simp at ha; apply hBi; rw [hF', ← hh, ha.1]; simp
  obtain ⟨xa, xl, xc, xF, ⟨x0, x1, x2, x3⟩, hrx, hxF, hblx⟩ := RdS_el0 hird rfl
  go_wp2_with fail
  refine (isSymbol_any xk xn xz xas xa xl xc _ V1).mono ?_
  rintro e V2 ⟨rfl, hb⟩
  rw [HQ.out]
  replace hFr := hFr.below hBw hb
  replace hrdN := RdS_ext hrdN hb
  replace hird := RdS_ext hird hb
  clear x0 x1 x2 x3 hrx hxF hblx
  clear hb
  obtain ⟨xa, xl, xc, xF, ⟨x0, x1, x2, x3⟩, hrx, hxF, hblx⟩ := RdS_el0 hird rfl
  go_wp2_with fail
  refine (isSymbol_any xk xn xz xas xa xl xc _ V2).mono ?_
  rintro e V3 ⟨rfl, hb⟩
  rw [HC.out]
  replace hFr := hFr.below hBw hb
  replace hrdN := RdS_ext hrdN hb
  replace hird := RdS_ext hird hb
  clear x0 x1 x2 x3 hrx hxF hblx
  clear hb
  obtain ⟨xa, xl, xc, xF, ⟨x0, x1, x2, x3⟩, hrx, hxF, hblx⟩ := RdS_el0 hird rfl
  go_wp2_with fail
  refine (isSymbol_any xk xn xz xas xa xl xc _ V3).mono ?_
  rintro e V4 ⟨rfl, hb⟩
  rw [HD.out]
  replace hFr := hFr.below hBw hb
  replace hrdN := RdS_ext hrdN hb
  replace hird := RdS_ext hird hb
  clear x0 x1 x2 x3 hrx hxF hblx
  clear hb
  obtain ⟨xa, xl, xc, xF, ⟨x0, x1, x2, x3⟩, hrx, hxF, hblx⟩ := RdS_el0 hird rfl
  obtain ⟨f0, f1, f2, f3, fl⟩ := hFr.env
  go_upto_region 46 with fail
  go_cut [22, 23] (fun s6 s7 wx => s7 = .int .i64 (rR.2.1 : Int) ∧ EvRes V4 B steps w F1 F2 rR s6 wx)
  case first => as_aux_lemma =>
    have hGe := hGi.sub hxF
    have hBe : B ∉ xF := hGe.ne HB1.out HB2.out hBw
    have hBV : B < V4.heap.size := heap_lt hFr.lsp
    have HFR := Lib.hid hFr
    have hbd : Below V4.heap.size V4 V4.drew := (Below.refl _ _).drew
    have hbz : Below V4.heap.size V4 (V4.alloc (.cells #[.int .i64 0, .int .i64 0, .string ⟨#[]⟩, .slice none 0 0] 26)).drew := ((Below.refl _ _).alloc (Nat.le_refl _) _).drew
    have hbz' : Below V4.heap.size V4 (V4.alloc (.cells #[.int .i64 0, .int .i64 0, .string ⟨#[]⟩, .slice none 0 0] 26)) := (Below.refl _ _).alloc (Nat.le_refl _) _
    have CE := Lib.hid (IH.out left steps B xk xn xz xas xa xl xc xF k2 n2 s2 xs2 a2 l2 c2 F2)
    rw [← HRR.out] at CE
    have HS : Hid (El8 b (o) (w.heap.size + 1) (.int .i64 xk) (.int .i64 xn) (.string xz) (.slice xa xl xc) (.int .i64 k2) (.int .i64 n2) (.string s2) (.slice a2 l2 c2) V4) := ⟨x0, x1, x2, x3, f0, f1, f2, f3⟩
    have hsV1 := hFr.sz
    have hne5 : w.heap.size + 1 ≠ B := by omega
    have hneV : b ≠ V4.heap.size := by omega
    have hne5V : w.heap.size + 1 ≠ V4.heap.size := by omega
    have hlF : ∀ x ∈ xF, x < V4.heap.size := RdS_lt hrx
    have hlN : ∀ x ∈ F2, x < V4.heap.size := fun x hx => by have := HF2.out x hx; omega
    have HLF := Lib.hid hlF; have HLN := Lib.hid hlN
    clear hlF hlN
    go_region_held3 (fun w' => w'.cell? ⟨b, o, none⟩ = some (.int .i64 xk) ∧ w'.cell? ⟨b, o + 1, none⟩ = some (.int .i64 xn) ∧ w'.cell? ⟨b, o + 2, none⟩ = some (.string xz) ∧ w'.cell? ⟨b, o + 3, none⟩ = some (.slice xa xl xc) ∧ w'.cell? ⟨w.heap.size + 1, 0, none⟩ = some (.int .i64 k2) ∧ w'.cell? ⟨w.heap.size + 1, 1, none⟩ = some (.int .i64 n2) ∧ w'.cell? ⟨w.heap.size + 1, 2, none⟩ = some (.string s2) ∧ w'.cell? ⟨w.heap.size + 1, 3, none⟩ = some (.slice a2 l2 c2))
      (first | with_reducible exact El8.same (hbd.block _ hblx) (hbd.block _ fl) HS.out | with_reducible exact El8.same (hbz.block _ hblx) (hbz.block _ fl) HS.out | with_reducible exact El8.same (hg.block _ hblx (by simpa using hbI)) (hg.block _ fl (by simpa using hne5)) HS.out | with_reducible exact El8.same ((heap_old (Nat.lt_of_lt_of_le hblx hg.size)).trans (hg.block _ hblx (by simpa using hbI))) ((heap_old (Nat.lt_of_lt_of_le fl hg.size)).trans (hg.block _ fl (by simpa using hne5))) HS.out | with_reducible exact El8.same ((heap_set4_other hneV).trans (hg.block _ hblx (by simpa using hbI))) ((heap_set4_other hne5V).trans (hg.block _ fl (by simpa using hne5))) HS.out)
      (first | (go_at_call 86; (with_reducible refine (CE.out _ (by omega) (by omega) h1000 ?_ ?_ ?_ hBe HB2.out ?_ HOK2.out).mono ?_); (first | exact lisp_below hbd hBV HFR.out.lsp | exact lisp_below hbz hBV HFR.out.lsp); (first | exact RdS_ext hrx hbd | exact RdS_ext hrx hbz); (first | exact RdS_ext hrdN hbd | exact RdS_ext hrdN hbz); exact HOKR.out; rintro e w5 ⟨k9, n9, z9, xs9, a9, l9, c9, F9, hr9, rfl, hrd9, hF9, hg9, hl9⟩; (first | (have hg : V4.grownBy w5 (some B) := grown_trans (grown_below hbd _) hg9) | (have hg : V4.grownBy w5 (some B) := grown_trans (grown_below hbz _) hg9)); have hG9 : Gd w F1 F2 F9 := (fun x hx => by rcases hF9 x hx with h' | h' | h'; exact hGe x h'; exact .inr (.inl h'); simp at h'; exact .inr (.inr (by omega))); (try (have hz : w5.heap[V4.heap.size]? = some (.cells #[.int .i64 0, .int .i64 0, .string ⟨#[]⟩, .slice none 0 0] 26 (0, 0)) := (hg9.block _ (by simp) (by simp; omega)).trans (heap_new rfl); obtain ⟨z0, z1, z2, z3, zf⟩ := box4 hz; have hzl := heap_lt hz; have HZ := Lib.hid hz; clear hz; have hne9 : ∀ x ∈ F9, x ≠ V4.heap.size := (fun x hx => by rcases hF9 x hx with h' | h' | h'; (have := HLF.out x h'; omega); (have := HLN.out x h'; omega); (simp at h'; omega))))))
    all_goals (go_wp2_with fail; go_meet; first | exact ⟨rfl, EvRes_new hr9 hrd9 hG9 hg hl9⟩ | exact ⟨rfl, EvRes_set hr9 hrd9 hG9 hg hl9 (Nat.le_refl _) HZ.out hne9 (by omega)⟩)
  case rest =>
    obtain ⟨rfl, BR, kR, nR, zR, xsR, aR, lR, cR, FR, rfl, hrR, hbxR, hGR, hg, hl, hBvR⟩ := hcut
    obtain ⟨V5, hVV⟩ : ∃ x : World, x = wc := ⟨_, rfl⟩
    subst hVV
    have hszV := hFr.sz
    replace hFr := hFr.grown hBw hg hl
    replace hrdN := RdS_grown hrdN hg (fun x hx hh => HB2.out (hh ▸ hx))
    replace hird := RdS_grown hird hg (fun x hx hh => hBi (hh ▸ hx))
    clear f0 f1 f2 f3 fl
    clear x0 x1 x2 x3 hrx hxF hblx
    have hdR : ((rR.2.1 : Int) != 0) = false := by simp [HC0R.out]
    obtain ⟨g0, g1, g2, g3, gl⟩ := hbxR.cells
    have HOKF : Hid ((Tm.mk kR nR zR xsR).ok = true) := by show _ = _; rw [← hrR]; exact HGOODR.out.ok
    have HRR1 := Lib.hid hrR
    go_wp2_with fail
    have hsV3 := hFr.sz
    refine (items_impl kR nR zR xsR aR lR cR FR V5 hbxR.rd HOKF.out).mono ?_
    rintro e V9 ⟨pa', pl, pc', pF', rfl, hprd, hpF, hb⟩
    rw [← HRR1.out] at hprd ⊢
    have hdd : (rR.1.tl.kind == 0) = true := by simpa using HFT.out
    rw [hdd]
    have hGp : Gd w F1 F2 pF' := hGR.new hsV3 hpF
    replace hFr := hFr.below hBw hb
    replace hird := RdS_ext hird hb
    replace hrdN := RdS_ext hrdN hb
    rw [HFI.out] at hprd
    obtain rfl : pl = 4 := hprd.1
    obtain ⟨pb, po, rfl⟩ := RdS_addr hprd (by simp)
    have hBp : B ∉ pF' := hGp.ne HB1.out HB2.out hBw
    have hpbm : pb ∈ pF' := by
      obtain ⟨_, _, h3⟩ := hprd
      rcases h3 with ⟨h4, _⟩ | ⟨_, b', o', F', ha, hF', _⟩
      · simp at h4
      · simp at ha; rw [hF', ha.1]; simp
    have hpbB : pb ≠ B := fun hh => hBp (hh ▸ hpbm)
    have hpb6 : pb ≠ w.heap.size + 1 + 1 := hGp.ne6 HF1.out HF2.out pb hpbm
    clear g0 g1 g2 g3 gl hb hpF hdd hpbm
    obtain ⟨qa, ql, qc, qF, ⟨q0, q1, q2, q3⟩, hrq, hqF, hblq⟩ := RdS_el0 hprd rfl
    go_wp2_with fail
    refine (isSymbol_any pk pn pz pas qa ql qc _ V9).mono ?_
    rintro e V10 ⟨rfl, hb⟩
    rw [HCL.out]
    replace hFr := hFr.below hBw hb
    replace hird := RdS_ext hird hb
    replace hrdN := RdS_ext hrdN hb
    replace hprd := RdS_ext hprd hb
    clear q0 q1 q2 q3 hrq hqF hblq hb hbxR
    obtain ⟨ya, yl, yc, yF, ⟨y0, y1, y2, y3⟩, hry, hyF, hbly⟩ := RdS_el1 hird rfl
    obtain ⟨f0, f1, f2, f3, fl⟩ := hFr.env
    go_upto_region 52 with fail
    go_cut [26, 27] (fun s6 s7 wx => s7 = .int .i64 (rQ.2.1 : Int) ∧ EvRes V10 B steps w F1 F2 rQ s6 wx)
    case first => as_aux_lemma =>
      have hGe := hGi.sub hyF
      have hBe : B ∉ yF := hGe.ne HB1.out HB2.out hBw
      have hBV : B < V10.heap.size := heap_lt hFr.lsp
      have HFR := Lib.hid hFr
      have hbd : Below V10.heap.size V10 V10.drew := (Below.refl _ _).drew
      have hbz : Below V10.heap.size V10 (V10.alloc (.cells #[.int .i64 0, .int .i64 0, .string ⟨#[]⟩, .slice none 0 0] 26)).drew := ((Below.refl _ _).alloc (Nat.le_refl _) _).drew
      have hbz' : Below V10.heap.size V10 (V10.alloc (.cells #[.int .i64 0, .int .i64 0, .string ⟨#[]⟩, .slice none 0 0] 26)) := (Below.refl _ _).alloc (Nat.le_refl _) _
      have CE := Lib.hid (IH.out rR.2.2 steps B yk yn yz yas ya yl yc yF k2 n2 s2 xs2 a2 l2 c2 F2)
      rw [← HRQ.out] at CE
      have HS : Hid (El8 b (o + 4) (w.heap.size + 1) (.int .i64 yk) (.int .i64 yn) (.string yz) (.slice ya yl yc) (.int .i64 k2) (.int .i64 n2) (.string s2) (.slice a2 l2 c2) V10) := ⟨y0, y1, y2, y3, f0, f1, f2, f3⟩
      have hsV1 := hFr.sz
      have hne5 : w.heap.size + 1 ≠ B := by omega
      have hneV : b ≠ V10.heap.size := by omega
      have hne5V : w.heap.size + 1 ≠ V10.heap.size := by omega
      have hlF : ∀ x ∈ yF, x < V10.heap.size := RdS_lt hry
      have hlN : ∀ x ∈ F2, x < V10.heap.size := fun x hx => by have := HF2.out x hx; omega
      have HLF := Lib.hid hlF; have HLN := Lib.hid hlN
      clear hlF hlN
      go_region_held3 (fun w' => w'.cell? ⟨b, o + 4, none⟩ = some (.int .i64 yk) ∧ w'.cell? ⟨b, o + 4 + 1, none⟩ = some (.int .i64 yn) ∧ w'.cell? ⟨b, o + 4 + 2, none⟩ = some (.string yz) ∧ w'.cell? ⟨b, o + 4 + 3, none⟩ = some (.slice ya yl yc) ∧ w'.cell? ⟨w.heap.size + 1, 0, none⟩ = some (.int .i64 k2) ∧ w'.cell? ⟨w.heap.size + 1, 1, none⟩ = some (.int .i64 n2) ∧ w'.cell? ⟨w.heap.size + 1, 2, none⟩ = some (.string s2) ∧ w'.cell? ⟨w.heap.size + 1, 3, none⟩ = some (.slice a2 l2 c2))
        (first | with_reducible exact El8.same (hbd.block _ hbly) (hbd.block _ fl) HS.out | with_reducible exact El8.same (hbz.block _ hbly) (hbz.block _ fl) HS.out | with_reducible exact El8.same (hg.block _ hbly (by simpa using hbI)) (hg.block _ fl (by simpa using hne5)) HS.out | with_reducible exact El8.same ((heap_old (Nat.lt_of_lt_of_le hbly hg.size)).trans (hg.block _ hbly (by simpa using hbI))) ((heap_old (Nat.lt_of_lt_of_le fl hg.size)).trans (hg.block _ fl (by simpa using hne5))) HS.out | with_reducible exact El8.same ((heap_set4_other hneV).trans (hg.block _ hbly (by simpa using hbI))) ((heap_set4_other hne5V).trans (hg.block _ fl (by simpa using hne5))) HS.out)
        (first | (go_at_call 86; (with_reducible refine (CE.out _ (by omega) (by omega) h1000 ?_ ?_ ?_ hBe HB2.out ?_ HOK2.out).mono ?_); (first | exact lisp_below hbd hBV HFR.out.lsp | exact lisp_below hbz hBV HFR.out.lsp); (first | exact RdS_ext hry hbd | exact RdS_ext hry hbz); (first | exact RdS_ext hrdN hbd | exact RdS_ext hrdN hbz); exact HOKQ.out; rintro e w5 ⟨k9, n9, z9, xs9, a9, l9, c9, F9, hr9, rfl, hrd9, hF9, hg9, hl9⟩; (first | (have hg : V10.grownBy w5 (some B) := grown_trans (grown_below hbd _) hg9) | (have hg : V10.grownBy w5 (some B) := grown_trans (grown_below hbz _) hg9)); have hG9 : Gd w F1 F2 F9 := (fun x hx => by rcases hF9 x hx with h' | h' | h'; exact hGe x h'; exact .inr (.inl h'); simp at h'; exact .inr (.inr (by omega))); (try (have hz : w5.heap[V10.heap.size]? = some (.cells #[.int .i64 0, .int .i64 0, .string ⟨#[]⟩, .slice none 0 0] 26 (0, 0)) := (hg9.block _ (by simp) (by simp; omega)).trans (heap_new rfl); obtain ⟨z0, z1, z2, z3, zf⟩ := box4 hz; have hzl := heap_lt hz; have HZ := Lib.hid hz; clear hz; have hne9 : ∀ x ∈ F9, x ≠ V10.heap.size := (fun x hx => by rcases hF9 x hx with h' | h' | h'; (have := HLF.out x h'; omega); (have := HLN.out x h'; omega); (simp at h'; omega))))))
      all_goals (go_wp2_with fail; go_meet; first | exact ⟨rfl, EvRes_new hr9 hrd9 hG9 hg hl9⟩ | exact ⟨rfl, EvRes_set hr9 hrd9 hG9 hg hl9 (Nat.le_refl _) HZ.out hne9 (by omega)⟩)
    case rest =>
      obtain ⟨rfl, BQ, kQ, nQ, zQ, xsQ, aQ, lQ, cQ, FQ, rfl, hrQ, hbxQ, hGQ, hg, hl, hBvQ⟩ := hcut
      obtain ⟨V11, hVV⟩ : ∃ x : World, x = wc := ⟨_, rfl⟩
      subst hVV
      have hszV := hFr.sz
      replace hFr := hFr.grown hBw hg hl
      replace hrdN := RdS_grown hrdN hg (fun x hx hh => HB2.out (hh ▸ hx))
      replace hird := RdS_grown hird hg (fun x hx hh => hBi (hh ▸ hx))
      clear f0 f1 f2 f3 fl
      clear y0 y1 y2 y3 hry hyF hbly
      replace hprd := RdS_grown hprd hg (fun x hx hh => hBp (hh ▸ hx))
      obtain ⟨r0, r1, r2, r3, rf, rl⟩ := hFr.res
      by_cases hc0 : rQ.2.1 = 0
      case neg => as_aux_lemma =>
        have hd : ((rQ.2.1 : Int) != 0) = true := by simp; omega
        have HE : Hid (rs = failV rQ) := by show _ = _; rw [HRS.out, if_pos hc0]
        clear hc0
        generalize hcd : (rQ.2.1 : Int) = cd at *
        have HCD := Lib.hid hcd; clear hcd
        go_wp2
        rw [HE.out]
        exact bodyPost_ret (v := .tuple #[.agg #[.int .i64 0, .int .i64 0, .string ⟨#[]⟩, .slice none 0 0], .int .i64 cd]) (results_term2 rfl _ _ (w.heap.size + 1 + 1) rfl rfl (heap_set4 hFr.b6)) rfl (EvOut_nil (r := failV rQ) hFr hBw HF1.out HF2.out rfl HCD.out.symm rfl)
      have HC0Q := Lib.hid hc0
      have hdQ : ((rQ.2.1 : Int) != 0) = false := by simp [hc0]
      clear hc0
      have HE : Hid (rs = if it.ok = true then rT else stuck rQ.2.2) := by show _ = _; rw [HRS.out, if_neg (by simp [HC0Q.out])]
      have hKIT : it = .mk 4 0 ByteArray.empty [.mk 4 0 ByteArray.empty [.mk gk gn gz gas, .mk kQ nQ zQ xsQ], .mk uk un uz uas] := by rw [HIT.out, hrQ]; rfl
      have HKIT := Lib.hid hKIT
      have HLI : Hid ((Tm.mk 4 0 ByteArray.empty [.mk 4 0 ByteArray.empty [.mk gk gn gz gas, .mk kQ nQ zQ xsQ], .mk uk un uz uas]).Lens) := by
        have h1 := wf_lens (ok_wf (HOKP.out (.mk gk gn gz gas) (by simp))).1
        have h2 : (Tm.mk kQ nQ zQ xsQ).Lens := by rw [← hrQ]; exact wf_lens (ok_wf HGOODQ.out.ok).1
        have h3 := wf_lens (ok_wf (HOKP.out (.mk uk un uz uas) (by simp))).1
        exact .mk _ _ _ _ (by simp) (by simp) (fun a ha => by
          simp at ha
          rcases ha with rfl | rfl
          · exact .mk _ _ _ _ (by simp) (by simp) (fun a ha => by simp at ha; rcases ha with rfl | rfl; exact h1; exact h2)
          · exact h3)
      obtain ⟨j0, j1, j2, j3, jl⟩ := hbxQ.cells
      clear r0 r1 r2 r3 rf rl hKIT
      obtain ⟨ga, gl, gc, gF, ⟨g0, g1, g2, g3⟩, hrg, hgF, hblg⟩ := RdS_el1 hprd rfl
      obtain ⟨ua, ul, uc, uF, ⟨u0, u1, u2, u3⟩, hru, huF, hblu⟩ := RdS_el3 hprd rfl
      go_upto_region 55 with fail
      go_cut [28, 29] (fun s6 s7 wx => s7 = .int .i64 (((keepV it 0).2.1 : Nat) : Int) ∧ ResG V11 w F1 F2 (keepV it 0).1 s6 wx)
      case first => as_aux_lemma =>
        have hbd : Below V11.heap.size V11 V11.drew := (Below.refl _ _).drew
        have hbz : Below V11.heap.size V11 (V11.alloc (.cells #[.int .i64 0, .int .i64 0, .string ⟨#[]⟩, .slice none 0 0] 26)).drew := ((Below.refl _ _).alloc (Nat.le_refl _) _).drew
        have hbz' : Below V11.heap.size V11 (V11.alloc (.cells #[.int .i64 0, .int .i64 0, .string ⟨#[]⟩, .slice none 0 0] 26)) := (Below.refl _ _).alloc (Nat.le_refl _) _
        have hbW := hbd
        have HS : Hid (El12 pb (po + 4) pb (po + 12) BQ (.int .i64 gk) (.int .i64 gn) (.string gz) (.slice ga gl gc) (.int .i64 uk) (.int .i64 un) (.string uz) (.slice ua ul uc) (.int .i64 kQ) (.int .i64 nQ) (.string zQ) (.slice aQ lQ cQ) V11) := ⟨g0, g1, g2, g3, u0, u1, u2, u3, j0, j1, j2, j3⟩
        have hGg := hGp.sub hgF
        have hGu := hGp.sub huF
        have hsV1 := hFr.sz
        have lgF := RdS_lt hrg; have luF := RdS_lt hru; have lQF := RdS_lt hbxQ.rd
        have LG := Lib.hid lgF; have LU := Lib.hid luF; have LQ := Lib.hid lQF
        clear lgF luF lQF
        go_region_held3 (fun w' => w'.cell? ⟨pb, po + 4, none⟩ = some (.int .i64 gk) ∧ w'.cell? ⟨pb, po + 4 + 1, none⟩ = some (.int .i64 gn) ∧ w'.cell? ⟨pb, po + 4 + 2, none⟩ = some (.string gz) ∧ w'.cell? ⟨pb, po + 4 + 3, none⟩ = some (.slice ga gl gc) ∧ w'.cell? ⟨pb, po + 12, none⟩ = some (.int .i64 uk) ∧ w'.cell? ⟨pb, po + 12 + 1, none⟩ = some (.int .i64 un) ∧ w'.cell? ⟨pb, po + 12 + 2, none⟩ = some (.string uz) ∧ w'.cell? ⟨pb, po + 12 + 3, none⟩ = some (.slice ua ul uc) ∧ w'.cell? ⟨BQ, 0, none⟩ = some (.int .i64 kQ) ∧ w'.cell? ⟨BQ, 1, none⟩ = some (.int .i64 nQ) ∧ w'.cell? ⟨BQ, 2, none⟩ = some (.string zQ) ∧ w'.cell? ⟨BQ, 3, none⟩ = some (.slice aQ lQ cQ))
          (first | with_reducible exact El12.same (hbW.block _ hblg) (hbW.block _ hblu) (hbW.block _ jl) HS.out | with_reducible exact El12.same ((hbW.alloc hbW.size _).block _ hblg) ((hbW.alloc hbW.size _).block _ hblu) ((hbW.alloc hbW.size _).block _ jl) HS.out | with_reducible exact El12.same (hbz.block _ hblg) (hbz.block _ hblu) (hbz.block _ jl) HS.out | with_reducible exact El12.same (hbz'.block _ hblg) (hbz'.block _ hblu) (hbz'.block _ jl) HS.out | with_reducible exact El12.same ((heap_set4_other (by omega)).trans (hbW.block _ hblg)) ((heap_set4_other (by omega)).trans (hbW.block _ hblu)) ((heap_set4_other (by omega)).trans (hbW.block _ jl)) HS.out)
          (first | (go_at_call 90; (with_reducible refine (pair_any gk gn kQ nQ gz zQ ga aQ gl gc lQ cQ _).mono ?_); rintro e v3 ⟨b3, rfl, hb3l, hrow3, hb3⟩; (try (have hz1 : v3.heap[V11.heap.size]? = some (.cells #[.int .i64 0, .int .i64 0, .string ⟨#[]⟩, .slice none 0 0] 26 (0, 0)) := (hb3.block _ (by simp)).trans (heap_new rfl); have hBz : V11.heap.size ≤ V11.heap.size := Nat.le_refl _)); have hb3V : V11.heap.size ≤ b3 := (by simp at hb3l; omega); (first | replace hbW : Below V11.heap.size V11 v3 := hbd.trans (hb3.mono hbd.size) | replace hbW : Below V11.heap.size V11 v3 := hbz.trans (hb3.mono hbz.size)); have hrp := RdS_two hrow3 (Nat.le_refl 2) (RdS_ext hrg hbW) (RdS_ext hbxQ.rd hbW); have hzb : ∀ y, v3.heap[y]? = some (.cells #[.int .i64 0, .int .i64 0, .string ⟨#[]⟩, .slice none 0 0] 26 (0, 0)) → y < b3 ∨ b3 < y := (fun y hy => by rcases Nat.lt_trichotomy y b3 with h' | h' | h'; exact .inl h'; (subst h'; rw [hrow3] at hy; simp at hy); exact .inr h')) | (go_at_call 90; (with_reducible refine (pair_any 4 0 uk un ByteArray.empty uz (some ⟨b3, 0, none⟩) ua 2 2 ul uc _).mono ?_); rintro e v4 ⟨b4, rfl, hb4l, hrow4, hb4⟩; (try (have hz2 : v4.heap[V11.heap.size]? = some (.cells #[.int .i64 0, .int .i64 0, .string ⟨#[]⟩, .slice none 0 0] 26 (0, 0)) := (hb4.block _ (heap_lt hz1)).trans hz1)); (try (have hz2 : v4.heap[v3.heap.size]? = some (.cells #[.int .i64 0, .int .i64 0, .string ⟨#[]⟩, .slice none 0 0] 26 (0, 0)) := (hb4.block _ (by simp)).trans (heap_new rfl); have hBz : V11.heap.size ≤ v3.heap.size := hbW.size)); have hb3s := heap_lt hrow3; (first | have hrp' := RdS_ext hrp hb4 | have hrp' := RdS_ext (RdS_ext hrp ((Below.refl _ _).alloc (Nat.le_refl _) _)) hb4); (first | replace hbW : Below V11.heap.size V11 v4 := hbW.trans (hb4.mono hbW.size) | replace hbW : Below V11.heap.size V11 v4 := (hbW.alloc hbW.size _).trans (hb4.mono (hbW.alloc hbW.size _).size)); have hrp2 := RdS_two hrow4 (Nat.le_refl 2) hrp' (RdS_ext hru hbW); have hb4V : v3.heap.size ≤ b4 := (by first | exact hb4l | (simp at hb4l; omega))) | (go_at_call 100; (with_reducible refine (small_any 4 0 ByteArray.empty [.mk 4 0 ByteArray.empty [.mk gk gn gz gas, .mk kQ nQ zQ xsQ], .mk uk un uz uas] (some ⟨b4, 0, none⟩) 2 2 (b4 :: ((b3 :: (gF ++ FQ)) ++ uF)) _ ?_ HLI.out).mono ?_); (first | exact hrp2 | exact RdS_ext hrp2 ((Below.refl _ _).alloc (Nat.le_refl _) _)); rintro e v5 ⟨k9, n9, z9, xs9, a9, l9, c9, F9, hr9, rfl, hrd9, hF9, hb9⟩; have hb4s := heap_lt hrow4; (try (have hz : v5.heap[V11.heap.size]? = some (.cells #[.int .i64 0, .int .i64 0, .string ⟨#[]⟩, .slice none 0 0] 26 (0, 0)) := (hb9.block _ (heap_lt hz2)).trans hz2; obtain ⟨z0, z1, z2, z3, zf⟩ := box4 hz; have hzl := heap_lt hz; have HZ := Lib.hid hz; clear hz)); (try (have hz : v5.heap[v3.heap.size]? = some (.cells #[.int .i64 0, .int .i64 0, .string ⟨#[]⟩, .slice none 0 0] 26 (0, 0)) := (hb9.block _ (heap_lt hz2)).trans hz2; obtain ⟨z0, z1, z2, z3, zf⟩ := box4 hz; have hzl := heap_lt hz; have HZ := Lib.hid hz; clear hz)); (try (have hz : v5.heap[v4.heap.size]? = some (.cells #[.int .i64 0, .int .i64 0, .string ⟨#[]⟩, .slice none 0 0] 26 (0, 0)) := (hb9.block _ (by simp)).trans (heap_new rfl); have hBz : V11.heap.size ≤ v4.heap.size := hbW.size; obtain ⟨z0, z1, z2, z3, zf⟩ := box4 hz; have hzl := heap_lt hz; have HZ := Lib.hid hz; clear hz)); (first | replace hbW : Below V11.heap.size V11 v5 := hbW.trans (hb9.mono hbW.size) | replace hbW : Below V11.heap.size V11 v5 := (hbW.alloc hbW.size _).trans (hb9.mono (hbW.alloc hbW.size _).size))))
        all_goals (have hG9 : Gd w F1 F2 F9 := (fun x hx => by have hm := hF9 x hx; simp at hm; rcases hm with rfl | rfl | hm | hm | hm; (exact .inr (.inr (by omega))); (exact .inr (.inr (by omega))); (exact hGg x hm); (exact hGQ x hm); (exact hGu x hm)))
        all_goals (rw [← HKIT.out] at hr9)
        all_goals (rw [← HKIT.out])
        all_goals (go_wp2_with fail; go_meet)
        all_goals (first | exact ⟨rfl, ResG_new hr9 hrd9 hG9 hbW⟩ | (refine ⟨rfl, ResG_set hr9 hrd9 hG9 hbW hBz HZ.out (fun x hx => ?_)⟩; have hm := hF9 x hx; simp at hm; rcases hm with rfl | rfl | hm | hm | hm <;> first | (have := LG.out x hm; omega) | (have := LQ.out x hm; omega) | (have := LU.out x hm; omega) | omega | (intro hh; subst hh; simp_all)))
      case rest =>
        obtain ⟨rfl, BI, kI, nI, zI, xsI, aI, lI, cI, FI, rfl, hrI, hbxI, hGI, hbI', hBIv⟩ := hcut
        obtain ⟨V20, hVV⟩ : ∃ x : World, x = wc := ⟨_, rfl⟩
        subst hVV
        have hszV20 := hFr.sz
        replace hFr := hFr.below hBw hbI'
        replace hprd := RdS_ext hprd hbI'
        clear g0 g1 g2 g3 hrg hgF hblg u0 u1 u2 u3 hru huF hblu j0 j1 j2 j3 jl
        obtain ⟨r0, r1, r2, r3, rf, rl⟩ := hFr.res
        rcases keepV_code it with ⟨hcz, hoki, hvi⟩ | ⟨hcz, hoki, hvi⟩
        case inr =>
          have hdz : ((((keepV it 0).2.1 : Nat) : Int) != 0) = true := by rw [hcz]; rfl
          have hcz' : (((keepV it 0).2.1 : Nat) : Int) = 1 := by rw [hcz]; rfl
          rw [hcz']
          have HE2 : Hid (rs = stuck rQ.2.2) := by show _ = _; rw [HE.out, if_neg (by simp [hoki])]
          clear hcz hoki hvi hdz hcz'
          go_wp2
          rw [HE2.out]
          exact bodyPost_ret (v := .tuple #[.agg #[.int .i64 0, .int .i64 0, .string ⟨#[]⟩, .slice none 0 0], .int .i64 1]) (results_term2 rfl _ _ (w.heap.size + 1 + 1) rfl rfl (heap_set4 hFr.b6)) rfl (EvOut_nil (r := stuck rQ.2.2) hFr hBw HF1.out HF2.out rfl rfl rfl)
        have hcz' : (((keepV it 0).2.1 : Nat) : Int) = 0 := by rw [hcz]; rfl
        rw [hcz']
        rw [hvi] at hrI
        have HE2 : Hid (rs = rT) := by show _ = _; rw [HE.out, if_pos hoki]
        have HOKI : Hid ((Tm.mk kI nI zI xsI).ok = true) := by show _ = _; rw [← hrI]; exact hoki
        have HOKT := Lib.hid (HOKP.out (.mk vk vn vz vas) (by simp))
        have HRT2 : Hid (rT = ev fuel rQ.2.2 (.mk vk vn vz vas) (.mk kI nI zI xsI)) := by show _ = _; rw [HRT.out, hrI]
        have hBIne : BI ≠ B := by omega
        have hBI6 : BI ≠ w.heap.size + 1 + 1 := by omega
        have hBnI : B ∉ FI := hGI.ne HB1.out HB2.out hBw
        clear hcz hoki hvi hcz' r0 r1 r2 r3 rf rl HRT
        obtain ⟨va, vl, vc, vF, ⟨v0, v1, v2, v3⟩, hrv, hvF, hblv⟩ := RdS_el2 hprd rfl
        obtain ⟨f0, f1, f2, f3, fl⟩ := hbxI.cells
        go_wp2_with fail
        have hGe := hGp.sub hvF
        have hBe : B ∉ vF := hGe.ne HB1.out HB2.out hBw
        have hBV : B < V20.heap.size := heap_lt hFr.lsp
        have HFR := Lib.hid hFr
        have hbd : Below V20.heap.size V20 V20.drew := (Below.refl _ _).drew
        have CE := Lib.hid (IH.out rQ.2.2 steps B vk vn vz vas va vl vc vF kI nI zI xsI aI lI cI FI)
        rw [← HRT2.out] at CE
        have HS : Hid (El8 pb (po + 8) (BI) (.int .i64 vk) (.int .i64 vn) (.string vz) (.slice va vl vc) (.int .i64 kI) (.int .i64 nI) (.string zI) (.slice aI lI cI) V20) := ⟨v0, v1, v2, v3, f0, f1, f2, f3⟩
        have hsV1 := hFr.sz
        have hne5 : BI ≠ B := hBIne
        have hne6 : pb ≠ w.heap.size + 1 + 1 := hpb6
        have hne56 : BI ≠ w.heap.size + 1 + 1 := hBI6
        go_region_held3 (fun w' => w'.cell? ⟨pb, po + 8, none⟩ = some (.int .i64 vk) ∧ w'.cell? ⟨pb, po + 8 + 1, none⟩ = some (.int .i64 vn) ∧ w'.cell? ⟨pb, po + 8 + 2, none⟩ = some (.string vz) ∧ w'.cell? ⟨pb, po + 8 + 3, none⟩ = some (.slice va vl vc) ∧ w'.cell? ⟨BI, 0, none⟩ = some (.int .i64 kI) ∧ w'.cell? ⟨BI, 1, none⟩ = some (.int .i64 nI) ∧ w'.cell? ⟨BI, 2, none⟩ = some (.string zI) ∧ w'.cell? ⟨BI, 3, none⟩ = some (.slice aI lI cI))
          (first | with_reducible exact El8.same (hbd.block _ hblv) (hbd.block _ fl) HS.out | with_reducible exact El8.same (hg.block _ hblv (by simpa using hpbB)) (hg.block _ fl (by simpa using hne5)) HS.out | with_reducible exact El8.same ((heap_set4_other hne6).trans (hg.block _ hblv (by simpa using hpbB))) ((heap_set4_other hne56).trans (hg.block _ fl (by simpa using hne5))) HS.out)
          (first | (go_at_call 86; (with_reducible refine (CE.out V20.drew (by omega) (by omega) h1000 (lisp_below hbd hBV HFR.out.lsp) (RdS_ext hrv hbd) (RdS_ext hbxI.rd hbd) hBe hBnI HOKT.out HOKI.out).mono ?_); rintro e w5 ⟨k9, n9, z9, xs9, a9, l9, c9, F9, hr9, rfl, hrd9, hF9, hg9, hl9⟩; have hg : V20.grownBy w5 (some B) := grown_trans (grown_below hbd _) hg9; have hG9 : Gd w F1 F2 F9 := (fun x hx => by rcases hF9 x hx with h' | h' | h'; exact hGe x h'; exact hGI x h'; simp at h'; exact .inr (.inr (by omega))); have hFr5 := HFR.out.grown hBw hg hl9; obtain ⟨t0, t1, t2, t3, tf, tl⟩ := hFr5.res))
        generalize hcd : (rT.2.1 : Int) = cd at *
        have HCD := Lib.hid hcd; clear hcd
        replace hFr := hFr5
        go_wp2
        rw [HE2.out]
        have rl := tl
        exact bodyPost_ret (v := .tuple #[.agg #[.int .i64 k9, .int .i64 n9, .string z9, .slice a9 l9 c9], .int .i64 cd]) (results_term2 rfl _ _ (w.heap.size + 1 + 1) rfl rfl (heap_set4 hFr.b6)) rfl (EvOut_set (r := rT) hFr hBw HF1.out HF2.out hr9 HCD.out.symm rfl hrd9 hG9)
end Go.Proofs.Ytjkabbkaeioibaa
