/- The reference's evaluator: cons. The reference's evaluator: car and cdr. -/
import Derived.Test.YtjkabbkaeioibaaSpDefs2
import Derived.Deep.RegionHeld3
namespace Go.Proofs.Ytjkabbkaeioibaa
open Go.RowKit
set_option linter.unusedVariables false
abbrev ElB (b o B5 B6 : Nat) (x0 x1 x2 x3 y0 y1 y2 y3 u0 u1 u2 u3 : Value) (w : World) : Prop := w.cell? ⟨b, o, none⟩ = some x0 ∧ w.cell? ⟨b, o + 1, none⟩ = some x1 ∧ w.cell? ⟨b, o + 2, none⟩ = some x2 ∧ w.cell? ⟨b, o + 3, none⟩ = some x3 ∧
  w.cell? ⟨B5, 0, none⟩ = some y0 ∧ w.cell? ⟨B5, 1, none⟩ = some y1 ∧ w.cell? ⟨B5, 2, none⟩ = some y2 ∧ w.cell? ⟨B5, 3, none⟩ = some y3 ∧
  w.cell? ⟨B6, 0, none⟩ = some u0 ∧ w.cell? ⟨B6, 1, none⟩ = some u1 ∧ w.cell? ⟨B6, 2, none⟩ = some u2 ∧ w.cell? ⟨B6, 3, none⟩ = some u3
theorem ElB.same {W w' : World} {b o B5 B6 : Nat} {x0 x1 x2 x3 y0 y1 y2 y3 u0 u1 u2 u3 : Value} (hb : w'.heap[b]? = W.heap[b]?) (h5 : w'.heap[B5]? = W.heap[B5]?) (h6 : w'.heap[B6]? = W.heap[B6]?) (h : ElB b o B5 B6 x0 x1 x2 x3 y0 y1 y2 y3 u0 u1 u2 u3 W) : ElB b o B5 B6 x0 x1 x2 x3 y0 y1 y2 y3 u0 u1 u2 u3 w' := by
  obtain ⟨h0, h1, h2, h3, k0, k1, k2, k3, h4, h5', h6', h7⟩ := h
  have c (m : Nat) : w'.cell? ⟨b, m, none⟩ = W.cell? ⟨b, m, none⟩ := World.cell?_of_block hb
  have c' (m : Nat) : w'.cell? ⟨B5, m, none⟩ = W.cell? ⟨B5, m, none⟩ := World.cell?_of_block h5
  have d (m : Nat) : w'.cell? ⟨B6, m, none⟩ = W.cell? ⟨B6, m, none⟩ := World.cell?_of_block h6
  exact ⟨(c _).trans h0, (c _).trans h1, (c _).trans h2, (c _).trans h3, (c' _).trans k0, (c' _).trans k1, (c' _).trans k2, (c' _).trans k3, (d _).trans h4, (d _).trans h5', (d _).trans h6', (d _).trans h7⟩
/-- the second part of cons: evaluated only where the first gave no failure -/
noncomputable def evNext (fuel : Nat) (r : Res) (c env : Tm) : Res := if r.2.1 = 0 then ev fuel r.2.2 c env else (Tm.nil, r.2.1, r.2.2)
theorem evNext_good {fuel left : Nat} {r : Res} {c env : Tm} (h : GoodR r left) (hc : c.ok = true) (he : env.ok = true) : GoodR (evNext fuel r c env) left := by
  unfold evNext; split
  · exact (ev_good fuel _ _ _ hc he).mono h.left
  · exact h.fail
theorem evCons_next {fuel : Nat} {r : Res} {c env : Tm} : evCons (ev fuel) r c env = keepS (evNext fuel r c env).2.1 (Tm.pair r.1 (evNext fuel r c env).1) (evNext fuel r c env).2.2 := by
  unfold evCons evNext keepS
  by_cases h : r.2.1 = 0
  · rw [if_neg (by simp [h]), if_pos h]
    simp only
    by_cases h' : (ev fuel r.2.2 c env).2.1 = 0
    · rw [if_neg (by simp [h']), if_pos h']
    · rw [if_pos h', if_neg h', failV]
  · rw [if_pos h, if_neg h, if_neg h, failV]

set_option maxHeartbeats 8000000 in
set_option maxRecDepth 200000 in
theorem sp_cons (fuel : Nat) (ih : EvalS fuel) (left B : Nat) (k1 n1 : Int) (s1 : ByteArray) (xs1 : List Tm) (a1 : Option Addr) (l1 c1 : Nat) (F1 : List Nat) (k2 n2 : Int) (s2 : ByteArray) (xs2 : List Tm) (a2 : Option Addr) (l2 c2 : Nat) (F2 : List Nat) (w : World)
    (hlf : left ≤ fuel) (h1000 : left + 1 ≤ 1000) (hw : WalkAt w B (left + 1) 0) (h1 : RdS w xs1 a1 l1 c1 F1) (h2 : RdS w xs2 a2 l2 c2 F2) (hB1 : B ∉ F1) (hB2 : B ∉ F2) (hok1 : (Tm.mk k1 n1 s1 xs1).ok = true) (hok2 : (Tm.mk k2 n2 s2 xs2).ok = true) (hk : k1 ≠ 2) (htl : (Tm.mk k1 n1 s1 xs1).tl.kind = 0) (xk xn : Int) (xz : ByteArray) (xas : List Tm) (yk yn : Int) (yz : ByteArray) (yas : List Tm) (zk zn : Int) (zz : ByteArray) (zas : List Tm) (hits : (Tm.mk k1 n1 s1 xs1).its = [.mk xk xn xz xas, .mk yk yn yz yas, .mk zk zn zz zas]) (hq : isSym (.mk xk xn xz xas) ⟨#[99, 111, 110, 115]⟩ = true) (hnl : isSym (.mk xk xn xz xas) ⟨#[108, 97, 109, 98, 100, 97]⟩ = false) :
    Calls Try.prog 89 #[.pointer (some ⟨B, 0, none⟩), .agg #[.int .i64 k1, .int .i64 n1, .string s1, .slice a1 l1 c1], .agg #[.int .i64 k2, .int .i64 n2, .string s2, .slice a2 l2 c2]] w
      (SpOut w B (F1 ++ F2) (evStep (ev fuel) left (.mk k1 n1 s1 xs1) (.mk k2 n2 s2 xs2))) := by
  have hres : evStep (ev fuel) left (.mk k1 n1 s1 xs1) (.mk k2 n2 s2 xs2) = evCons (ev fuel) (ev fuel left (.mk yk yn yz yas) (Tm.mk k2 n2 s2 xs2)) (.mk zk zn zz zas) (Tm.mk k2 n2 s2 xs2) := by
    rw [evStep_list (show (Tm.mk k1 n1 s1 xs1).kind ≠ 2 from hk) htl]
    rw [hits, evForm, if_neg (by simp [hnl]), if_pos hq]
  rw [hres]
  have hk' : (k1 == 2) = false := by simpa using hk
  clear hres hk
  have HFc : Hid (formR (.mk k1 n1 s1 xs1) ⟨#[99, 111, 110, 115]⟩ 2 = some [.mk yk yn yz yas, .mk zk zn zz zas]) := formR_hit hits rfl htl (.inr hq)
  have HFquote : Hid (formR (.mk k1 n1 s1 xs1) ⟨#[113, 117, 111, 116, 101]⟩ 1 = none) := formR_len (by rw [hits]; simp)
  have HFlam : Hid (formR (.mk k1 n1 s1 xs1) ⟨#[108, 97, 109, 98, 100, 97]⟩ 2 = none) := formR_sym hits hnl (by decide)
  have HOKY := Lib.hid (its_ok hok1 (.mk yk yn yz yas) (by rw [hits]; simp))
  have HOKZ := Lib.hid (its_ok hok1 (.mk zk zn zz zas) (by rw [hits]; simp))
  rw [evCons_next]
  obtain ⟨rR, hrR⟩ : ∃ r : Res, r = ev fuel left (.mk yk yn yz yas) (Tm.mk k2 n2 s2 xs2) := ⟨_, rfl⟩
  rw [← hrR]
  have hgood : GoodR rR left := by rw [hrR]; exact ev_good fuel left _ _ HOKY.out hok2
  have HRR := Lib.hid hrR; have HGOOD := Lib.hid hgood
  obtain ⟨rQ, hrQ⟩ : ∃ r : Res, r = evNext fuel rR (.mk zk zn zz zas) (Tm.mk k2 n2 s2 xs2) := ⟨_, rfl⟩
  rw [← hrQ]
  have hgoodQ : GoodR rQ left := by rw [hrQ]; exact evNext_good hgood HOKZ.out hok2
  have HRQ := Lib.hid hrQ; have HGOODQ := Lib.hid hgoodQ
  clear htl hits hq hnl hrR hgood hrQ hgoodQ
  have HNquote : Hid (((⟨#[113, 117, 111, 116, 101]⟩ : ByteArray)).size = 0 ∨ (((⟨#[113, 117, 111, 116, 101]⟩ : ByteArray)).toList.isEmpty = false ∧ (Tm.sym ⟨#[113, 117, 111, 116, 101]⟩).wf = true)) := .inr (by decide +kernel)
  have HNlam : Hid (((⟨#[108, 97, 109, 98, 100, 97]⟩ : ByteArray)).size = 0 ∨ (((⟨#[108, 97, 109, 98, 100, 97]⟩ : ByteArray)).toList.isEmpty = false ∧ (Tm.sym ⟨#[108, 97, 109, 98, 100, 97]⟩).wf = true)) := .inr (by decide +kernel)
  have HNcons : Hid (((⟨#[99, 111, 110, 115]⟩ : ByteArray)).size = 0 ∨ (((⟨#[99, 111, 110, 115]⟩ : ByteArray)).toList.isEmpty = false ∧ (Tm.sym ⟨#[99, 111, 110, 115]⟩).wf = true)) := .inr (by decide +kernel)
  have HNcar : Hid (((⟨#[99, 97, 114]⟩ : ByteArray)).size = 0 ∨ (((⟨#[99, 97, 114]⟩ : ByteArray)).toList.isEmpty = false ∧ (Tm.sym ⟨#[99, 97, 114]⟩).wf = true)) := .inr (by decide +kernel)
  have HNcdr : Hid (((⟨#[99, 100, 114]⟩ : ByteArray)).size = 0 ∨ (((⟨#[99, 100, 114]⟩ : ByteArray)).toList.isEmpty = false ∧ (Tm.sym ⟨#[99, 100, 114]⟩).wf = true)) := .inr (by decide +kernel)
  have HNiff : Hid (((⟨#[105, 102]⟩ : ByteArray)).size = 0 ∨ (((⟨#[105, 102]⟩ : ByteArray)).toList.isEmpty = false ∧ (Tm.sym ⟨#[105, 102]⟩).wf = true)) := .inr (by decide +kernel)
  have HNempty : Hid (((⟨#[]⟩ : ByteArray)).size = 0 ∨ (((⟨#[]⟩ : ByteArray)).toList.isEmpty = false ∧ (Tm.sym ⟨#[]⟩).wf = true)) := .inl rfl
  obtain ⟨m0, m1, mf, hBl⟩ := walk_cells hw
  have hBw1 : B < w.heap.size + 1 := by omega
  have hBw2 : B < w.heap.size + 1 + 1 := by omega
  have hBw3 : B < w.heap.size + 1 + 1 + 1 := by omega
  obtain ⟨lf, hlfe⟩ : ∃ lf : Int, lf = ((left + 1 : Nat) : Int) := ⟨_, rfl⟩
  rw [← hlfe] at m0
  have hz0 : (lf == 0) = false := by simp; omega
  have hlf1 : 1 ≤ lf := by omega
  have hlf2 : lf ≤ 1000 := by omega
  have m1' : w.cell? ⟨B, 1, none⟩ = some (.int .i64 0) := m1
  have HW := Lib.hid hw; have HF1 := Lib.hid (RdS_lt h1); have HF2 := Lib.hid (RdS_lt h2); have IH := Lib.hid ih
  have HH1 := Lib.hid h1; have HH2 := Lib.hid h2; have HOK1 := Lib.hid hok1; have HOK2 := Lib.hid hok2; have HB1 := Lib.hid hB1; have HB2 := Lib.hid hB2; have HLF := Lib.hid hlfe
  clear hlfe hw m1 ih h1 h2 hok1 hok2 hB1 hB2
  go_enter Try.func89, Try.ntmps89
  go_wp2_with fail
  have hFs : Fs w ((((w.setCell ⟨B, 0, none⟩ (.int .i64 (lf - 1))).alloc (.cells #[.int .i64 k1, .int .i64 n1, .string s1, .slice a1 l1 c1] 26)).alloc (.cells #[.int .i64 k2, .int .i64 n2, .string s2, .slice a2 l2 c2] 26)).alloc (.cells #[.int .i64 0, .int .i64 0, .string ⟨#[]⟩, .slice none 0 0] 26)) B left 0 k1 n1 s1 a1 l1 c1 k2 n2 s2 a2 l2 c2 := by
    have hs : (w.setCell ⟨B, 0, none⟩ (.int .i64 (lf - 1))).heap.size = w.heap.size := by simp [World.setCell]
    refine ⟨?_, ?_, ?_, ?_, ?_, ?_⟩
    · rw [heap_old (by simp [World.setCell]; omega), heap_old (by simp [World.setCell])]; exact heap_new hs.symm
    · rw [heap_old (by simp [World.setCell])]; exact heap_new (by simp [World.setCell])
    · exact heap_new (by simp [World.setCell])
    · show _ = _
      rw [heap_old (by simp [World.setCell]; omega), heap_old (by simp [World.setCell]; omega), heap_old (by rw [hs]; exact hBl)]
      have h0 := heap_set (o := 0) (.int .i64 (lf - 1)) HW.out
      rw [h0, HLF.out]
      have he : ((left + 1 : Nat) : Int) - 1 = (left : Int) := by omega
      rw [he]; rfl
    · exact ⟨rfl, rfl, rfl, by simp [World.setCell]; omega, fun x hx hr => by
        rw [heap_old (by simp [World.setCell]; omega), heap_old (by simp [World.setCell]; omega), heap_old (by rw [hs]; exact hx)]
        exact heap_set_other _ (by simpa using hr)⟩
    · simp [World.setCell]
  generalize ((((w.setCell ⟨B, 0, none⟩ (.int .i64 (lf - 1))).alloc (.cells #[.int .i64 k1, .int .i64 n1, .string s1, .slice a1 l1 c1] 26)).alloc (.cells #[.int .i64 k2, .int .i64 n2, .string s2, .slice a2 l2 c2] 26)).alloc (.cells #[.int .i64 0, .int .i64 0, .string ⟨#[]⟩, .slice none 0 0] 26)) = V at *
  have hrdE : RdS V xs1 a1 l1 c1 F1 := RdS_grown HH1.out hFs.ext (fun x hx hh => HB1.out (hh ▸ hx))
  have hrdN : RdS V xs2 a2 l2 c2 F2 := RdS_grown HH2.out hFs.ext (fun x hx hh => HB2.out (hh ▸ hx))
  clear m0 m1' mf
  obtain ⟨p0, p1, p2, p3, pl⟩ := hFs.exp
  go_wp2_with fail
  refine (l40Form_any k1 n1 s1 xs1 a1 l1 c1 F1 ⟨#[113, 117, 111, 116, 101]⟩ 1 V hrdE HOK1.out (by omega) HNquote.out).mono ?_
  rintro e V1 ⟨hb, hor⟩
  rw [HFquote.out] at hor
  obtain rfl : e = .returned (.tuple #[.slice none 0 0, .bool false]) := by
    rcases hor with ⟨_, h'⟩ | ⟨_, _, _, _, _, h', _⟩
    · exact h'
    · cases h'
  replace hFs := hFs.below hBl hb
  replace hrdE := RdS_ext hrdE hb
  replace hrdN := RdS_ext hrdN hb
  have hbQ := hb
  clear p0 p1 p2 p3 pl hb hor
  obtain ⟨p0, p1, p2, p3, pl⟩ := hFs.exp
  go_wp2_with fail
  refine (l40Form_any k1 n1 s1 xs1 a1 l1 c1 F1 ⟨#[108, 97, 109, 98, 100, 97]⟩ 2 V1 hrdE HOK1.out (by omega) HNlam.out).mono ?_
  rintro e V2 ⟨hb, hor⟩
  rw [HFlam.out] at hor
  obtain rfl : e = .returned (.tuple #[.slice none 0 0, .bool false]) := by
    rcases hor with ⟨_, h'⟩ | ⟨_, _, _, _, _, h', _⟩
    · exact h'
    · cases h'
  replace hFs := hFs.below hBl hb
  replace hrdE := RdS_ext hrdE hb
  replace hrdN := RdS_ext hrdN hb
  have hbQ := hb
  clear p0 p1 p2 p3 pl hb hor
  obtain ⟨p0, p1, p2, p3, pl⟩ := hFs.exp
  have hsVh := hFs.sz
  go_wp2_with fail
  refine (l40Form_any k1 n1 s1 xs1 a1 l1 c1 F1 ⟨#[99, 111, 110, 115]⟩ 2 V2 hrdE HOK1.out (by omega) HNcons.out).mono ?_
  rintro e V3 ⟨hb, hor⟩
  rw [HFc.out] at hor
  obtain ⟨ia, il, ic, iF, rfl, hird, hiF⟩ : ∃ a l c F, e = .returned (.tuple #[.slice a l c, .bool true]) ∧ RdS V3 [.mk yk yn yz yas, .mk zk zn zz zas] a l c F ∧ ∀ x ∈ F, V2.heap.size ≤ x := by
    rcases hor with ⟨h', _⟩ | ⟨rest, a', l', c', F', h', h2', h3', h4'⟩
    · cases h'
    · cases h'; exact ⟨a', l', c', F', h2', h3', h4'⟩
  have hGi : Gd w F1 F2 iF := fun x hx => .inr (.inr (by have := hiF x hx; omega))
  obtain rfl : il = 2 := hird.1
  obtain ⟨ib, io, rfl⟩ := RdS_addr hird (by simp)
  replace hFs := hFs.below hBl hb
  replace hrdE := RdS_ext hrdE hb
  replace hrdN := RdS_ext hrdN hb
  have hBi : B ∉ iF := hGi.ne HB1.out HB2.out hBl
  have hibm : ib ∈ iF := by
    obtain ⟨_, _, h3⟩ := hird
    rcases h3 with ⟨h4, _⟩ | ⟨_, b', o', F', ha, hF', _⟩
    · simp at h4
    · simp at ha; rw [hF', ha.1]; simp
  have hibB : ib ≠ B := fun hh => hBi (hh ▸ hibm)
  have hib6 : ib ≠ w.heap.size + 1 + 1 := hGi.ne6 HF1.out HF2.out ib hibm
  clear p0 p1 p2 p3 pl hb hor hiF hibm hsVh
  obtain ⟨ya, yl, yc, yF, ⟨y0, y1, y2, y3⟩, hry, hyF, hbly⟩ := RdS_el0 hird rfl
  obtain ⟨f0, f1, f2, f3, fl⟩ := hFs.env
  go_upto_region 24 with fail
  go_cut [15] (fun s6 wx => SpRes V3 B w F1 F2 rR s6 wx)
  case first => as_aux_lemma =>
    have hGe := hGi.sub hyF
    have hBe : B ∉ yF := hGe.ne HB1.out HB2.out hBl
    have hBV : B < V3.heap.size := heap_lt hFs.wk
    have HFS := Lib.hid hFs
    have hbd : Below V3.heap.size V3 V3.drew := (Below.refl _ _).drew
    have hbz : Below V3.heap.size V3 (V3.alloc (.cells #[.int .i64 0, .int .i64 0, .string ⟨#[]⟩, .slice none 0 0] 26)).drew := ((Below.refl _ _).alloc (Nat.le_refl _) _).drew
    have CE := Lib.hid (IH.out left B yk yn yz yas ya yl yc yF k2 n2 s2 xs2 a2 l2 c2 F2)
    rw [← HRR.out] at CE
    have HS : Hid (El8 ib (io) (w.heap.size + 1) (.int .i64 yk) (.int .i64 yn) (.string yz) (.slice ya yl yc) (.int .i64 k2) (.int .i64 n2) (.string s2) (.slice a2 l2 c2) V3) := ⟨y0, y1, y2, y3, f0, f1, f2, f3⟩
    have hsV1 := hFs.sz
    have hne5 : w.heap.size + 1 ≠ B := by omega
    have hneV : ib ≠ V3.heap.size := by omega
    have hne5V : w.heap.size + 1 ≠ V3.heap.size := by omega
    have hlF : ∀ x ∈ yF, x < V3.heap.size := RdS_lt hry
    have hlN : ∀ x ∈ F2, x < V3.heap.size := fun x hx => by have := HF2.out x hx; omega
    have HLF := Lib.hid hlF; have HLN := Lib.hid hlN
    clear hlF hlN
    go_region_held3 (fun w' => w'.cell? ⟨ib, io, none⟩ = some (.int .i64 yk) ∧ w'.cell? ⟨ib, io + 1, none⟩ = some (.int .i64 yn) ∧ w'.cell? ⟨ib, io + 2, none⟩ = some (.string yz) ∧ w'.cell? ⟨ib, io + 3, none⟩ = some (.slice ya yl yc) ∧ w'.cell? ⟨w.heap.size + 1, 0, none⟩ = some (.int .i64 k2) ∧ w'.cell? ⟨w.heap.size + 1, 1, none⟩ = some (.int .i64 n2) ∧ w'.cell? ⟨w.heap.size + 1, 2, none⟩ = some (.string s2) ∧ w'.cell? ⟨w.heap.size + 1, 3, none⟩ = some (.slice a2 l2 c2))
      (first | with_reducible exact El8.same (hbd.block _ hbly) (hbd.block _ fl) HS.out | with_reducible exact El8.same (hbz.block _ hbly) (hbz.block _ fl) HS.out | with_reducible exact El8.same (hg.block _ hbly (by simpa using hibB)) (hg.block _ fl (by simpa using hne5)) HS.out | with_reducible exact El8.same ((heap_old (Nat.lt_of_lt_of_le hbly hg.size)).trans (hg.block _ hbly (by simpa using hibB))) ((heap_old (Nat.lt_of_lt_of_le fl hg.size)).trans (hg.block _ fl (by simpa using hne5))) HS.out | with_reducible exact El8.same ((heap_set4_other hneV).trans (hg.block _ hbly (by simpa using hibB))) ((heap_set4_other hne5V).trans (hg.block _ fl (by simpa using hne5))) HS.out)
      (first | (go_at_call 89; (with_reducible refine (CE.out _ (by omega) (by omega) ?_ ?_ ?_ hBe HB2.out HOKY.out HOK2.out).mono ?_); (first | exact walk_below hbd hBV HFS.out.wk | exact walk_below hbz hBV HFS.out.wk); (first | exact RdS_ext hry hbd | exact RdS_ext hry hbz); (first | exact RdS_ext hrdN hbd | exact RdS_ext hrdN hbz); rintro e w5 ⟨k9, n9, z9, xs9, a9, l9, c9, F9, hr9, rfl, hrd9, hF9, hg9, hl9⟩; (first | (have hg : V3.grownBy w5 (some B) := grown_trans (grown_below hbd _) hg9) | (have hg : V3.grownBy w5 (some B) := grown_trans (grown_below hbz _) hg9)); have hG9 : Gd w F1 F2 F9 := (fun x hx => by rcases hF9 x hx with h' | h'; (rcases List.mem_append.1 h' with h' | h'; exact hGe x h'; exact .inr (.inl h')); (simp at h'; exact .inr (.inr (by omega)))); (try (have hz : w5.heap[V3.heap.size]? = some (.cells #[.int .i64 0, .int .i64 0, .string ⟨#[]⟩, .slice none 0 0] 26 (0, 0)) := (hg9.block _ (by simp) (by simp; omega)).trans (heap_new rfl); obtain ⟨z0, z1, z2, z3, zf⟩ := box4 hz; have hzl := heap_lt hz; have HZ := Lib.hid hz; clear hz; have hne9 : ∀ x ∈ F9, x ≠ V3.heap.size := (fun x hx => by rcases hF9 x hx with h' | h'; (rcases List.mem_append.1 h' with h' | h'; (have := HLF.out x h'; omega); (have := HLN.out x h'; omega)); (simp at h'; omega))))))
    all_goals (go_wp2_with fail; go_meet; first | exact SpRes_new hr9 hrd9 hG9 hg hl9 | exact SpRes_set hr9 hrd9 hG9 hg hl9 (Nat.le_refl _) HZ.out hne9 (by omega))
  case rest =>
    obtain ⟨BR, kR, nR, zR, xsR, aR, lR, cR, FR, rfl, hrR, hbxR, hGR, hg, hl, hBvR⟩ := hcut
    obtain ⟨V4, hVV⟩ : ∃ x : World, x = wc := ⟨_, rfl⟩
    subst hVV
    have hszV := hFs.sz
    replace hFs := hFs.grown hBl hg hl
    replace hrdN := RdS_grown hrdN hg (fun x hx hh => HB2.out (hh ▸ hx))
    replace hird := RdS_grown hird hg (fun x hx hh => hBi (hh ▸ hx))
    clear f0 f1 f2 f3 fl
    clear y0 y1 y2 y3 hry hyF hbly
    obtain ⟨za, zl, zc, zF, ⟨z0, z1, z2, z3⟩, hrz, hzF, hblz⟩ := RdS_el1 hird rfl
    obtain ⟨f0, f1, f2, f3, fl⟩ := hFs.env
    obtain ⟨g0, g1, g2, g3, gl⟩ := hbxR.cells
    have hlR := HGOOD.out.left
    go_wp2_with fail
    have hGz := hGi.sub hzF
    have hBz : B ∉ zF := hGz.ne HB1.out HB2.out hBl
    have hBR : B ∉ FR := hGR.ne HB1.out HB2.out hBl
    have hBV : B < V4.heap.size := heap_lt hFs.wk
    have HFS := Lib.hid hFs
    have hbd : Below V4.heap.size V4 V4.drew := (Below.refl _ _).drew
    have CE : Hid (Calls Try.prog 89 #[.pointer (some ⟨B, 0, none⟩), .agg #[.int .i64 zk, .int .i64 zn, .string zz, .slice za zl zc], .agg #[.int .i64 k2, .int .i64 n2, .string s2, .slice a2 l2 c2]] V4.drew
          (SpOut V4.drew B (zF ++ F2) rQ)) := by
      show Calls _ _ _ _ _
      rw [HRQ.out, evNext]
      by_cases h0 : rR.2.1 = 0
      · rw [if_pos h0]
        have hwk := walk_below hbd hBV HFS.out.wk
        rw [h0] at hwk
        exact IH.out rR.2.2 B zk zn zz zas za zl zc zF k2 n2 s2 xs2 a2 l2 c2 F2 V4.drew (by omega) (by omega) hwk (RdS_ext hrz hbd) (RdS_ext hrdN hbd) hBz HB2.out HOKZ.out HOK2.out
      · rw [if_neg h0]
        exact evalS_dead rR.2.2 rR.2.1 B zk zn zz za zl zc zF k2 n2 s2 a2 l2 c2 F2 V4.drew h0 (walk_below hbd hBV HFS.out.wk)
    have HS : Hid (ElB ib (io + 4) (w.heap.size + 1) BR (.int .i64 zk) (.int .i64 zn) (.string zz) (.slice za zl zc) (.int .i64 k2) (.int .i64 n2) (.string s2) (.slice a2 l2 c2) (.int .i64 kR) (.int .i64 nR) (.string zR) (.slice aR lR cR) V4) := ⟨z0, z1, z2, z3, f0, f1, f2, f3, g0, g1, g2, g3⟩
    have hsV1 := hFs.sz
    have hne5 : w.heap.size + 1 ≠ B := by omega
    have hne56 : w.heap.size + 1 ≠ w.heap.size + 1 + 1 := by omega
    have hneR : BR ≠ B := by omega
    have hneR6 : BR ≠ w.heap.size + 1 + 1 := by omega
    go_region_held3 (fun w' => w'.cell? ⟨ib, io + 4, none⟩ = some (.int .i64 zk) ∧ w'.cell? ⟨ib, io + 4 + 1, none⟩ = some (.int .i64 zn) ∧ w'.cell? ⟨ib, io + 4 + 2, none⟩ = some (.string zz) ∧ w'.cell? ⟨ib, io + 4 + 3, none⟩ = some (.slice za zl zc) ∧ w'.cell? ⟨w.heap.size + 1, 0, none⟩ = some (.int .i64 k2) ∧ w'.cell? ⟨w.heap.size + 1, 1, none⟩ = some (.int .i64 n2) ∧ w'.cell? ⟨w.heap.size + 1, 2, none⟩ = some (.string s2) ∧ w'.cell? ⟨w.heap.size + 1, 3, none⟩ = some (.slice a2 l2 c2) ∧ w'.cell? ⟨BR, 0, none⟩ = some (.int .i64 kR) ∧ w'.cell? ⟨BR, 1, none⟩ = some (.int .i64 nR) ∧ w'.cell? ⟨BR, 2, none⟩ = some (.string zR) ∧ w'.cell? ⟨BR, 3, none⟩ = some (.slice aR lR cR))
      (first | with_reducible exact ElB.same (hbd.block _ hblz) (hbd.block _ fl) (hbd.block _ gl) HS.out | with_reducible exact ElB.same (hg.block _ hblz (by simpa using hibB)) (hg.block _ fl (by simpa using hne5)) (hg.block _ gl (by simpa using hneR)) HS.out | with_reducible exact ElB.same ((heap_set4_other hib6).trans (hg.block _ hblz (by simpa using hibB))) ((heap_set4_other hne56).trans (hg.block _ fl (by simpa using hne5))) ((heap_set4_other hneR6).trans (hg.block _ gl (by simpa using hneR))) HS.out)
      (first | (go_at_call 89; (with_reducible refine CE.out.mono ?_); rintro e w5 ⟨k9, n9, z9, xs9, a9, l9, c9, F9, hr9, rfl, hrd9, hF9, hg9, hl9⟩; have hg : V4.grownBy w5 (some B) := grown_trans (grown_below hbd _) hg9; have hG9 : Gd w F1 F2 F9 := (fun x hx => by rcases hF9 x hx with h' | h'; (rcases List.mem_append.1 h' with h' | h'; exact hGz x h'; exact .inr (.inl h')); (simp at h'; exact .inr (.inr (by omega))))) | (go_at_call 72; (with_reducible refine (l02Pair_any kR nR k9 n9 zR z9 aR a9 lR cR l9 c9 w5).mono ?_); rintro e w6 ⟨b3, rfl, hb3l, hrow3, hb3⟩; have hl6 := walk_below hb3 (heap_lt hl9) hl9; have hs5 := hg.size; have hrp := RdS_two hrow3 (Nat.le_refl 2) (RdS_ext (RdS_grown hbxR.rd hg (fun x hx hh => hBR (hh ▸ hx))) hb3) (RdS_ext hrd9 hb3); replace hg : V4.grownBy w6 (some B) := grown_trans hg (grown_below hb3 _)) | (go_at_call 106; (with_reducible refine (l40Keep_any B rQ.2.2 rQ.2.1 4 0 ByteArray.empty [.mk kR nR zR xsR, .mk k9 n9 z9 xs9] (some ⟨b3, 0, none⟩) 2 2 (b3 :: (FR ++ F9)) w6 hl6 hrp ?_ ?_).mono ?_); (have h1 := (ok_wf HGOOD.out.ok).1; have h2 := (ok_wf HGOODQ.out.ok).1; rw [hrR] at h1; rw [hr9] at h2; rw [wf_pair rfl rfl rfl, h1, h2]; rfl); (have h1 := (ok_wf HGOOD.out.ok).2; have h2 := (ok_wf HGOODQ.out.ok).2; rw [hrR] at h1; rw [hr9] at h2; rw [cnt_pair]; omega); rintro e w7 ⟨k8, n8, z8, xs8, a8, l8, c8, F8, hr8, rfl, hrd8, hF8, hg8, hl8⟩; replace hg : V4.grownBy w7 (some B) := grown_trans hg hg8; have hFs5 := HFS.out.grown hBl hg hl8; obtain ⟨t0, t1, t2, t3, tf, tl⟩ := hFs5.res))
    have hs6 := hb3.size
    have hG8 : Gd w F1 F2 F8 := fun x hx => by
      rcases hF8 x hx with h' | h'
      · rcases List.mem_cons.1 h' with h' | h'
        · exact .inr (.inr (by omega))
        · rcases List.mem_append.1 h' with h' | h'
          · exact hGR x h'
          · exact hG9 x h'
      · exact .inr (.inr (by omega))
    have HE : Hid (keepS rQ.2.1 (Tm.pair rR.1 rQ.1) rQ.2.2 = keepS rQ.2.1 (.mk 4 0 ByteArray.empty [.mk kR nR zR xsR, .mk k9 n9 z9 xs9]) rQ.2.2) := by
      show _ = _
      rw [hrR, hr9]; rfl
    replace hFs := hFs5
    have rl := tl
    have HR8 := Lib.hid hr8
    clear hr8 hr9 hrR
    go_wp2
    rw [HE.out]
    exact bodyPost_ret (v := .agg #[.int .i64 k8, .int .i64 n8, .string z8, .slice a8 l8 c8]) (results_term rfl _ _ (w.heap.size + 1 + 1) rfl (heap_set4 hFs.b6)) rfl (hFs.out (r := keepS rQ.2.1 (.mk 4 0 ByteArray.empty [.mk kR nR zR xsR, .mk k9 n9 z9 xs9]) rQ.2.2) hBl HF1.out HF2.out HR8.out rfl rfl hrd8 hG8)
end Go.Proofs.Ytjkabbkaeioibaa
namespace Go.Proofs.Ytjkabbkaeioibaa
open Go.RowKit
set_option linter.unusedVariables false

set_option maxHeartbeats 8000000 in
set_option maxRecDepth 200000 in
theorem sp_car (fuel : Nat) (ih : EvalS fuel) (left B : Nat) (k1 n1 : Int) (s1 : ByteArray) (xs1 : List Tm) (a1 : Option Addr) (l1 c1 : Nat) (F1 : List Nat) (k2 n2 : Int) (s2 : ByteArray) (xs2 : List Tm) (a2 : Option Addr) (l2 c2 : Nat) (F2 : List Nat) (w : World)
    (hlf : left ≤ fuel) (h1000 : left + 1 ≤ 1000) (hw : WalkAt w B (left + 1) 0) (h1 : RdS w xs1 a1 l1 c1 F1) (h2 : RdS w xs2 a2 l2 c2 F2) (hB1 : B ∉ F1) (hB2 : B ∉ F2) (hok1 : (Tm.mk k1 n1 s1 xs1).ok = true) (hok2 : (Tm.mk k2 n2 s2 xs2).ok = true) (hk : k1 ≠ 2) (htl : (Tm.mk k1 n1 s1 xs1).tl.kind = 0) (xk xn : Int) (xz : ByteArray) (xas : List Tm) (yk yn : Int) (yz : ByteArray) (yas : List Tm) (hits : (Tm.mk k1 n1 s1 xs1).its = [.mk xk xn xz xas, .mk yk yn yz yas]) (hq : isSym (.mk xk xn xz xas) ⟨#[113, 117, 111, 116, 101]⟩ = false) (hc : isSym (.mk xk xn xz xas) ⟨#[99, 97, 114]⟩ = true) :
    Calls Try.prog 89 #[.pointer (some ⟨B, 0, none⟩), .agg #[.int .i64 k1, .int .i64 n1, .string s1, .slice a1 l1 c1], .agg #[.int .i64 k2, .int .i64 n2, .string s2, .slice a2 l2 c2]] w
      (SpOut w B (F1 ++ F2) (evStep (ev fuel) left (.mk k1 n1 s1 xs1) (.mk k2 n2 s2 xs2))) := by
  have hres : evStep (ev fuel) left (.mk k1 n1 s1 xs1) (.mk k2 n2 s2 xs2) = evSel (ev fuel left (.mk yk yn yz yas) (Tm.mk k2 n2 s2 xs2)) true := by
    rw [evStep_list (show (Tm.mk k1 n1 s1 xs1).kind ≠ 2 from hk) htl]
    rw [hits, evForm, if_neg (by simp [hq]), if_pos (.inl hc), hc]
  rw [hres]
  have hk' : (k1 == 2) = false := by simpa using hk
  clear hres hk
  have HFs : Hid (formR (.mk k1 n1 s1 xs1) ⟨#[99, 97, 114]⟩ 1 = some [.mk yk yn yz yas]) := formR_hit hits rfl htl (.inr hc)
  have HFquote : Hid (formR (.mk k1 n1 s1 xs1) ⟨#[113, 117, 111, 116, 101]⟩ 1 = none) := formR_sym hits hq (by decide)
  have HFlam : Hid (formR (.mk k1 n1 s1 xs1) ⟨#[108, 97, 109, 98, 100, 97]⟩ 2 = none) := formR_len (by rw [hits]; simp)
  have HFcons : Hid (formR (.mk k1 n1 s1 xs1) ⟨#[99, 111, 110, 115]⟩ 2 = none) := formR_len (by rw [hits]; simp)
  have HOKY := Lib.hid (its_ok hok1 (.mk yk yn yz yas) (by rw [hits]; simp))
  obtain ⟨rR, hrR⟩ : ∃ r : Res, r = ev fuel left (.mk yk yn yz yas) (Tm.mk k2 n2 s2 xs2) := ⟨_, rfl⟩
  rw [← hrR]
  have hgood : GoodR rR left := by rw [hrR]; exact ev_good fuel left _ _ HOKY.out hok2
  have HRR := Lib.hid hrR; have HGOOD := Lib.hid hgood
  obtain ⟨rs, hrs⟩ : ∃ r : Res, r = evSel rR true := ⟨_, rfl⟩
  rw [← hrs]
  have HRS := Lib.hid hrs
  clear htl hits hq hc hrR hgood hrs
  have HNquote : Hid (((⟨#[113, 117, 111, 116, 101]⟩ : ByteArray)).size = 0 ∨ (((⟨#[113, 117, 111, 116, 101]⟩ : ByteArray)).toList.isEmpty = false ∧ (Tm.sym ⟨#[113, 117, 111, 116, 101]⟩).wf = true)) := .inr (by decide +kernel)
  have HNlam : Hid (((⟨#[108, 97, 109, 98, 100, 97]⟩ : ByteArray)).size = 0 ∨ (((⟨#[108, 97, 109, 98, 100, 97]⟩ : ByteArray)).toList.isEmpty = false ∧ (Tm.sym ⟨#[108, 97, 109, 98, 100, 97]⟩).wf = true)) := .inr (by decide +kernel)
  have HNcons : Hid (((⟨#[99, 111, 110, 115]⟩ : ByteArray)).size = 0 ∨ (((⟨#[99, 111, 110, 115]⟩ : ByteArray)).toList.isEmpty = false ∧ (Tm.sym ⟨#[99, 111, 110, 115]⟩).wf = true)) := .inr (by decide +kernel)
  have HNcar : Hid (((⟨#[99, 97, 114]⟩ : ByteArray)).size = 0 ∨ (((⟨#[99, 97, 114]⟩ : ByteArray)).toList.isEmpty = false ∧ (Tm.sym ⟨#[99, 97, 114]⟩).wf = true)) := .inr (by decide +kernel)
  have HNcdr : Hid (((⟨#[99, 100, 114]⟩ : ByteArray)).size = 0 ∨ (((⟨#[99, 100, 114]⟩ : ByteArray)).toList.isEmpty = false ∧ (Tm.sym ⟨#[99, 100, 114]⟩).wf = true)) := .inr (by decide +kernel)
  have HNiff : Hid (((⟨#[105, 102]⟩ : ByteArray)).size = 0 ∨ (((⟨#[105, 102]⟩ : ByteArray)).toList.isEmpty = false ∧ (Tm.sym ⟨#[105, 102]⟩).wf = true)) := .inr (by decide +kernel)
  have HNempty : Hid (((⟨#[]⟩ : ByteArray)).size = 0 ∨ (((⟨#[]⟩ : ByteArray)).toList.isEmpty = false ∧ (Tm.sym ⟨#[]⟩).wf = true)) := .inl rfl
  obtain ⟨m0, m1, mf, hBl⟩ := walk_cells hw
  have hBw1 : B < w.heap.size + 1 := by omega
  have hBw2 : B < w.heap.size + 1 + 1 := by omega
  have hBw3 : B < w.heap.size + 1 + 1 + 1 := by omega
  obtain ⟨lf, hlfe⟩ : ∃ lf : Int, lf = ((left + 1 : Nat) : Int) := ⟨_, rfl⟩
  rw [← hlfe] at m0
  have hz0 : (lf == 0) = false := by simp; omega
  have hlf1 : 1 ≤ lf := by omega
  have hlf2 : lf ≤ 1000 := by omega
  have m1' : w.cell? ⟨B, 1, none⟩ = some (.int .i64 0) := m1
  have HW := Lib.hid hw; have HF1 := Lib.hid (RdS_lt h1); have HF2 := Lib.hid (RdS_lt h2); have IH := Lib.hid ih
  have HH1 := Lib.hid h1; have HH2 := Lib.hid h2; have HOK1 := Lib.hid hok1; have HOK2 := Lib.hid hok2; have HB1 := Lib.hid hB1; have HB2 := Lib.hid hB2; have HLF := Lib.hid hlfe
  clear hlfe hw m1 ih h1 h2 hok1 hok2 hB1 hB2
  go_enter Try.func89, Try.ntmps89
  go_wp2_with fail
  have hFs : Fs w ((((w.setCell ⟨B, 0, none⟩ (.int .i64 (lf - 1))).alloc (.cells #[.int .i64 k1, .int .i64 n1, .string s1, .slice a1 l1 c1] 26)).alloc (.cells #[.int .i64 k2, .int .i64 n2, .string s2, .slice a2 l2 c2] 26)).alloc (.cells #[.int .i64 0, .int .i64 0, .string ⟨#[]⟩, .slice none 0 0] 26)) B left 0 k1 n1 s1 a1 l1 c1 k2 n2 s2 a2 l2 c2 := by
    have hs : (w.setCell ⟨B, 0, none⟩ (.int .i64 (lf - 1))).heap.size = w.heap.size := by simp [World.setCell]
    refine ⟨?_, ?_, ?_, ?_, ?_, ?_⟩
    · rw [heap_old (by simp [World.setCell]; omega), heap_old (by simp [World.setCell])]; exact heap_new hs.symm
    · rw [heap_old (by simp [World.setCell])]; exact heap_new (by simp [World.setCell])
    · exact heap_new (by simp [World.setCell])
    · show _ = _
      rw [heap_old (by simp [World.setCell]; omega), heap_old (by simp [World.setCell]; omega), heap_old (by rw [hs]; exact hBl)]
      have h0 := heap_set (o := 0) (.int .i64 (lf - 1)) HW.out
      rw [h0, HLF.out]
      have he : ((left + 1 : Nat) : Int) - 1 = (left : Int) := by omega
      rw [he]; rfl
    · exact ⟨rfl, rfl, rfl, by simp [World.setCell]; omega, fun x hx hr => by
        rw [heap_old (by simp [World.setCell]; omega), heap_old (by simp [World.setCell]; omega), heap_old (by rw [hs]; exact hx)]
        exact heap_set_other _ (by simpa using hr)⟩
    · simp [World.setCell]
  generalize ((((w.setCell ⟨B, 0, none⟩ (.int .i64 (lf - 1))).alloc (.cells #[.int .i64 k1, .int .i64 n1, .string s1, .slice a1 l1 c1] 26)).alloc (.cells #[.int .i64 k2, .int .i64 n2, .string s2, .slice a2 l2 c2] 26)).alloc (.cells #[.int .i64 0, .int .i64 0, .string ⟨#[]⟩, .slice none 0 0] 26)) = V at *
  have hrdE : RdS V xs1 a1 l1 c1 F1 := RdS_grown HH1.out hFs.ext (fun x hx hh => HB1.out (hh ▸ hx))
  have hrdN : RdS V xs2 a2 l2 c2 F2 := RdS_grown HH2.out hFs.ext (fun x hx hh => HB2.out (hh ▸ hx))
  clear m0 m1' mf
  obtain ⟨p0, p1, p2, p3, pl⟩ := hFs.exp
  go_wp2_with fail
  refine (l40Form_any k1 n1 s1 xs1 a1 l1 c1 F1 ⟨#[113, 117, 111, 116, 101]⟩ 1 V hrdE HOK1.out (by omega) HNquote.out).mono ?_
  rintro e V1 ⟨hb, hor⟩
  rw [HFquote.out] at hor
  obtain rfl : e = .returned (.tuple #[.slice none 0 0, .bool false]) := by
    rcases hor with ⟨_, h'⟩ | ⟨_, _, _, _, _, h', _⟩
    · exact h'
    · cases h'
  replace hFs := hFs.below hBl hb
  replace hrdE := RdS_ext hrdE hb
  replace hrdN := RdS_ext hrdN hb
  have hbQ := hb
  clear p0 p1 p2 p3 pl hb hor
  obtain ⟨p0, p1, p2, p3, pl⟩ := hFs.exp
  go_wp2_with fail
  refine (l40Form_any k1 n1 s1 xs1 a1 l1 c1 F1 ⟨#[108, 97, 109, 98, 100, 97]⟩ 2 V1 hrdE HOK1.out (by omega) HNlam.out).mono ?_
  rintro e V2 ⟨hb, hor⟩
  rw [HFlam.out] at hor
  obtain rfl : e = .returned (.tuple #[.slice none 0 0, .bool false]) := by
    rcases hor with ⟨_, h'⟩ | ⟨_, _, _, _, _, h', _⟩
    · exact h'
    · cases h'
  replace hFs := hFs.below hBl hb
  replace hrdE := RdS_ext hrdE hb
  replace hrdN := RdS_ext hrdN hb
  have hbQ := hb
  clear p0 p1 p2 p3 pl hb hor
  obtain ⟨p0, p1, p2, p3, pl⟩ := hFs.exp
  go_wp2_with fail
  refine (l40Form_any k1 n1 s1 xs1 a1 l1 c1 F1 ⟨#[99, 111, 110, 115]⟩ 2 V2 hrdE HOK1.out (by omega) HNcons.out).mono ?_
  rintro e V3 ⟨hb, hor⟩
  rw [HFcons.out] at hor
  obtain rfl : e = .returned (.tuple #[.slice none 0 0, .bool false]) := by
    rcases hor with ⟨_, h'⟩ | ⟨_, _, _, _, _, h', _⟩
    · exact h'
    · cases h'
  replace hFs := hFs.below hBl hb
  replace hrdE := RdS_ext hrdE hb
  replace hrdN := RdS_ext hrdN hb
  have hbQ := hb
  clear p0 p1 p2 p3 pl hb hor
  go_wp2_with fail
  have hbN : Below V3.heap.size V3 (V3.alloc (.cells #[.string ⟨#[99, 97, 114]⟩, .string ⟨#[99, 100, 114]⟩] 9)) := (Below.refl _ _).alloc (Nat.le_refl _) _
  have hNb : (V3.alloc (.cells #[.string ⟨#[99, 97, 114]⟩, .string ⟨#[99, 100, 114]⟩] 9)).heap[V3.heap.size]? = some (.cells #[.string ⟨#[99, 97, 114]⟩, .string ⟨#[99, 100, 114]⟩] 9 (0, 0)) := heap_new rfl
  generalize V3.alloc (.cells #[.string ⟨#[99, 97, 114]⟩, .string ⟨#[99, 100, 114]⟩] 9) = N at *
  replace hFs := hFs.below hBl hbN
  replace hrdE := RdS_ext hrdE hbN
  replace hrdN := RdS_ext hrdN hbN
  have HNB := Lib.hid hNb
  have hnbl := heap_lt hNb
  have HST := Lib.hid hFs; have HSE := Lib.hid hrdE; have HSN := Lib.hid hrdN
  clear hbN hNb hFs hrdE hrdN
  go_loopw [146] (fun iv wr => ∃ j : Nat, j ≤ 0 ∧ iv = .int .i64 j ∧ Below N.heap.size N wr) (fun iv _ => 2 - (intOf iv).toNat)
  case atStart => exact ⟨0, by omega, rfl, Below.refl _ _⟩
  case round =>
    obtain ⟨j, hj, rfl, hbr⟩ := hrel
    have hFs := HST.out.below hBl hbr
    have hrdE := RdS_ext HSE.out hbr
    have hrdN := RdS_ext HSN.out hbr
    have hnr := (hbr.block _ hnbl).trans HNB.out
    have n0 : wr.cell? ⟨V3.heap.size, 0, none⟩ = some (.string ⟨#[99, 97, 114]⟩) := by simpa using cell_of_block hnr 0
    have n1' : wr.cell? ⟨V3.heap.size, 1, none⟩ = some (.string ⟨#[99, 100, 114]⟩) := by simpa using cell_of_block hnr 1
    clear hnr
    obtain rfl : j = 0 := by omega
    obtain ⟨p0, p1, p2, p3, pl⟩ := hFs.exp
    have hsVh := hFs.sz
    go_wp2_with fail
    refine (l40Form_any k1 n1 s1 xs1 a1 l1 c1 F1 ⟨#[99, 97, 114]⟩ 1 wr hrdE HOK1.out (by omega) HNcar.out).mono ?_
    rintro e V31 ⟨hb, hor⟩
    rw [HFs.out] at hor
    obtain ⟨ia, il, ic, iF, rfl, hird, hiF⟩ : ∃ a l c F, e = .returned (.tuple #[.slice a l c, .bool true]) ∧ RdS V31 [.mk yk yn yz yas] a l c F ∧ ∀ x ∈ F, wr.heap.size ≤ x := by
      rcases hor with ⟨h', _⟩ | ⟨rest, a', l', c', F', h', h2', h3', h4'⟩
      · cases h'
      · cases h'; exact ⟨a', l', c', F', h2', h3', h4'⟩
    have hGi : Gd w F1 F2 iF := fun x hx => .inr (.inr (by have := hiF x hx; omega))
    obtain rfl : il = 1 := hird.1
    obtain ⟨ib, io, rfl⟩ := RdS_addr hird (by simp)
    replace hFs := hFs.below hBl hb
    replace hrdE := RdS_ext hrdE hb
    replace hrdN := RdS_ext hrdN hb
    have hBi : B ∉ iF := hGi.ne HB1.out HB2.out hBl
    have hibm : ib ∈ iF := by
      obtain ⟨_, _, h3⟩ := hird
      rcases h3 with ⟨h4, _⟩ | ⟨_, b', o', F', ha, hF', _⟩
      · simp at h4
      · simp at ha; rw [hF', ha.1]; simp
    have hibB : ib ≠ B := fun hh => hBi (hh ▸ hibm)
    have hib6 : ib ≠ w.heap.size + 1 + 1 := hGi.ne6 HF1.out HF2.out ib hibm
    clear p0 p1 p2 p3 pl hb hor hiF hibm hsVh
    clear n0 n1'
    obtain ⟨ya, yl, yc, yF, ⟨y0, y1, y2, y3⟩, hry, hyF, hbly⟩ := RdS_el0 hird rfl
    obtain ⟨f0, f1, f2, f3, fl⟩ := hFs.env
    go_upto_region 31 with fail
    go_cut [18] (fun s6 wx => SpRes V31 B w F1 F2 rR s6 wx)
    case first => as_aux_lemma =>
      have hGe := hGi.sub hyF
      have hBe : B ∉ yF := hGe.ne HB1.out HB2.out hBl
      have hBV : B < V31.heap.size := heap_lt hFs.wk
      have HFS := Lib.hid hFs
      have hbd : Below V31.heap.size V31 V31.drew := (Below.refl _ _).drew
      have hbz : Below V31.heap.size V31 (V31.alloc (.cells #[.int .i64 0, .int .i64 0, .string ⟨#[]⟩, .slice none 0 0] 26)).drew := ((Below.refl _ _).alloc (Nat.le_refl _) _).drew
      have CE := Lib.hid (IH.out left B yk yn yz yas ya yl yc yF k2 n2 s2 xs2 a2 l2 c2 F2)
      rw [← HRR.out] at CE
      have HS : Hid (El8 ib (io) (w.heap.size + 1) (.int .i64 yk) (.int .i64 yn) (.string yz) (.slice ya yl yc) (.int .i64 k2) (.int .i64 n2) (.string s2) (.slice a2 l2 c2) V31) := ⟨y0, y1, y2, y3, f0, f1, f2, f3⟩
      have hsV1 := hFs.sz
      have hne5 : w.heap.size + 1 ≠ B := by omega
      have hneV : ib ≠ V31.heap.size := by omega
      have hne5V : w.heap.size + 1 ≠ V31.heap.size := by omega
      have hlF : ∀ x ∈ yF, x < V31.heap.size := RdS_lt hry
      have hlN : ∀ x ∈ F2, x < V31.heap.size := fun x hx => by have := HF2.out x hx; omega
      have HLF := Lib.hid hlF; have HLN := Lib.hid hlN
      clear hlF hlN
      go_region_held3 (fun w' => w'.cell? ⟨ib, io, none⟩ = some (.int .i64 yk) ∧ w'.cell? ⟨ib, io + 1, none⟩ = some (.int .i64 yn) ∧ w'.cell? ⟨ib, io + 2, none⟩ = some (.string yz) ∧ w'.cell? ⟨ib, io + 3, none⟩ = some (.slice ya yl yc) ∧ w'.cell? ⟨w.heap.size + 1, 0, none⟩ = some (.int .i64 k2) ∧ w'.cell? ⟨w.heap.size + 1, 1, none⟩ = some (.int .i64 n2) ∧ w'.cell? ⟨w.heap.size + 1, 2, none⟩ = some (.string s2) ∧ w'.cell? ⟨w.heap.size + 1, 3, none⟩ = some (.slice a2 l2 c2))
        (first | with_reducible exact El8.same (hbd.block _ hbly) (hbd.block _ fl) HS.out | with_reducible exact El8.same (hbz.block _ hbly) (hbz.block _ fl) HS.out | with_reducible exact El8.same (hg.block _ hbly (by simpa using hibB)) (hg.block _ fl (by simpa using hne5)) HS.out | with_reducible exact El8.same ((heap_old (Nat.lt_of_lt_of_le hbly hg.size)).trans (hg.block _ hbly (by simpa using hibB))) ((heap_old (Nat.lt_of_lt_of_le fl hg.size)).trans (hg.block _ fl (by simpa using hne5))) HS.out | with_reducible exact El8.same ((heap_set4_other hneV).trans (hg.block _ hbly (by simpa using hibB))) ((heap_set4_other hne5V).trans (hg.block _ fl (by simpa using hne5))) HS.out)
        (first | (go_at_call 89; (with_reducible refine (CE.out _ (by omega) (by omega) ?_ ?_ ?_ hBe HB2.out HOKY.out HOK2.out).mono ?_); (first | exact walk_below hbd hBV HFS.out.wk | exact walk_below hbz hBV HFS.out.wk); (first | exact RdS_ext hry hbd | exact RdS_ext hry hbz); (first | exact RdS_ext hrdN hbd | exact RdS_ext hrdN hbz); rintro e w5 ⟨k9, n9, z9, xs9, a9, l9, c9, F9, hr9, rfl, hrd9, hF9, hg9, hl9⟩; (first | (have hg : V31.grownBy w5 (some B) := grown_trans (grown_below hbd _) hg9) | (have hg : V31.grownBy w5 (some B) := grown_trans (grown_below hbz _) hg9)); have hG9 : Gd w F1 F2 F9 := (fun x hx => by rcases hF9 x hx with h' | h'; (rcases List.mem_append.1 h' with h' | h'; exact hGe x h'; exact .inr (.inl h')); (simp at h'; exact .inr (.inr (by omega)))); (try (have hz : w5.heap[V31.heap.size]? = some (.cells #[.int .i64 0, .int .i64 0, .string ⟨#[]⟩, .slice none 0 0] 26 (0, 0)) := (hg9.block _ (by simp) (by simp; omega)).trans (heap_new rfl); obtain ⟨z0, z1, z2, z3, zf⟩ := box4 hz; have hzl := heap_lt hz; have HZ := Lib.hid hz; clear hz; have hne9 : ∀ x ∈ F9, x ≠ V31.heap.size := (fun x hx => by rcases hF9 x hx with h' | h'; (rcases List.mem_append.1 h' with h' | h'; (have := HLF.out x h'; omega); (have := HLN.out x h'; omega)); (simp at h'; omega))))))
      all_goals (go_wp2_with fail; go_meet; first | exact SpRes_new hr9 hrd9 hG9 hg hl9 | exact SpRes_set hr9 hrd9 hG9 hg hl9 (Nat.le_refl _) HZ.out hne9 (by omega))
    case rest =>
      obtain ⟨BR, kR, nR, zR, xsR, aR, lR, cR, FR, rfl, hrR, hbxR, hGR, hg, hl, hBvR⟩ := hcut
      obtain ⟨V32, hVV⟩ : ∃ x : World, x = wc := ⟨_, rfl⟩
      subst hVV
      have hszV := hFs.sz
      replace hFs := hFs.grown hBl hg hl
      replace hrdN := RdS_grown hrdN hg (fun x hx hh => HB2.out (hh ▸ hx))
      replace hird := RdS_grown hird hg (fun x hx hh => hBi (hh ▸ hx))
      clear f0 f1 f2 f3 fl
      clear y0 y1 y2 y3 hry hyF hbly
      obtain ⟨m0, m1, mf, _⟩ := walk_cells hFs.wk
      obtain ⟨g0, g1, g2, g3, gl⟩ := hbxR.cells
      have hwR := (ok_wf HGOOD.out.ok).1
      rw [hrR] at hwR
      by_cases hc0 : rR.2.1 = 0
      case neg =>
        have hd : ((rR.2.1 : Int) != 0) = true := by simp; omega
        have HE : Hid (rs = failV rR) := by show _ = _; rw [HRS.out, evSel, if_pos hc0]
        have HC0 := Lib.hid hc0
        clear hc0 hwR
        generalize hcd : (rR.2.1 : Int) = cd at *
        clear hcd
        go_wp2_with fail
        refine (l40Stuck_any B rR.2.2 rR.2.1 V32 hFs.wk).mono ?_
        rintro e V40 ⟨k9, n9, s9, xs9, a9, l9, c9, F9, hr9, rfl, hrd9, hF9, hg9, hw9⟩
        have hs3 := hFs.sz
        replace hFs := hFs.grown hBl hg9 hw9
        have HR9 := Lib.hid hr9
        clear hr9 m0 m1 mf g0 g1 g2 g3 gl
        obtain ⟨r0, r1, r2, r3, rf, rl⟩ := hFs.res
        go_wp2
        rw [HE.out]
        exact bodyPost_ret (v := .agg #[.int .i64 k9, .int .i64 n9, .string s9, .slice a9 l9 c9]) (results_term rfl _ _ (w.heap.size + 1 + 1) rfl (heap_set4 hFs.b6)) rfl (hFs.out (r := failV rR) hBl HF1.out HF2.out HR9.out rfl (by rw [if_neg HC0.out]; rfl) hrd9 (fun x hx => .inr (.inr (by rcases hF9 x hx with h' | h'; cases h'; omega))))
      have HC0 := Lib.hid hc0
      have hd : ((rR.2.1 : Int) != 0) = false := by simp [hc0]
      rw [hc0] at hFs
      clear hc0
      generalize (rR.2.1 : Int) = cd at *
      by_cases hkR : kR = 4
      case neg =>
        have hkd : (kR != 4) = true := by simpa using hkR
        have HE : Hid (rs = stuck rR.2.2) := by
          show _ = _
          rw [HRS.out, evSel, if_neg (by simp [HC0.out]), hrR]
          rcases wf_split hwR with ⟨_, rfl⟩ | ⟨h', _⟩
          · rfl
          · exact absurd h' hkR
        clear hkR hwR
        go_wp2_with fail
        refine (l40Stuck_any B rR.2.2 0 V32 hFs.wk).mono ?_
        rintro e V40 ⟨k9, n9, s9, xs9, a9, l9, c9, F9, hr9, rfl, hrd9, hF9, hg9, hw9⟩
        have hs3 := hFs.sz
        replace hFs := hFs.grown hBl hg9 hw9
        have HR9 := Lib.hid hr9
        clear hr9 m0 m1 mf g0 g1 g2 g3 gl
        obtain ⟨r0, r1, r2, r3, rf, rl⟩ := hFs.res
        go_wp2
        rw [HE.out]
        exact bodyPost_ret (v := .agg #[.int .i64 k9, .int .i64 n9, .string s9, .slice a9 l9 c9]) (results_term rfl _ _ (w.heap.size + 1 + 1) rfl (heap_set4 hFs.b6)) rfl (hFs.out (r := stuck rR.2.2) hBl HF1.out HF2.out HR9.out rfl rfl hrd9 (fun x hx => .inr (.inr (by rcases hF9 x hx with h' | h'; cases h'; omega))))
      subst hkR
      obtain ⟨rfl, hs0, pa, pb, rfl, hpa, hpb⟩ := wf_four hwR
      obtain rfl := ba_empty hs0
      have hbr := hbxR.rd
      obtain ⟨b', o', uk, un, uz, uas, ua, ul, uc, G3, vk, vn, vz, vas, va, vl, vc, G4, huv, rfl, rfl, hblt', ⟨u0, u1, u2, u3⟩, ⟨v0, v1, v2, v3⟩, hru, hrv⟩ := RdS_pair hbr hbr.1
      obtain ⟨rfl, rfl⟩ : pa = .mk uk un uz uas ∧ pb = .mk vk vn vz vas := by simpa using huv
      obtain rfl : lR = 2 := hbr.1
      have HE : Hid (rs = (.mk uk un uz uas, 0, rR.2.2)) := by
        show _ = _
        rw [HRS.out, evSel, if_neg (by simp [HC0.out]), hrR]
        rfl
      clear hwR hs0 hpa hpb huv hbr
      obtain ⟨r0, r1, r2, r3, rf, rl⟩ := hFs.res
      go_wp2
      rw [HE.out]
      exact bodyPost_ret (v := .agg #[.int .i64 uk, .int .i64 un, .string uz, .slice ua ul uc]) (results_term rfl _ _ (w.heap.size + 1 + 1) rfl (heap_set4 hFs.b6)) rfl (hFs.out (r := (.mk uk un uz uas, 0, rR.2.2)) hBl HF1.out HF2.out rfl rfl rfl hru (hGR.sub (fun x hx => by simp [hx])))

set_option maxHeartbeats 8000000 in
set_option maxRecDepth 200000 in
theorem sp_cdr (fuel : Nat) (ih : EvalS fuel) (left B : Nat) (k1 n1 : Int) (s1 : ByteArray) (xs1 : List Tm) (a1 : Option Addr) (l1 c1 : Nat) (F1 : List Nat) (k2 n2 : Int) (s2 : ByteArray) (xs2 : List Tm) (a2 : Option Addr) (l2 c2 : Nat) (F2 : List Nat) (w : World)
    (hlf : left ≤ fuel) (h1000 : left + 1 ≤ 1000) (hw : WalkAt w B (left + 1) 0) (h1 : RdS w xs1 a1 l1 c1 F1) (h2 : RdS w xs2 a2 l2 c2 F2) (hB1 : B ∉ F1) (hB2 : B ∉ F2) (hok1 : (Tm.mk k1 n1 s1 xs1).ok = true) (hok2 : (Tm.mk k2 n2 s2 xs2).ok = true) (hk : k1 ≠ 2) (htl : (Tm.mk k1 n1 s1 xs1).tl.kind = 0) (xk xn : Int) (xz : ByteArray) (xas : List Tm) (yk yn : Int) (yz : ByteArray) (yas : List Tm) (hits : (Tm.mk k1 n1 s1 xs1).its = [.mk xk xn xz xas, .mk yk yn yz yas]) (hq : isSym (.mk xk xn xz xas) ⟨#[113, 117, 111, 116, 101]⟩ = false) (hc : isSym (.mk xk xn xz xas) ⟨#[99, 97, 114]⟩ = false) (hd : isSym (.mk xk xn xz xas) ⟨#[99, 100, 114]⟩ = true) :
    Calls Try.prog 89 #[.pointer (some ⟨B, 0, none⟩), .agg #[.int .i64 k1, .int .i64 n1, .string s1, .slice a1 l1 c1], .agg #[.int .i64 k2, .int .i64 n2, .string s2, .slice a2 l2 c2]] w
      (SpOut w B (F1 ++ F2) (evStep (ev fuel) left (.mk k1 n1 s1 xs1) (.mk k2 n2 s2 xs2))) := by
  have hres : evStep (ev fuel) left (.mk k1 n1 s1 xs1) (.mk k2 n2 s2 xs2) = evSel (ev fuel left (.mk yk yn yz yas) (Tm.mk k2 n2 s2 xs2)) false := by
    rw [evStep_list (show (Tm.mk k1 n1 s1 xs1).kind ≠ 2 from hk) htl]
    rw [hits, evForm, if_neg (by simp [hq]), if_pos (.inr hd), hc]
  rw [hres]
  have hk' : (k1 == 2) = false := by simpa using hk
  clear hres hk
  have HFs : Hid (formR (.mk k1 n1 s1 xs1) ⟨#[99, 100, 114]⟩ 1 = some [.mk yk yn yz yas]) := formR_hit hits rfl htl (.inr hd)
  have HFquote : Hid (formR (.mk k1 n1 s1 xs1) ⟨#[113, 117, 111, 116, 101]⟩ 1 = none) := formR_sym hits hq (by decide)
  have HFlam : Hid (formR (.mk k1 n1 s1 xs1) ⟨#[108, 97, 109, 98, 100, 97]⟩ 2 = none) := formR_len (by rw [hits]; simp)
  have HFcons : Hid (formR (.mk k1 n1 s1 xs1) ⟨#[99, 111, 110, 115]⟩ 2 = none) := formR_len (by rw [hits]; simp)
  have HFcar : Hid (formR (.mk k1 n1 s1 xs1) ⟨#[99, 97, 114]⟩ 1 = none) := formR_sym hits hc (by decide)
  have HOKY := Lib.hid (its_ok hok1 (.mk yk yn yz yas) (by rw [hits]; simp))
  obtain ⟨rR, hrR⟩ : ∃ r : Res, r = ev fuel left (.mk yk yn yz yas) (Tm.mk k2 n2 s2 xs2) := ⟨_, rfl⟩
  rw [← hrR]
  have hgood : GoodR rR left := by rw [hrR]; exact ev_good fuel left _ _ HOKY.out hok2
  have HRR := Lib.hid hrR; have HGOOD := Lib.hid hgood
  obtain ⟨rs, hrs⟩ : ∃ r : Res, r = evSel rR false := ⟨_, rfl⟩
  rw [← hrs]
  have HRS := Lib.hid hrs
  clear htl hits hq hc hd hrR hgood hrs
  have HNquote : Hid (((⟨#[113, 117, 111, 116, 101]⟩ : ByteArray)).size = 0 ∨ (((⟨#[113, 117, 111, 116, 101]⟩ : ByteArray)).toList.isEmpty = false ∧ (Tm.sym ⟨#[113, 117, 111, 116, 101]⟩).wf = true)) := .inr (by decide +kernel)
  have HNlam : Hid (((⟨#[108, 97, 109, 98, 100, 97]⟩ : ByteArray)).size = 0 ∨ (((⟨#[108, 97, 109, 98, 100, 97]⟩ : ByteArray)).toList.isEmpty = false ∧ (Tm.sym ⟨#[108, 97, 109, 98, 100, 97]⟩).wf = true)) := .inr (by decide +kernel)
  have HNcons : Hid (((⟨#[99, 111, 110, 115]⟩ : ByteArray)).size = 0 ∨ (((⟨#[99, 111, 110, 115]⟩ : ByteArray)).toList.isEmpty = false ∧ (Tm.sym ⟨#[99, 111, 110, 115]⟩).wf = true)) := .inr (by decide +kernel)
  have HNcar : Hid (((⟨#[99, 97, 114]⟩ : ByteArray)).size = 0 ∨ (((⟨#[99, 97, 114]⟩ : ByteArray)).toList.isEmpty = false ∧ (Tm.sym ⟨#[99, 97, 114]⟩).wf = true)) := .inr (by decide +kernel)
  have HNcdr : Hid (((⟨#[99, 100, 114]⟩ : ByteArray)).size = 0 ∨ (((⟨#[99, 100, 114]⟩ : ByteArray)).toList.isEmpty = false ∧ (Tm.sym ⟨#[99, 100, 114]⟩).wf = true)) := .inr (by decide +kernel)
  have HNiff : Hid (((⟨#[105, 102]⟩ : ByteArray)).size = 0 ∨ (((⟨#[105, 102]⟩ : ByteArray)).toList.isEmpty = false ∧ (Tm.sym ⟨#[105, 102]⟩).wf = true)) := .inr (by decide +kernel)
  have HNempty : Hid (((⟨#[]⟩ : ByteArray)).size = 0 ∨ (((⟨#[]⟩ : ByteArray)).toList.isEmpty = false ∧ (Tm.sym ⟨#[]⟩).wf = true)) := .inl rfl
  obtain ⟨m0, m1, mf, hBl⟩ := walk_cells hw
  have hBw1 : B < w.heap.size + 1 := by omega
  have hBw2 : B < w.heap.size + 1 + 1 := by omega
  have hBw3 : B < w.heap.size + 1 + 1 + 1 := by omega
  obtain ⟨lf, hlfe⟩ : ∃ lf : Int, lf = ((left + 1 : Nat) : Int) := ⟨_, rfl⟩
  rw [← hlfe] at m0
  have hz0 : (lf == 0) = false := by simp; omega
  have hlf1 : 1 ≤ lf := by omega
  have hlf2 : lf ≤ 1000 := by omega
  have m1' : w.cell? ⟨B, 1, none⟩ = some (.int .i64 0) := m1
  have HW := Lib.hid hw; have HF1 := Lib.hid (RdS_lt h1); have HF2 := Lib.hid (RdS_lt h2); have IH := Lib.hid ih
  have HH1 := Lib.hid h1; have HH2 := Lib.hid h2; have HOK1 := Lib.hid hok1; have HOK2 := Lib.hid hok2; have HB1 := Lib.hid hB1; have HB2 := Lib.hid hB2; have HLF := Lib.hid hlfe
  clear hlfe hw m1 ih h1 h2 hok1 hok2 hB1 hB2
  go_enter Try.func89, Try.ntmps89
  go_wp2_with fail
  have hFs : Fs w ((((w.setCell ⟨B, 0, none⟩ (.int .i64 (lf - 1))).alloc (.cells #[.int .i64 k1, .int .i64 n1, .string s1, .slice a1 l1 c1] 26)).alloc (.cells #[.int .i64 k2, .int .i64 n2, .string s2, .slice a2 l2 c2] 26)).alloc (.cells #[.int .i64 0, .int .i64 0, .string ⟨#[]⟩, .slice none 0 0] 26)) B left 0 k1 n1 s1 a1 l1 c1 k2 n2 s2 a2 l2 c2 := by
    have hs : (w.setCell ⟨B, 0, none⟩ (.int .i64 (lf - 1))).heap.size = w.heap.size := by simp [World.setCell]
    refine ⟨?_, ?_, ?_, ?_, ?_, ?_⟩
    · rw [heap_old (by simp [World.setCell]; omega), heap_old (by simp [World.setCell])]; exact heap_new hs.symm
    · rw [heap_old (by simp [World.setCell])]; exact heap_new (by simp [World.setCell])
    · exact heap_new (by simp [World.setCell])
    · show _ = _
      rw [heap_old (by simp [World.setCell]; omega), heap_old (by simp [World.setCell]; omega), heap_old (by rw [hs]; exact hBl)]
      have h0 := heap_set (o := 0) (.int .i64 (lf - 1)) HW.out
      rw [h0, HLF.out]
      have he : ((left + 1 : Nat) : Int) - 1 = (left : Int) := by omega
      rw [he]; rfl
    · exact ⟨rfl, rfl, rfl, by simp [World.setCell]; omega, fun x hx hr => by
        rw [heap_old (by simp [World.setCell]; omega), heap_old (by simp [World.setCell]; omega), heap_old (by rw [hs]; exact hx)]
        exact heap_set_other _ (by simpa using hr)⟩
    · simp [World.setCell]
  generalize ((((w.setCell ⟨B, 0, none⟩ (.int .i64 (lf - 1))).alloc (.cells #[.int .i64 k1, .int .i64 n1, .string s1, .slice a1 l1 c1] 26)).alloc (.cells #[.int .i64 k2, .int .i64 n2, .string s2, .slice a2 l2 c2] 26)).alloc (.cells #[.int .i64 0, .int .i64 0, .string ⟨#[]⟩, .slice none 0 0] 26)) = V at *
  have hrdE : RdS V xs1 a1 l1 c1 F1 := RdS_grown HH1.out hFs.ext (fun x hx hh => HB1.out (hh ▸ hx))
  have hrdN : RdS V xs2 a2 l2 c2 F2 := RdS_grown HH2.out hFs.ext (fun x hx hh => HB2.out (hh ▸ hx))
  clear m0 m1' mf
  obtain ⟨p0, p1, p2, p3, pl⟩ := hFs.exp
  go_wp2_with fail
  refine (l40Form_any k1 n1 s1 xs1 a1 l1 c1 F1 ⟨#[113, 117, 111, 116, 101]⟩ 1 V hrdE HOK1.out (by omega) HNquote.out).mono ?_
  rintro e V1 ⟨hb, hor⟩
  rw [HFquote.out] at hor
  obtain rfl : e = .returned (.tuple #[.slice none 0 0, .bool false]) := by
    rcases hor with ⟨_, h'⟩ | ⟨_, _, _, _, _, h', _⟩
    · exact h'
    · cases h'
  replace hFs := hFs.below hBl hb
  replace hrdE := RdS_ext hrdE hb
  replace hrdN := RdS_ext hrdN hb
  have hbQ := hb
  clear p0 p1 p2 p3 pl hb hor
  obtain ⟨p0, p1, p2, p3, pl⟩ := hFs.exp
  go_wp2_with fail
  refine (l40Form_any k1 n1 s1 xs1 a1 l1 c1 F1 ⟨#[108, 97, 109, 98, 100, 97]⟩ 2 V1 hrdE HOK1.out (by omega) HNlam.out).mono ?_
  rintro e V2 ⟨hb, hor⟩
  rw [HFlam.out] at hor
  obtain rfl : e = .returned (.tuple #[.slice none 0 0, .bool false]) := by
    rcases hor with ⟨_, h'⟩ | ⟨_, _, _, _, _, h', _⟩
    · exact h'
    · cases h'
  replace hFs := hFs.below hBl hb
  replace hrdE := RdS_ext hrdE hb
  replace hrdN := RdS_ext hrdN hb
  have hbQ := hb
  clear p0 p1 p2 p3 pl hb hor
  obtain ⟨p0, p1, p2, p3, pl⟩ := hFs.exp
  go_wp2_with fail
  refine (l40Form_any k1 n1 s1 xs1 a1 l1 c1 F1 ⟨#[99, 111, 110, 115]⟩ 2 V2 hrdE HOK1.out (by omega) HNcons.out).mono ?_
  rintro e V3 ⟨hb, hor⟩
  rw [HFcons.out] at hor
  obtain rfl : e = .returned (.tuple #[.slice none 0 0, .bool false]) := by
    rcases hor with ⟨_, h'⟩ | ⟨_, _, _, _, _, h', _⟩
    · exact h'
    · cases h'
  replace hFs := hFs.below hBl hb
  replace hrdE := RdS_ext hrdE hb
  replace hrdN := RdS_ext hrdN hb
  have hbQ := hb
  clear p0 p1 p2 p3 pl hb hor
  go_wp2_with fail
  have hbN : Below V3.heap.size V3 (V3.alloc (.cells #[.string ⟨#[99, 97, 114]⟩, .string ⟨#[99, 100, 114]⟩] 9)) := (Below.refl _ _).alloc (Nat.le_refl _) _
  have hNb : (V3.alloc (.cells #[.string ⟨#[99, 97, 114]⟩, .string ⟨#[99, 100, 114]⟩] 9)).heap[V3.heap.size]? = some (.cells #[.string ⟨#[99, 97, 114]⟩, .string ⟨#[99, 100, 114]⟩] 9 (0, 0)) := heap_new rfl
  generalize V3.alloc (.cells #[.string ⟨#[99, 97, 114]⟩, .string ⟨#[99, 100, 114]⟩] 9) = N at *
  replace hFs := hFs.below hBl hbN
  replace hrdE := RdS_ext hrdE hbN
  replace hrdN := RdS_ext hrdN hbN
  have HNB := Lib.hid hNb
  have hnbl := heap_lt hNb
  have HST := Lib.hid hFs; have HSE := Lib.hid hrdE; have HSN := Lib.hid hrdN
  clear hbN hNb hFs hrdE hrdN
  go_loopw [146] (fun iv wr => ∃ j : Nat, j ≤ 1 ∧ iv = .int .i64 j ∧ Below N.heap.size N wr) (fun iv _ => 2 - (intOf iv).toNat)
  case atStart => exact ⟨0, by omega, rfl, Below.refl _ _⟩
  case round =>
    obtain ⟨j, hj, rfl, hbr⟩ := hrel
    have hFs := HST.out.below hBl hbr
    have hrdE := RdS_ext HSE.out hbr
    have hrdN := RdS_ext HSN.out hbr
    have hnr := (hbr.block _ hnbl).trans HNB.out
    have n0 : wr.cell? ⟨V3.heap.size, 0, none⟩ = some (.string ⟨#[99, 97, 114]⟩) := by simpa using cell_of_block hnr 0
    have n1' : wr.cell? ⟨V3.heap.size, 1, none⟩ = some (.string ⟨#[99, 100, 114]⟩) := by simpa using cell_of_block hnr 1
    clear hnr
    rcases (show j = 0 ∨ j = 1 by omega) with rfl | rfl
    · skip
      obtain ⟨p0, p1, p2, p3, pl⟩ := hFs.exp
      go_wp2_with fail
      refine (l40Form_any k1 n1 s1 xs1 a1 l1 c1 F1 ⟨#[99, 97, 114]⟩ 1 wr hrdE HOK1.out (by omega) HNcar.out).mono ?_
      rintro e V21 ⟨hb, hor⟩
      rw [HFcar.out] at hor
      obtain rfl : e = .returned (.tuple #[.slice none 0 0, .bool false]) := by
        rcases hor with ⟨_, h'⟩ | ⟨_, _, _, _, _, h', _⟩
        · exact h'
        · cases h'
      replace hFs := hFs.below hBl hb
      replace hrdE := RdS_ext hrdE hb
      replace hrdN := RdS_ext hrdN hb
      have hbQ := hb
      clear p0 p1 p2 p3 pl hb hor
      go_wp2
      go_roundw
      case rel => exact ⟨1, by omega, by go_num, hbr.trans (hbQ.mono hbr.size)⟩
      case measure => simp [intOf]
    · skip
      obtain ⟨p0, p1, p2, p3, pl⟩ := hFs.exp
      have hsVh := hFs.sz
      go_wp2_with fail
      refine (l40Form_any k1 n1 s1 xs1 a1 l1 c1 F1 ⟨#[99, 100, 114]⟩ 1 wr hrdE HOK1.out (by omega) HNcdr.out).mono ?_
      rintro e V31 ⟨hb, hor⟩
      rw [HFs.out] at hor
      obtain ⟨ia, il, ic, iF, rfl, hird, hiF⟩ : ∃ a l c F, e = .returned (.tuple #[.slice a l c, .bool true]) ∧ RdS V31 [.mk yk yn yz yas] a l c F ∧ ∀ x ∈ F, wr.heap.size ≤ x := by
        rcases hor with ⟨h', _⟩ | ⟨rest, a', l', c', F', h', h2', h3', h4'⟩
        · cases h'
        · cases h'; exact ⟨a', l', c', F', h2', h3', h4'⟩
      have hGi : Gd w F1 F2 iF := fun x hx => .inr (.inr (by have := hiF x hx; omega))
      obtain rfl : il = 1 := hird.1
      obtain ⟨ib, io, rfl⟩ := RdS_addr hird (by simp)
      replace hFs := hFs.below hBl hb
      replace hrdE := RdS_ext hrdE hb
      replace hrdN := RdS_ext hrdN hb
      have hBi : B ∉ iF := hGi.ne HB1.out HB2.out hBl
      have hibm : ib ∈ iF := by
        obtain ⟨_, _, h3⟩ := hird
        rcases h3 with ⟨h4, _⟩ | ⟨_, b', o', F', ha, hF', _⟩
        · simp at h4
        · simp at ha; rw [hF', ha.1]; simp
      have hibB : ib ≠ B := fun hh => hBi (hh ▸ hibm)
      have hib6 : ib ≠ w.heap.size + 1 + 1 := hGi.ne6 HF1.out HF2.out ib hibm
      clear p0 p1 p2 p3 pl hb hor hiF hibm hsVh
      clear n0 n1'
      obtain ⟨ya, yl, yc, yF, ⟨y0, y1, y2, y3⟩, hry, hyF, hbly⟩ := RdS_el0 hird rfl
      obtain ⟨f0, f1, f2, f3, fl⟩ := hFs.env
      go_upto_region 31 with fail
      go_cut [18] (fun s6 wx => SpRes V31 B w F1 F2 rR s6 wx)
      case first => as_aux_lemma =>
        have hGe := hGi.sub hyF
        have hBe : B ∉ yF := hGe.ne HB1.out HB2.out hBl
        have hBV : B < V31.heap.size := heap_lt hFs.wk
        have HFS := Lib.hid hFs
        have hbd : Below V31.heap.size V31 V31.drew := (Below.refl _ _).drew
        have hbz : Below V31.heap.size V31 (V31.alloc (.cells #[.int .i64 0, .int .i64 0, .string ⟨#[]⟩, .slice none 0 0] 26)).drew := ((Below.refl _ _).alloc (Nat.le_refl _) _).drew
        have CE := Lib.hid (IH.out left B yk yn yz yas ya yl yc yF k2 n2 s2 xs2 a2 l2 c2 F2)
        rw [← HRR.out] at CE
        have HS : Hid (El8 ib (io) (w.heap.size + 1) (.int .i64 yk) (.int .i64 yn) (.string yz) (.slice ya yl yc) (.int .i64 k2) (.int .i64 n2) (.string s2) (.slice a2 l2 c2) V31) := ⟨y0, y1, y2, y3, f0, f1, f2, f3⟩
        have hsV1 := hFs.sz
        have hne5 : w.heap.size + 1 ≠ B := by omega
        have hneV : ib ≠ V31.heap.size := by omega
        have hne5V : w.heap.size + 1 ≠ V31.heap.size := by omega
        have hlF : ∀ x ∈ yF, x < V31.heap.size := RdS_lt hry
        have hlN : ∀ x ∈ F2, x < V31.heap.size := fun x hx => by have := HF2.out x hx; omega
        have HLF := Lib.hid hlF; have HLN := Lib.hid hlN
        clear hlF hlN
        go_region_held3 (fun w' => w'.cell? ⟨ib, io, none⟩ = some (.int .i64 yk) ∧ w'.cell? ⟨ib, io + 1, none⟩ = some (.int .i64 yn) ∧ w'.cell? ⟨ib, io + 2, none⟩ = some (.string yz) ∧ w'.cell? ⟨ib, io + 3, none⟩ = some (.slice ya yl yc) ∧ w'.cell? ⟨w.heap.size + 1, 0, none⟩ = some (.int .i64 k2) ∧ w'.cell? ⟨w.heap.size + 1, 1, none⟩ = some (.int .i64 n2) ∧ w'.cell? ⟨w.heap.size + 1, 2, none⟩ = some (.string s2) ∧ w'.cell? ⟨w.heap.size + 1, 3, none⟩ = some (.slice a2 l2 c2))
          (first | with_reducible exact El8.same (hbd.block _ hbly) (hbd.block _ fl) HS.out | with_reducible exact El8.same (hbz.block _ hbly) (hbz.block _ fl) HS.out | with_reducible exact El8.same (hg.block _ hbly (by simpa using hibB)) (hg.block _ fl (by simpa using hne5)) HS.out | with_reducible exact El8.same ((heap_old (Nat.lt_of_lt_of_le hbly hg.size)).trans (hg.block _ hbly (by simpa using hibB))) ((heap_old (Nat.lt_of_lt_of_le fl hg.size)).trans (hg.block _ fl (by simpa using hne5))) HS.out | with_reducible exact El8.same ((heap_set4_other hneV).trans (hg.block _ hbly (by simpa using hibB))) ((heap_set4_other hne5V).trans (hg.block _ fl (by simpa using hne5))) HS.out)
          (first | (go_at_call 89; (with_reducible refine (CE.out _ (by omega) (by omega) ?_ ?_ ?_ hBe HB2.out HOKY.out HOK2.out).mono ?_); (first | exact walk_below hbd hBV HFS.out.wk | exact walk_below hbz hBV HFS.out.wk); (first | exact RdS_ext hry hbd | exact RdS_ext hry hbz); (first | exact RdS_ext hrdN hbd | exact RdS_ext hrdN hbz); rintro e w5 ⟨k9, n9, z9, xs9, a9, l9, c9, F9, hr9, rfl, hrd9, hF9, hg9, hl9⟩; (first | (have hg : V31.grownBy w5 (some B) := grown_trans (grown_below hbd _) hg9) | (have hg : V31.grownBy w5 (some B) := grown_trans (grown_below hbz _) hg9)); have hG9 : Gd w F1 F2 F9 := (fun x hx => by rcases hF9 x hx with h' | h'; (rcases List.mem_append.1 h' with h' | h'; exact hGe x h'; exact .inr (.inl h')); (simp at h'; exact .inr (.inr (by omega)))); (try (have hz : w5.heap[V31.heap.size]? = some (.cells #[.int .i64 0, .int .i64 0, .string ⟨#[]⟩, .slice none 0 0] 26 (0, 0)) := (hg9.block _ (by simp) (by simp; omega)).trans (heap_new rfl); obtain ⟨z0, z1, z2, z3, zf⟩ := box4 hz; have hzl := heap_lt hz; have HZ := Lib.hid hz; clear hz; have hne9 : ∀ x ∈ F9, x ≠ V31.heap.size := (fun x hx => by rcases hF9 x hx with h' | h'; (rcases List.mem_append.1 h' with h' | h'; (have := HLF.out x h'; omega); (have := HLN.out x h'; omega)); (simp at h'; omega))))))
        all_goals (go_wp2_with fail; go_meet; first | exact SpRes_new hr9 hrd9 hG9 hg hl9 | exact SpRes_set hr9 hrd9 hG9 hg hl9 (Nat.le_refl _) HZ.out hne9 (by omega))
      case rest =>
        obtain ⟨BR, kR, nR, zR, xsR, aR, lR, cR, FR, rfl, hrR, hbxR, hGR, hg, hl, hBvR⟩ := hcut
        obtain ⟨V32, hVV⟩ : ∃ x : World, x = wc := ⟨_, rfl⟩
        subst hVV
        have hszV := hFs.sz
        replace hFs := hFs.grown hBl hg hl
        replace hrdN := RdS_grown hrdN hg (fun x hx hh => HB2.out (hh ▸ hx))
        replace hird := RdS_grown hird hg (fun x hx hh => hBi (hh ▸ hx))
        clear f0 f1 f2 f3 fl
        clear y0 y1 y2 y3 hry hyF hbly
        obtain ⟨m0, m1, mf, _⟩ := walk_cells hFs.wk
        obtain ⟨g0, g1, g2, g3, gl⟩ := hbxR.cells
        have hwR := (ok_wf HGOOD.out.ok).1
        rw [hrR] at hwR
        by_cases hc0 : rR.2.1 = 0
        case neg =>
          have hd : ((rR.2.1 : Int) != 0) = true := by simp; omega
          have HE : Hid (rs = failV rR) := by show _ = _; rw [HRS.out, evSel, if_pos hc0]
          have HC0 := Lib.hid hc0
          clear hc0 hwR
          generalize hcd : (rR.2.1 : Int) = cd at *
          clear hcd
          go_wp2_with fail
          refine (l40Stuck_any B rR.2.2 rR.2.1 V32 hFs.wk).mono ?_
          rintro e V40 ⟨k9, n9, s9, xs9, a9, l9, c9, F9, hr9, rfl, hrd9, hF9, hg9, hw9⟩
          have hs3 := hFs.sz
          replace hFs := hFs.grown hBl hg9 hw9
          have HR9 := Lib.hid hr9
          clear hr9 m0 m1 mf g0 g1 g2 g3 gl
          obtain ⟨r0, r1, r2, r3, rf, rl⟩ := hFs.res
          go_wp2
          rw [HE.out]
          exact bodyPost_ret (v := .agg #[.int .i64 k9, .int .i64 n9, .string s9, .slice a9 l9 c9]) (results_term rfl _ _ (w.heap.size + 1 + 1) rfl (heap_set4 hFs.b6)) rfl (hFs.out (r := failV rR) hBl HF1.out HF2.out HR9.out rfl (by rw [if_neg HC0.out]; rfl) hrd9 (fun x hx => .inr (.inr (by rcases hF9 x hx with h' | h'; cases h'; omega))))
        have HC0 := Lib.hid hc0
        have hd : ((rR.2.1 : Int) != 0) = false := by simp [hc0]
        rw [hc0] at hFs
        clear hc0
        generalize (rR.2.1 : Int) = cd at *
        by_cases hkR : kR = 4
        case neg =>
          have hkd : (kR != 4) = true := by simpa using hkR
          have HE : Hid (rs = stuck rR.2.2) := by
            show _ = _
            rw [HRS.out, evSel, if_neg (by simp [HC0.out]), hrR]
            rcases wf_split hwR with ⟨_, rfl⟩ | ⟨h', _⟩
            · rfl
            · exact absurd h' hkR
          clear hkR hwR
          go_wp2_with fail
          refine (l40Stuck_any B rR.2.2 0 V32 hFs.wk).mono ?_
          rintro e V40 ⟨k9, n9, s9, xs9, a9, l9, c9, F9, hr9, rfl, hrd9, hF9, hg9, hw9⟩
          have hs3 := hFs.sz
          replace hFs := hFs.grown hBl hg9 hw9
          have HR9 := Lib.hid hr9
          clear hr9 m0 m1 mf g0 g1 g2 g3 gl
          obtain ⟨r0, r1, r2, r3, rf, rl⟩ := hFs.res
          go_wp2
          rw [HE.out]
          exact bodyPost_ret (v := .agg #[.int .i64 k9, .int .i64 n9, .string s9, .slice a9 l9 c9]) (results_term rfl _ _ (w.heap.size + 1 + 1) rfl (heap_set4 hFs.b6)) rfl (hFs.out (r := stuck rR.2.2) hBl HF1.out HF2.out HR9.out rfl rfl hrd9 (fun x hx => .inr (.inr (by rcases hF9 x hx with h' | h'; cases h'; omega))))
        subst hkR
        obtain ⟨rfl, hs0, pa, pb, rfl, hpa, hpb⟩ := wf_four hwR
        obtain rfl := ba_empty hs0
        have hbr := hbxR.rd
        obtain ⟨b', o', uk, un, uz, uas, ua, ul, uc, G3, vk, vn, vz, vas, va, vl, vc, G4, huv, rfl, rfl, hblt', ⟨u0, u1, u2, u3⟩, ⟨v0, v1, v2, v3⟩, hru, hrv⟩ := RdS_pair hbr hbr.1
        obtain ⟨rfl, rfl⟩ : pa = .mk uk un uz uas ∧ pb = .mk vk vn vz vas := by simpa using huv
        obtain rfl : lR = 2 := hbr.1
        have HE : Hid (rs = (.mk vk vn vz vas, 0, rR.2.2)) := by
          show _ = _
          rw [HRS.out, evSel, if_neg (by simp [HC0.out]), hrR]
          rfl
        clear hwR hs0 hpa hpb huv hbr
        obtain ⟨r0, r1, r2, r3, rf, rl⟩ := hFs.res
        go_wp2
        rw [HE.out]
        exact bodyPost_ret (v := .agg #[.int .i64 vk, .int .i64 vn, .string vz, .slice va vl vc]) (results_term rfl _ _ (w.heap.size + 1 + 1) rfl (heap_set4 hFs.b6)) rfl (hFs.out (r := (.mk vk vn vz vas, 0, rR.2.2)) hBl HF1.out HF2.out rfl rfl rfl hrv (hGR.sub (fun x hx => by simp [hx])))
end Go.Proofs.Ytjkabbkaeioibaa
