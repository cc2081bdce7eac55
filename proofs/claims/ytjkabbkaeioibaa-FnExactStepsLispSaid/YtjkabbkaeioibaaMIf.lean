/- The reference's evaluator: if, whose test gives a value. The reference's evaluator: if, whose test gives nothing. -/
import Derived.Test.YtjkabbkaeioibaaSpDefs2
import Derived.Deep.RegionHeld3
namespace Go.Proofs.Ytjkabbkaeioibaa
open Go.RowKit
set_option linter.unusedVariables false

set_option maxHeartbeats 8000000 in
set_option maxRecDepth 200000 in
theorem sp_if_then (fuel : Nat) (ih : EvalS fuel) (left B : Nat) (k1 n1 : Int) (s1 : ByteArray) (xs1 : List Tm) (a1 : Option Addr) (l1 c1 : Nat) (F1 : List Nat) (k2 n2 : Int) (s2 : ByteArray) (xs2 : List Tm) (a2 : Option Addr) (l2 c2 : Nat) (F2 : List Nat) (w : World)
    (hlf : left ≤ fuel) (h1000 : left + 1 ≤ 1000) (hw : WalkAt w B (left + 1) 0) (h1 : RdS w xs1 a1 l1 c1 F1) (h2 : RdS w xs2 a2 l2 c2 F2) (hB1 : B ∉ F1) (hB2 : B ∉ F2) (hok1 : (Tm.mk k1 n1 s1 xs1).ok = true) (hok2 : (Tm.mk k2 n2 s2 xs2).ok = true) (hk : k1 ≠ 2) (htl : (Tm.mk k1 n1 s1 xs1).tl.kind = 0) (xk xn : Int) (xz : ByteArray) (xas : List Tm) (yk yn : Int) (yz : ByteArray) (yas : List Tm) (zk zn : Int) (zz : ByteArray) (zas : List Tm) (uk un : Int) (uz : ByteArray) (uas : List Tm) (hits : (Tm.mk k1 n1 s1 xs1).its = [.mk xk xn xz xas, .mk yk yn yz yas, .mk zk zn zz zas, .mk uk un uz uas]) (hq : isSym (.mk xk xn xz xas) ⟨#[105, 102]⟩ = true) (hnz : (ev fuel left (.mk yk yn yz yas) (Tm.mk k2 n2 s2 xs2)).1.kind ≠ 0) :
    Calls Try.prog 89 #[.pointer (some ⟨B, 0, none⟩), .agg #[.int .i64 k1, .int .i64 n1, .string s1, .slice a1 l1 c1], .agg #[.int .i64 k2, .int .i64 n2, .string s2, .slice a2 l2 c2]] w
      (SpOut w B (F1 ++ F2) (evStep (ev fuel) left (.mk k1 n1 s1 xs1) (.mk k2 n2 s2 xs2))) := by
  have hres : evStep (ev fuel) left (.mk k1 n1 s1 xs1) (.mk k2 n2 s2 xs2) = evIf (ev fuel) (ev fuel left (.mk yk yn yz yas) (Tm.mk k2 n2 s2 xs2)) (.mk zk zn zz zas) (.mk uk un uz uas) (Tm.mk k2 n2 s2 xs2) := by
    rw [evStep_list (show (Tm.mk k1 n1 s1 xs1).kind ≠ 2 from hk) htl]
    rw [hits, evForm, if_pos hq]
  rw [hres]
  have hk' : (k1 == 2) = false := by simpa using hk
  clear hres hk
  have HFi : Hid (formR (.mk k1 n1 s1 xs1) ⟨#[105, 102]⟩ 3 = some [.mk yk yn yz yas, .mk zk zn zz zas, .mk uk un uz uas]) := formR_hit hits rfl htl (.inr hq)
  have HFquote : Hid (formR (.mk k1 n1 s1 xs1) ⟨#[113, 117, 111, 116, 101]⟩ 1 = none) := formR_len (by rw [hits]; simp)
  have HFlam : Hid (formR (.mk k1 n1 s1 xs1) ⟨#[108, 97, 109, 98, 100, 97]⟩ 2 = none) := formR_len (by rw [hits]; simp)
  have HFcons : Hid (formR (.mk k1 n1 s1 xs1) ⟨#[99, 111, 110, 115]⟩ 2 = none) := formR_len (by rw [hits]; simp)
  have HFcar : Hid (formR (.mk k1 n1 s1 xs1) ⟨#[99, 97, 114]⟩ 1 = none) := formR_len (by rw [hits]; simp)
  have HFcdr : Hid (formR (.mk k1 n1 s1 xs1) ⟨#[99, 100, 114]⟩ 1 = none) := formR_len (by rw [hits]; simp)
  have HOKL : Hid (∀ a ∈ [Tm.mk xk xn xz xas, .mk yk yn yz yas, .mk zk zn zz zas, .mk uk un uz uas], a.ok = true) := fun a ha => its_ok hok1 a (by rw [hits]; exact ha)
  obtain ⟨rR, hrR⟩ : ∃ r : Res, r = ev fuel left (.mk yk yn yz yas) (Tm.mk k2 n2 s2 xs2) := ⟨_, rfl⟩
  rw [← hrR] at hnz ⊢
  have hgood : GoodR rR left := by rw [hrR]; exact ev_good fuel left _ _ (HOKL.out _ (by simp)) hok2
  have HRR := Lib.hid hrR; have HGOOD := Lib.hid hgood; have HNZ := Lib.hid hnz
  have HOKY := Lib.hid (HOKL.out (.mk yk yn yz yas) (by simp))
  obtain ⟨rs, hrs⟩ : ∃ r : Res, r = evIf (ev fuel) rR (.mk zk zn zz zas) (.mk uk un uz uas) (Tm.mk k2 n2 s2 xs2) := ⟨_, rfl⟩
  rw [← hrs]
  have HRS := Lib.hid hrs
  clear htl hits hq hnz hrR hgood hrs
  have HNquote : Hid (((⟨#[113, 117, 111, 116, 101]⟩ : ByteArray)).size = 0 ∨ (((⟨#[113, 117, 111, 116, 101]⟩ : ByteArray)).toList.isEmpty = false ∧ (Tm.sym ⟨#[113, 117, 111, 116, 101]⟩).wf = true)) := .inr (by decide +kernel)
  have HNlam : Hid (((⟨#[108, 97, 109, 98, 100, 97]⟩ : ByteArray)).size = 0 ∨ (((⟨#[108, 97, 109, 98, 100, 97]⟩ : ByteArray)).toList.isEmpty = false ∧ (Tm.sym ⟨#[108, 97, 109, 98, 100, 97]⟩).wf = true)) := .inr (by decide +kernel)
  have HNcons : Hid (((⟨#[99, 111, 110, 115]⟩ : ByteArray)).size = 0 ∨ (((⟨#[99, 111, 110, 115]⟩ : ByteArray)).toList.isEmpty = false ∧ (Tm.sym ⟨#[99, 111, 110, 115]⟩).wf = true)) := .inr (by decide +kernel)
  have HNcar : Hid (((⟨#[99, 97, 114]⟩ : ByteArray)).size = 0 ∨ (((⟨#[99, 97, 114]⟩ : ByteArray)).toList.isEmpty = false ∧ (Tm.sym ⟨#[99, 97, 114]⟩).wf = true)) := .inr (by decide +kernel)
  have HNcdr : Hid (((⟨#[99, 100, 114]⟩ : ByteArray)).size = 0 ∨ (((⟨#[99, 100, 114]⟩ : ByteArray)).toList.isEmpty = false ∧ (Tm.sym ⟨#[99, 100, 114]⟩).wf = true)) := .inr (by decide +kernel)
  have HNiff : Hid (((⟨#[105, 102]⟩ : ByteArray)).size = 0 ∨ (((⟨#[105, 102]⟩ : ByteArray)).toList.isEmpty = false ∧ (Tm.sym ⟨#[105, 102]⟩).wf = true)) := .inr (by decide +kernel)
  have HNempty : Hid (((⟨#[]⟩ : ByteArray)).size = 0 ∨ (((⟨#[]⟩ : ByteArray)).toList.isEmpty = false ∧ (Tm.sym ⟨#[]⟩).wf = true)) := .inl rfl
  obtain ⟨m0, m1, mf, hBl⟩ := walk_cells hw
  have hBw1 : B < w.heap.size + 1 := by omega
  have hBw2 : B < w.heap.size + 1 + 1 := by omega
  have hBw3 : B < w.heap.size + 1 + 1 + 1 := by omega
  obtain ⟨lf, hlfe⟩ : ∃ lf : Int, lf = ((left + 1 : Nat) : Int) := ⟨_, rfl⟩
  rw [← hlfe] at m0
  have hz0 : (lf == 0) = false := by simp; omega
  have hlf1 : 1 ≤ lf := by omega
  have hlf2 : lf ≤ 1000 := by omega
  have m1' : w.cell? ⟨B, 1, none⟩ = some (.int .i64 0) := m1
  have HW := Lib.hid hw; have HF1 := Lib.hid (RdS_lt h1); have HF2 := Lib.hid (RdS_lt h2); have IH := Lib.hid ih
  have HH1 := Lib.hid h1; have HH2 := Lib.hid h2; have HOK1 := Lib.hid hok1; have HOK2 := Lib.hid hok2; have HB1 := Lib.hid hB1; have HB2 := Lib.hid hB2; have HLF := Lib.hid hlfe
  clear hlfe hw m1 ih h1 h2 hok1 hok2 hB1 hB2
  go_enter Try.func89, Try.ntmps89
  go_wp2_with fail
  have hFs : Fs w ((((w.setCell ⟨B, 0, none⟩ (.int .i64 (lf - 1))).alloc (.cells #[.int .i64 k1, .int .i64 n1, .string s1, .slice a1 l1 c1] 26)).alloc (.cells #[.int .i64 k2, .int .i64 n2, .string s2, .slice a2 l2 c2] 26)).alloc (.cells #[.int .i64 0, .int .i64 0, .string ⟨#[]⟩, .slice none 0 0] 26)) B left 0 k1 n1 s1 a1 l1 c1 k2 n2 s2 a2 l2 c2 := by
    have hs : (w.setCell ⟨B, 0, none⟩ (.int .i64 (lf - 1))).heap.size = w.heap.size := by simp [World.setCell]
    refine ⟨?_, ?_, ?_, ?_, ?_, ?_⟩
    · rw [heap_old (by simp [World.setCell]; omega), heap_old (by simp [World.setCell])]; exact heap_new hs.symm
    · rw [heap_old (by simp [World.setCell])]; exact heap_new (by simp [World.setCell])
    · exact heap_new (by simp [World.setCell])
    · show _ = _
      rw [heap_old (by simp [World.setCell]; omega), heap_old (by simp [World.setCell]; omega), heap_old (by rw [hs]; exact hBl)]
      have h0 := heap_set (o := 0) (.int .i64 (lf - 1)) HW.out
      rw [h0, HLF.out]
      have he : ((left + 1 : Nat) : Int) - 1 = (left : Int) := by omega
      rw [he]; rfl
    · exact ⟨rfl, rfl, rfl, by simp [World.setCell]; omega, fun x hx hr => by
        rw [heap_old (by simp [World.setCell]; omega), heap_old (by simp [World.setCell]; omega), heap_old (by rw [hs]; exact hx)]
        exact heap_set_other _ (by simpa using hr)⟩
    · simp [World.setCell]
  generalize ((((w.setCell ⟨B, 0, none⟩ (.int .i64 (lf - 1))).alloc (.cells #[.int .i64 k1, .int .i64 n1, .string s1, .slice a1 l1 c1] 26)).alloc (.cells #[.int .i64 k2, .int .i64 n2, .string s2, .slice a2 l2 c2] 26)).alloc (.cells #[.int .i64 0, .int .i64 0, .string ⟨#[]⟩, .slice none 0 0] 26)) = V at *
  have hrdE : RdS V xs1 a1 l1 c1 F1 := RdS_grown HH1.out hFs.ext (fun x hx hh => HB1.out (hh ▸ hx))
  have hrdN : RdS V xs2 a2 l2 c2 F2 := RdS_grown HH2.out hFs.ext (fun x hx hh => HB2.out (hh ▸ hx))
  clear m0 m1' mf
  obtain ⟨p0, p1, p2, p3, pl⟩ := hFs.exp
  go_wp2_with fail
  refine (l40Form_any k1 n1 s1 xs1 a1 l1 c1 F1 ⟨#[113, 117, 111, 116, 101]⟩ 1 V hrdE HOK1.out (by omega) HNquote.out).mono ?_
  rintro e V1 ⟨hb, hor⟩
  rw [HFquote.out] at hor
  obtain rfl : e = .returned (.tuple #[.slice none 0 0, .bool false]) := by
    rcases hor with ⟨_, h'⟩ | ⟨_, _, _, _, _, h', _⟩
    · exact h'
    · cases h'
  replace hFs := hFs.below hBl hb
  replace hrdE := RdS_ext hrdE hb
  replace hrdN := RdS_ext hrdN hb
  have hbQ := hb
  clear p0 p1 p2 p3 pl hb hor
  obtain ⟨p0, p1, p2, p3, pl⟩ := hFs.exp
  go_wp2_with fail
  refine (l40Form_any k1 n1 s1 xs1 a1 l1 c1 F1 ⟨#[108, 97, 109, 98, 100, 97]⟩ 2 V1 hrdE HOK1.out (by omega) HNlam.out).mono ?_
  rintro e V2 ⟨hb, hor⟩
  rw [HFlam.out] at hor
  obtain rfl : e = .returned (.tuple #[.slice none 0 0, .bool false]) := by
    rcases hor with ⟨_, h'⟩ | ⟨_, _, _, _, _, h', _⟩
    · exact h'
    · cases h'
  replace hFs := hFs.below hBl hb
  replace hrdE := RdS_ext hrdE hb
  replace hrdN := RdS_ext hrdN hb
  have hbQ := hb
  clear p0 p1 p2 p3 pl hb hor
  obtain ⟨p0, p1, p2, p3, pl⟩ := hFs.exp
  go_wp2_with fail
  refine (l40Form_any k1 n1 s1 xs1 a1 l1 c1 F1 ⟨#[99, 111, 110, 115]⟩ 2 V2 hrdE HOK1.out (by omega) HNcons.out).mono ?_
  rintro e V3 ⟨hb, hor⟩
  rw [HFcons.out] at hor
  obtain rfl : e = .returned (.tuple #[.slice none 0 0, .bool false]) := by
    rcases hor with ⟨_, h'⟩ | ⟨_, _, _, _, _, h', _⟩
    · exact h'
    · cases h'
  replace hFs := hFs.below hBl hb
  replace hrdE := RdS_ext hrdE hb
  replace hrdN := RdS_ext hrdN hb
  have hbQ := hb
  clear p0 p1 p2 p3 pl hb hor
  go_wp2_with fail
  have hbN : Below V3.heap.size V3 (V3.alloc (.cells #[.string ⟨#[99, 97, 114]⟩, .string ⟨#[99, 100, 114]⟩] 9)) := (Below.refl _ _).alloc (Nat.le_refl _) _
  have hNb : (V3.alloc (.cells #[.string ⟨#[99, 97, 114]⟩, .string ⟨#[99, 100, 114]⟩] 9)).heap[V3.heap.size]? = some (.cells #[.string ⟨#[99, 97, 114]⟩, .string ⟨#[99, 100, 114]⟩] 9 (0, 0)) := heap_new rfl
  generalize V3.alloc (.cells #[.string ⟨#[99, 97, 114]⟩, .string ⟨#[99, 100, 114]⟩] 9) = N at *
  replace hFs := hFs.below hBl hbN
  replace hrdE := RdS_ext hrdE hbN
  replace hrdN := RdS_ext hrdN hbN
  have HNB := Lib.hid hNb
  have hnbl := heap_lt hNb
  have HST := Lib.hid hFs; have HSE := Lib.hid hrdE; have HSN := Lib.hid hrdN
  clear hbN hNb hFs hrdE hrdN
  go_loopw [146] (fun iv wr => ∃ j : Nat, j ≤ 2 ∧ iv = .int .i64 j ∧ Below N.heap.size N wr) (fun iv _ => 2 - (intOf iv).toNat)
  case atStart => exact ⟨0, by omega, rfl, Below.refl _ _⟩
  case round =>
    obtain ⟨j, hj, rfl, hbr⟩ := hrel
    have hFs := HST.out.below hBl hbr
    have hrdE := RdS_ext HSE.out hbr
    have hrdN := RdS_ext HSN.out hbr
    have hnr := (hbr.block _ hnbl).trans HNB.out
    have n0 : wr.cell? ⟨V3.heap.size, 0, none⟩ = some (.string ⟨#[99, 97, 114]⟩) := by simpa using cell_of_block hnr 0
    have n1' : wr.cell? ⟨V3.heap.size, 1, none⟩ = some (.string ⟨#[99, 100, 114]⟩) := by simpa using cell_of_block hnr 1
    clear hnr
    rcases (show j = 0 ∨ j = 1 ∨ j = 2 by omega) with rfl | rfl | rfl
    · skip
      obtain ⟨p0, p1, p2, p3, pl⟩ := hFs.exp
      go_wp2_with fail
      refine (l40Form_any k1 n1 s1 xs1 a1 l1 c1 F1 ⟨#[99, 97, 114]⟩ 1 wr hrdE HOK1.out (by omega) HNcar.out).mono ?_
      rintro e V21 ⟨hb, hor⟩
      rw [HFcar.out] at hor
      obtain rfl : e = .returned (.tuple #[.slice none 0 0, .bool false]) := by
        rcases hor with ⟨_, h'⟩ | ⟨_, _, _, _, _, h', _⟩
        · exact h'
        · cases h'
      replace hFs := hFs.below hBl hb
      replace hrdE := RdS_ext hrdE hb
      replace hrdN := RdS_ext hrdN hb
      have hbQ := hb
      clear p0 p1 p2 p3 pl hb hor
      go_wp2
      go_roundw
      case rel => exact ⟨1, by omega, by go_num, hbr.trans (hbQ.mono hbr.size)⟩
      case measure => simp [intOf]
    · skip
      obtain ⟨p0, p1, p2, p3, pl⟩ := hFs.exp
      go_wp2_with fail
      refine (l40Form_any k1 n1 s1 xs1 a1 l1 c1 F1 ⟨#[99, 100, 114]⟩ 1 wr hrdE HOK1.out (by omega) HNcdr.out).mono ?_
      rintro e V21 ⟨hb, hor⟩
      rw [HFcdr.out] at hor
      obtain rfl : e = .returned (.tuple #[.slice none 0 0, .bool false]) := by
        rcases hor with ⟨_, h'⟩ | ⟨_, _, _, _, _, h', _⟩
        · exact h'
        · cases h'
      replace hFs := hFs.below hBl hb
      replace hrdE := RdS_ext hrdE hb
      replace hrdN := RdS_ext hrdN hb
      have hbQ := hb
      clear p0 p1 p2 p3 pl hb hor
      go_wp2
      go_roundw
      case rel => exact ⟨2, by omega, by go_num, hbr.trans (hbQ.mono hbr.size)⟩
      case measure => simp [intOf]
    · clear n0 n1'
      obtain ⟨p0, p1, p2, p3, pl⟩ := hFs.exp
      have hsVh := hFs.sz
      go_wp2_with fail
      refine (l40Form_any k1 n1 s1 xs1 a1 l1 c1 F1 ⟨#[105, 102]⟩ 3 wr hrdE HOK1.out (by omega) HNiff.out).mono ?_
      rintro e V31 ⟨hb, hor⟩
      rw [HFi.out] at hor
      obtain ⟨ia, il, ic, iF, rfl, hird, hiF⟩ : ∃ a l c F, e = .returned (.tuple #[.slice a l c, .bool true]) ∧ RdS V31 [.mk yk yn yz yas, .mk zk zn zz zas, .mk uk un uz uas] a l c F ∧ ∀ x ∈ F, wr.heap.size ≤ x := by
        rcases hor with ⟨h', _⟩ | ⟨rest, a', l', c', F', h', h2', h3', h4'⟩
        · cases h'
        · cases h'; exact ⟨a', l', c', F', h2', h3', h4'⟩
      have hGi : Gd w F1 F2 iF := fun x hx => .inr (.inr (by have := hiF x hx; omega))
      obtain rfl : il = 3 := hird.1
      obtain ⟨ib, io, rfl⟩ := RdS_addr hird (by simp)
      replace hFs := hFs.below hBl hb
      replace hrdE := RdS_ext hrdE hb
      replace hrdN := RdS_ext hrdN hb
      have hBi : B ∉ iF := hGi.ne HB1.out HB2.out hBl
      have hibm : ib ∈ iF := by
        obtain ⟨_, _, h3⟩ := hird
        rcases h3 with ⟨h4, _⟩ | ⟨_, b', o', F', ha, hF', _⟩
        · simp at h4
        · simp at ha; rw [hF', ha.1]; simp
      have hibB : ib ≠ B := fun hh => hBi (hh ▸ hibm)
      have hib6 : ib ≠ w.heap.size + 1 + 1 := hGi.ne6 HF1.out HF2.out ib hibm
      clear p0 p1 p2 p3 pl hb hor hiF hibm hsVh
      obtain ⟨ya, yl, yc, yF, ⟨y0, y1, y2, y3⟩, hry, hyF, hbly⟩ := RdS_el0 hird rfl
      obtain ⟨f0, f1, f2, f3, fl⟩ := hFs.env
      go_upto_region 38 with fail
      go_cut [19] (fun s6 wx => SpRes V31 B w F1 F2 rR s6 wx)
      case first => as_aux_lemma =>
        have hGe := hGi.sub hyF
        have hBe : B ∉ yF := hGe.ne HB1.out HB2.out hBl
        have hBV : B < V31.heap.size := heap_lt hFs.wk
        have HFS := Lib.hid hFs
        have hbd : Below V31.heap.size V31 V31.drew := (Below.refl _ _).drew
        have hbz : Below V31.heap.size V31 (V31.alloc (.cells #[.int .i64 0, .int .i64 0, .string ⟨#[]⟩, .slice none 0 0] 26)).drew := ((Below.refl _ _).alloc (Nat.le_refl _) _).drew
        have CE := Lib.hid (IH.out left B yk yn yz yas ya yl yc yF k2 n2 s2 xs2 a2 l2 c2 F2)
        rw [← HRR.out] at CE
        have HS : Hid (El8 ib (io) (w.heap.size + 1) (.int .i64 yk) (.int .i64 yn) (.string yz) (.slice ya yl yc) (.int .i64 k2) (.int .i64 n2) (.string s2) (.slice a2 l2 c2) V31) := ⟨y0, y1, y2, y3, f0, f1, f2, f3⟩
        have hsV1 := hFs.sz
        have hne5 : w.heap.size + 1 ≠ B := by omega
        have hneV : ib ≠ V31.heap.size := by omega
        have hne5V : w.heap.size + 1 ≠ V31.heap.size := by omega
        have hlF : ∀ x ∈ yF, x < V31.heap.size := RdS_lt hry
        have hlN : ∀ x ∈ F2, x < V31.heap.size := fun x hx => by have := HF2.out x hx; omega
        have HLF := Lib.hid hlF; have HLN := Lib.hid hlN
        clear hlF hlN
        go_region_held3 (fun w' => w'.cell? ⟨ib, io, none⟩ = some (.int .i64 yk) ∧ w'.cell? ⟨ib, io + 1, none⟩ = some (.int .i64 yn) ∧ w'.cell? ⟨ib, io + 2, none⟩ = some (.string yz) ∧ w'.cell? ⟨ib, io + 3, none⟩ = some (.slice ya yl yc) ∧ w'.cell? ⟨w.heap.size + 1, 0, none⟩ = some (.int .i64 k2) ∧ w'.cell? ⟨w.heap.size + 1, 1, none⟩ = some (.int .i64 n2) ∧ w'.cell? ⟨w.heap.size + 1, 2, none⟩ = some (.string s2) ∧ w'.cell? ⟨w.heap.size + 1, 3, none⟩ = some (.slice a2 l2 c2))
          (first | with_reducible exact El8.same (hbd.block _ hbly) (hbd.block _ fl) HS.out | with_reducible exact El8.same (hbz.block _ hbly) (hbz.block _ fl) HS.out | with_reducible exact El8.same (hg.block _ hbly (by simpa using hibB)) (hg.block _ fl (by simpa using hne5)) HS.out | with_reducible exact El8.same ((heap_old (Nat.lt_of_lt_of_le hbly hg.size)).trans (hg.block _ hbly (by simpa using hibB))) ((heap_old (Nat.lt_of_lt_of_le fl hg.size)).trans (hg.block _ fl (by simpa using hne5))) HS.out | with_reducible exact El8.same ((heap_set4_other hneV).trans (hg.block _ hbly (by simpa using hibB))) ((heap_set4_other hne5V).trans (hg.block _ fl (by simpa using hne5))) HS.out)
          (first | (go_at_call 89; (with_reducible refine (CE.out _ (by omega) (by omega) ?_ ?_ ?_ hBe HB2.out HOKY.out HOK2.out).mono ?_); (first | exact walk_below hbd hBV HFS.out.wk | exact walk_below hbz hBV HFS.out.wk); (first | exact RdS_ext hry hbd | exact RdS_ext hry hbz); (first | exact RdS_ext hrdN hbd | exact RdS_ext hrdN hbz); rintro e w5 ⟨k9, n9, z9, xs9, a9, l9, c9, F9, hr9, rfl, hrd9, hF9, hg9, hl9⟩; (first | (have hg : V31.grownBy w5 (some B) := grown_trans (grown_below hbd _) hg9) | (have hg : V31.grownBy w5 (some B) := grown_trans (grown_below hbz _) hg9)); have hG9 : Gd w F1 F2 F9 := (fun x hx => by rcases hF9 x hx with h' | h'; (rcases List.mem_append.1 h' with h' | h'; exact hGe x h'; exact .inr (.inl h')); (simp at h'; exact .inr (.inr (by omega)))); (try (have hz : w5.heap[V31.heap.size]? = some (.cells #[.int .i64 0, .int .i64 0, .string ⟨#[]⟩, .slice none 0 0] 26 (0, 0)) := (hg9.block _ (by simp) (by simp; omega)).trans (heap_new rfl); obtain ⟨z0, z1, z2, z3, zf⟩ := box4 hz; have hzl := heap_lt hz; have HZ := Lib.hid hz; clear hz; have hne9 : ∀ x ∈ F9, x ≠ V31.heap.size := (fun x hx => by rcases hF9 x hx with h' | h'; (rcases List.mem_append.1 h' with h' | h'; (have := HLF.out x h'; omega); (have := HLN.out x h'; omega)); (simp at h'; omega))))))
        all_goals (go_wp2_with fail; go_meet; first | exact SpRes_new hr9 hrd9 hG9 hg hl9 | exact SpRes_set hr9 hrd9 hG9 hg hl9 (Nat.le_refl _) HZ.out hne9 (by omega))
      case rest =>
        obtain ⟨BR, kR, nR, zR, xsR, aR, lR, cR, FR, rfl, hrR, hbxR, hGR, hg, hl, hBvR⟩ := hcut
        obtain ⟨V32, hVV⟩ : ∃ x : World, x = wc := ⟨_, rfl⟩
        subst hVV
        have hszV := hFs.sz
        replace hFs := hFs.grown hBl hg hl
        replace hrdN := RdS_grown hrdN hg (fun x hx hh => HB2.out (hh ▸ hx))
        replace hird := RdS_grown hird hg (fun x hx hh => hBi (hh ▸ hx))
        clear f0 f1 f2 f3 fl
        clear y0 y1 y2 y3 hry hyF hbly
        have hc0 : rR.2.1 = 0 := by
          by_cases h' : rR.2.1 = 0
          · exact h'
          · have := HGOOD.out.bad h'
            rw [this] at HNZ
            exact absurd rfl HNZ.out
        have hlR := HGOOD.out.left
        have hkd : (kR == 0) = false := by have := HNZ.out; rw [hrR] at this; simpa [Tm.kind] using this
        obtain ⟨rQ, hrQ⟩ : ∃ r : Res, r = ev fuel rR.2.2 (.mk zk zn zz zas) (Tm.mk k2 n2 s2 xs2) := ⟨_, rfl⟩
        have HRQ := Lib.hid hrQ
        have HE : Hid (rs = rQ) := by show _ = _; rw [HRS.out, evIf, if_neg (by simp [hc0]), if_pos HNZ.out, hrQ]
        have HOKZ := Lib.hid (HOKL.out (.mk zk zn zz zas) (by simp))
        rw [hc0] at hFs
        obtain ⟨g0, g1, g2, g3, gl⟩ := hbxR.cells
        clear hc0 hrQ
        obtain ⟨za, zl, zc, zF, ⟨z0, z1, z2, z3⟩, hrz, hzF, hblz⟩ := RdS_el1 hird rfl
        obtain ⟨f0, f1, f2, f3, fl⟩ := hFs.env
        go_wp2_with fail
        have hGe := hGi.sub hzF
        have hBe : B ∉ zF := hGe.ne HB1.out HB2.out hBl
        have hBV : B < V32.heap.size := heap_lt hFs.wk
        have HFS := Lib.hid hFs
        have hbd : Below V32.heap.size V32 V32.drew := (Below.refl _ _).drew
        have CE := Lib.hid (IH.out rR.2.2 B zk zn zz zas za zl zc zF k2 n2 s2 xs2 a2 l2 c2 F2)
        rw [← HRQ.out] at CE
        have HS : Hid (El8 ib (io + 4) (w.heap.size + 1) (.int .i64 zk) (.int .i64 zn) (.string zz) (.slice za zl zc) (.int .i64 k2) (.int .i64 n2) (.string s2) (.slice a2 l2 c2) V32) := ⟨z0, z1, z2, z3, f0, f1, f2, f3⟩
        have hsV1 := hFs.sz
        have hne5 : w.heap.size + 1 ≠ B := by omega
        have hne56 : w.heap.size + 1 ≠ w.heap.size + 1 + 1 := by omega
        go_region_held3 (fun w' => w'.cell? ⟨ib, io + 4, none⟩ = some (.int .i64 zk) ∧ w'.cell? ⟨ib, io + 4 + 1, none⟩ = some (.int .i64 zn) ∧ w'.cell? ⟨ib, io + 4 + 2, none⟩ = some (.string zz) ∧ w'.cell? ⟨ib, io + 4 + 3, none⟩ = some (.slice za zl zc) ∧ w'.cell? ⟨w.heap.size + 1, 0, none⟩ = some (.int .i64 k2) ∧ w'.cell? ⟨w.heap.size + 1, 1, none⟩ = some (.int .i64 n2) ∧ w'.cell? ⟨w.heap.size + 1, 2, none⟩ = some (.string s2) ∧ w'.cell? ⟨w.heap.size + 1, 3, none⟩ = some (.slice a2 l2 c2))
          (first | with_reducible exact El8.same (hbd.block _ hblz) (hbd.block _ fl) HS.out | with_reducible exact El8.same (hg.block _ hblz (by simpa using hibB)) (hg.block _ fl (by simpa using hne5)) HS.out | with_reducible exact El8.same ((heap_set4_other hib6).trans (hg.block _ hblz (by simpa using hibB))) ((heap_set4_other hne56).trans (hg.block _ fl (by simpa using hne5))) HS.out)
          (first | (go_at_call 89; (with_reducible refine (CE.out V32.drew (by omega) (by omega) (walk_below hbd hBV HFS.out.wk) (RdS_ext hrz hbd) (RdS_ext hrdN hbd) hBe HB2.out HOKZ.out HOK2.out).mono ?_); rintro e w5 ⟨k9, n9, z9, xs9, a9, l9, c9, F9, hr9, rfl, hrd9, hF9, hg9, hl9⟩; have hg : V32.grownBy w5 (some B) := grown_trans (grown_below hbd _) hg9; have hG9 : Gd w F1 F2 F9 := (fun x hx => by rcases hF9 x hx with h' | h'; (rcases List.mem_append.1 h' with h' | h'; exact hGe x h'; exact .inr (.inl h')); (simp at h'; exact .inr (.inr (by omega)))); have hFs5 := HFS.out.grown hBl hg hl9; obtain ⟨t0, t1, t2, t3, tf, tl⟩ := hFs5.res))
        replace hFs := hFs5
        have rl := tl
        have HR9 := Lib.hid hr9
        clear hr9
        go_wp2
        rw [HE.out]
        exact bodyPost_ret (v := .agg #[.int .i64 k9, .int .i64 n9, .string z9, .slice a9 l9 c9]) (results_term rfl _ _ (w.heap.size + 1 + 1) rfl (heap_set4 hFs.b6)) rfl (hFs.out (r := rQ) hBl HF1.out HF2.out HR9.out rfl rfl hrd9 hG9)
end Go.Proofs.Ytjkabbkaeioibaa
namespace Go.Proofs.Ytjkabbkaeioibaa
open Go.RowKit
set_option linter.unusedVariables false

set_option maxHeartbeats 8000000 in
set_option maxRecDepth 200000 in
theorem sp_if_else (fuel : Nat) (ih : EvalS fuel) (left B : Nat) (k1 n1 : Int) (s1 : ByteArray) (xs1 : List Tm) (a1 : Option Addr) (l1 c1 : Nat) (F1 : List Nat) (k2 n2 : Int) (s2 : ByteArray) (xs2 : List Tm) (a2 : Option Addr) (l2 c2 : Nat) (F2 : List Nat) (w : World)
    (hlf : left ≤ fuel) (h1000 : left + 1 ≤ 1000) (hw : WalkAt w B (left + 1) 0) (h1 : RdS w xs1 a1 l1 c1 F1) (h2 : RdS w xs2 a2 l2 c2 F2) (hB1 : B ∉ F1) (hB2 : B ∉ F2) (hok1 : (Tm.mk k1 n1 s1 xs1).ok = true) (hok2 : (Tm.mk k2 n2 s2 xs2).ok = true) (hk : k1 ≠ 2) (htl : (Tm.mk k1 n1 s1 xs1).tl.kind = 0) (xk xn : Int) (xz : ByteArray) (xas : List Tm) (yk yn : Int) (yz : ByteArray) (yas : List Tm) (zk zn : Int) (zz : ByteArray) (zas : List Tm) (uk un : Int) (uz : ByteArray) (uas : List Tm) (hits : (Tm.mk k1 n1 s1 xs1).its = [.mk xk xn xz xas, .mk yk yn yz yas, .mk zk zn zz zas, .mk uk un uz uas]) (hq : isSym (.mk xk xn xz xas) ⟨#[105, 102]⟩ = true) (hnz : (ev fuel left (.mk yk yn yz yas) (Tm.mk k2 n2 s2 xs2)).1.kind = 0) :
    Calls Try.prog 89 #[.pointer (some ⟨B, 0, none⟩), .agg #[.int .i64 k1, .int .i64 n1, .string s1, .slice a1 l1 c1], .agg #[.int .i64 k2, .int .i64 n2, .string s2, .slice a2 l2 c2]] w
      (SpOut w B (F1 ++ F2) (evStep (ev fuel) left (.mk k1 n1 s1 xs1) (.mk k2 n2 s2 xs2))) := by
  have hres : evStep (ev fuel) left (.mk k1 n1 s1 xs1) (.mk k2 n2 s2 xs2) = evIf (ev fuel) (ev fuel left (.mk yk yn yz yas) (Tm.mk k2 n2 s2 xs2)) (.mk zk zn zz zas) (.mk uk un uz uas) (Tm.mk k2 n2 s2 xs2) := by
    rw [evStep_list (show (Tm.mk k1 n1 s1 xs1).kind ≠ 2 from hk) htl]
    rw [hits, evForm, if_pos hq]
  rw [hres]
  have hk' : (k1 == 2) = false := by simpa using hk
  clear hres hk
  have HFi : Hid (formR (.mk k1 n1 s1 xs1) ⟨#[105, 102]⟩ 3 = some [.mk yk yn yz yas, .mk zk zn zz zas, .mk uk un uz uas]) := formR_hit hits rfl htl (.inr hq)
  have HFquote : Hid (formR (.mk k1 n1 s1 xs1) ⟨#[113, 117, 111, 116, 101]⟩ 1 = none) := formR_len (by rw [hits]; simp)
  have HFlam : Hid (formR (.mk k1 n1 s1 xs1) ⟨#[108, 97, 109, 98, 100, 97]⟩ 2 = none) := formR_len (by rw [hits]; simp)
  have HFcons : Hid (formR (.mk k1 n1 s1 xs1) ⟨#[99, 111, 110, 115]⟩ 2 = none) := formR_len (by rw [hits]; simp)
  have HFcar : Hid (formR (.mk k1 n1 s1 xs1) ⟨#[99, 97, 114]⟩ 1 = none) := formR_len (by rw [hits]; simp)
  have HFcdr : Hid (formR (.mk k1 n1 s1 xs1) ⟨#[99, 100, 114]⟩ 1 = none) := formR_len (by rw [hits]; simp)
  have HOKL : Hid (∀ a ∈ [Tm.mk xk xn xz xas, .mk yk yn yz yas, .mk zk zn zz zas, .mk uk un uz uas], a.ok = true) := fun a ha => its_ok hok1 a (by rw [hits]; exact ha)
  obtain ⟨rR, hrR⟩ : ∃ r : Res, r = ev fuel left (.mk yk yn yz yas) (Tm.mk k2 n2 s2 xs2) := ⟨_, rfl⟩
  rw [← hrR] at hnz ⊢
  have hgood : GoodR rR left := by rw [hrR]; exact ev_good fuel left _ _ (HOKL.out _ (by simp)) hok2
  have HRR := Lib.hid hrR; have HGOOD := Lib.hid hgood; have HNZ := Lib.hid hnz
  have HOKY := Lib.hid (HOKL.out (.mk yk yn yz yas) (by simp))
  obtain ⟨rs, hrs⟩ : ∃ r : Res, r = evIf (ev fuel) rR (.mk zk zn zz zas) (.mk uk un uz uas) (Tm.mk k2 n2 s2 xs2) := ⟨_, rfl⟩
  rw [← hrs]
  have HRS := Lib.hid hrs
  clear htl hits hq hnz hrR hgood hrs
  have HNquote : Hid (((⟨#[113, 117, 111, 116, 101]⟩ : ByteArray)).size = 0 ∨ (((⟨#[113, 117, 111, 116, 101]⟩ : ByteArray)).toList.isEmpty = false ∧ (Tm.sym ⟨#[113, 117, 111, 116, 101]⟩).wf = true)) := .inr (by decide +kernel)
  have HNlam : Hid (((⟨#[108, 97, 109, 98, 100, 97]⟩ : ByteArray)).size = 0 ∨ (((⟨#[108, 97, 109, 98, 100, 97]⟩ : ByteArray)).toList.isEmpty = false ∧ (Tm.sym ⟨#[108, 97, 109, 98, 100, 97]⟩).wf = true)) := .inr (by decide +kernel)
  have HNcons : Hid (((⟨#[99, 111, 110, 115]⟩ : ByteArray)).size = 0 ∨ (((⟨#[99, 111, 110, 115]⟩ : ByteArray)).toList.isEmpty = false ∧ (Tm.sym ⟨#[99, 111, 110, 115]⟩).wf = true)) := .inr (by decide +kernel)
  have HNcar : Hid (((⟨#[99, 97, 114]⟩ : ByteArray)).size = 0 ∨ (((⟨#[99, 97, 114]⟩ : ByteArray)).toList.isEmpty = false ∧ (Tm.sym ⟨#[99, 97, 114]⟩).wf = true)) := .inr (by decide +kernel)
  have HNcdr : Hid (((⟨#[99, 100, 114]⟩ : ByteArray)).size = 0 ∨ (((⟨#[99, 100, 114]⟩ : ByteArray)).toList.isEmpty = false ∧ (Tm.sym ⟨#[99, 100, 114]⟩).wf = true)) := .inr (by decide +kernel)
  have HNiff : Hid (((⟨#[105, 102]⟩ : ByteArray)).size = 0 ∨ (((⟨#[105, 102]⟩ : ByteArray)).toList.isEmpty = false ∧ (Tm.sym ⟨#[105, 102]⟩).wf = true)) := .inr (by decide +kernel)
  have HNempty : Hid (((⟨#[]⟩ : ByteArray)).size = 0 ∨ (((⟨#[]⟩ : ByteArray)).toList.isEmpty = false ∧ (Tm.sym ⟨#[]⟩).wf = true)) := .inl rfl
  obtain ⟨m0, m1, mf, hBl⟩ := walk_cells hw
  have hBw1 : B < w.heap.size + 1 := by omega
  have hBw2 : B < w.heap.size + 1 + 1 := by omega
  have hBw3 : B < w.heap.size + 1 + 1 + 1 := by omega
  obtain ⟨lf, hlfe⟩ : ∃ lf : Int, lf = ((left + 1 : Nat) : Int) := ⟨_, rfl⟩
  rw [← hlfe] at m0
  have hz0 : (lf == 0) = false := by simp; omega
  have hlf1 : 1 ≤ lf := by omega
  have hlf2 : lf ≤ 1000 := by omega
  have m1' : w.cell? ⟨B, 1, none⟩ = some (.int .i64 0) := m1
  have HW := Lib.hid hw; have HF1 := Lib.hid (RdS_lt h1); have HF2 := Lib.hid (RdS_lt h2); have IH := Lib.hid ih
  have HH1 := Lib.hid h1; have HH2 := Lib.hid h2; have HOK1 := Lib.hid hok1; have HOK2 := Lib.hid hok2; have HB1 := Lib.hid hB1; have HB2 := Lib.hid hB2; have HLF := Lib.hid hlfe
  clear hlfe hw m1 ih h1 h2 hok1 hok2 hB1 hB2
  go_enter Try.func89, Try.ntmps89
  go_wp2_with fail
  have hFs : Fs w ((((w.setCell ⟨B, 0, none⟩ (.int .i64 (lf - 1))).alloc (.cells #[.int .i64 k1, .int .i64 n1, .string s1, .slice a1 l1 c1] 26)).alloc (.cells #[.int .i64 k2, .int .i64 n2, .string s2, .slice a2 l2 c2] 26)).alloc (.cells #[.int .i64 0, .int .i64 0, .string ⟨#[]⟩, .slice none 0 0] 26)) B left 0 k1 n1 s1 a1 l1 c1 k2 n2 s2 a2 l2 c2 := by
    have hs : (w.setCell ⟨B, 0, none⟩ (.int .i64 (lf - 1))).heap.size = w.heap.size := by simp [World.setCell]
    refine ⟨?_, ?_, ?_, ?_, ?_, ?_⟩
    · rw [heap_old (by simp [World.setCell]; omega), heap_old (by simp [World.setCell])]; exact heap_new hs.symm
    · rw [heap_old (by simp [World.setCell])]; exact heap_new (by simp [World.setCell])
    · exact heap_new (by simp [World.setCell])
    · show _ = _
      rw [heap_old (by simp [World.setCell]; omega), heap_old (by simp [World.setCell]; omega), heap_old (by rw [hs]; exact hBl)]
      have h0 := heap_set (o := 0) (.int .i64 (lf - 1)) HW.out
      rw [h0, HLF.out]
      have he : ((left + 1 : Nat) : Int) - 1 = (left : Int) := by omega
      rw [he]; rfl
    · exact ⟨rfl, rfl, rfl, by simp [World.setCell]; omega, fun x hx hr => by
        rw [heap_old (by simp [World.setCell]; omega), heap_old (by simp [World.setCell]; omega), heap_old (by rw [hs]; exact hx)]
        exact heap_set_other _ (by simpa using hr)⟩
    · simp [World.setCell]
  generalize ((((w.setCell ⟨B, 0, none⟩ (.int .i64 (lf - 1))).alloc (.cells #[.int .i64 k1, .int .i64 n1, .string s1, .slice a1 l1 c1] 26)).alloc (.cells #[.int .i64 k2, .int .i64 n2, .string s2, .slice a2 l2 c2] 26)).alloc (.cells #[.int .i64 0, .int .i64 0, .string ⟨#[]⟩, .slice none 0 0] 26)) = V at *
  have hrdE : RdS V xs1 a1 l1 c1 F1 := RdS_grown HH1.out hFs.ext (fun x hx hh => HB1.out (hh ▸ hx))
  have hrdN : RdS V xs2 a2 l2 c2 F2 := RdS_grown HH2.out hFs.ext (fun x hx hh => HB2.out (hh ▸ hx))
  clear m0 m1' mf
  obtain ⟨p0, p1, p2, p3, pl⟩ := hFs.exp
  go_wp2_with fail
  refine (l40Form_any k1 n1 s1 xs1 a1 l1 c1 F1 ⟨#[113, 117, 111, 116, 101]⟩ 1 V hrdE HOK1.out (by omega) HNquote.out).mono ?_
  rintro e V1 ⟨hb, hor⟩
  rw [HFquote.out] at hor
  obtain rfl : e = .returned (.tuple #[.slice none 0 0, .bool false]) := by
    rcases hor with ⟨_, h'⟩ | ⟨_, _, _, _, _, h', _⟩
    · exact h'
    · cases h'
  replace hFs := hFs.below hBl hb
  replace hrdE := RdS_ext hrdE hb
  replace hrdN := RdS_ext hrdN hb
  have hbQ := hb
  clear p0 p1 p2 p3 pl hb hor
  obtain ⟨p0, p1, p2, p3, pl⟩ := hFs.exp
  go_wp2_with fail
  refine (l40Form_any k1 n1 s1 xs1 a1 l1 c1 F1 ⟨#[108, 97, 109, 98, 100, 97]⟩ 2 V1 hrdE HOK1.out (by omega) HNlam.out).mono ?_
  rintro e V2 ⟨hb, hor⟩
  rw [HFlam.out] at hor
  obtain rfl : e = .returned (.tuple #[.slice none 0 0, .bool false]) := by
    rcases hor with ⟨_, h'⟩ | ⟨_, _, _, _, _, h', _⟩
    · exact h'
    · cases h'
  replace hFs := hFs.below hBl hb
  replace hrdE := RdS_ext hrdE hb
  replace hrdN := RdS_ext hrdN hb
  have hbQ := hb
  clear p0 p1 p2 p3 pl hb hor
  obtain ⟨p0, p1, p2, p3, pl⟩ := hFs.exp
  go_wp2_with fail
  refine (l40Form_any k1 n1 s1 xs1 a1 l1 c1 F1 ⟨#[99, 111, 110, 115]⟩ 2 V2 hrdE HOK1.out (by omega) HNcons.out).mono ?_
  rintro e V3 ⟨hb, hor⟩
  rw [HFcons.out] at hor
  obtain rfl : e = .returned (.tuple #[.slice none 0 0, .bool false]) := by
    rcases hor with ⟨_, h'⟩ | ⟨_, _, _, _, _, h', _⟩
    · exact h'
    · cases h'
  replace hFs := hFs.below hBl hb
  replace hrdE := RdS_ext hrdE hb
  replace hrdN := RdS_ext hrdN hb
  have hbQ := hb
  clear p0 p1 p2 p3 pl hb hor
  go_wp2_with fail
  have hbN : Below V3.heap.size V3 (V3.alloc (.cells #[.string ⟨#[99, 97, 114]⟩, .string ⟨#[99, 100, 114]⟩] 9)) := (Below.refl _ _).alloc (Nat.le_refl _) _
  have hNb : (V3.alloc (.cells #[.string ⟨#[99, 97, 114]⟩, .string ⟨#[99, 100, 114]⟩] 9)).heap[V3.heap.size]? = some (.cells #[.string ⟨#[99, 97, 114]⟩, .string ⟨#[99, 100, 114]⟩] 9 (0, 0)) := heap_new rfl
  generalize V3.alloc (.cells #[.string ⟨#[99, 97, 114]⟩, .string ⟨#[99, 100, 114]⟩] 9) = N at *
  replace hFs := hFs.below hBl hbN
  replace hrdE := RdS_ext hrdE hbN
  replace hrdN := RdS_ext hrdN hbN
  have HNB := Lib.hid hNb
  have hnbl := heap_lt hNb
  have HST := Lib.hid hFs; have HSE := Lib.hid hrdE; have HSN := Lib.hid hrdN
  clear hbN hNb hFs hrdE hrdN
  go_loopw [146] (fun iv wr => ∃ j : Nat, j ≤ 2 ∧ iv = .int .i64 j ∧ Below N.heap.size N wr) (fun iv _ => 2 - (intOf iv).toNat)
  case atStart => exact ⟨0, by omega, rfl, Below.refl _ _⟩
  case round =>
    obtain ⟨j, hj, rfl, hbr⟩ := hrel
    have hFs := HST.out.below hBl hbr
    have hrdE := RdS_ext HSE.out hbr
    have hrdN := RdS_ext HSN.out hbr
    have hnr := (hbr.block _ hnbl).trans HNB.out
    have n0 : wr.cell? ⟨V3.heap.size, 0, none⟩ = some (.string ⟨#[99, 97, 114]⟩) := by simpa using cell_of_block hnr 0
    have n1' : wr.cell? ⟨V3.heap.size, 1, none⟩ = some (.string ⟨#[99, 100, 114]⟩) := by simpa using cell_of_block hnr 1
    clear hnr
    rcases (show j = 0 ∨ j = 1 ∨ j = 2 by omega) with rfl | rfl | rfl
    · skip
      obtain ⟨p0, p1, p2, p3, pl⟩ := hFs.exp
      go_wp2_with fail
      refine (l40Form_any k1 n1 s1 xs1 a1 l1 c1 F1 ⟨#[99, 97, 114]⟩ 1 wr hrdE HOK1.out (by omega) HNcar.out).mono ?_
      rintro e V21 ⟨hb, hor⟩
      rw [HFcar.out] at hor
      obtain rfl : e = .returned (.tuple #[.slice none 0 0, .bool false]) := by
        rcases hor with ⟨_, h'⟩ | ⟨_, _, _, _, _, h', _⟩
        · exact h'
        · cases h'
      replace hFs := hFs.below hBl hb
      replace hrdE := RdS_ext hrdE hb
      replace hrdN := RdS_ext hrdN hb
      have hbQ := hb
      clear p0 p1 p2 p3 pl hb hor
      go_wp2
      go_roundw
      case rel => exact ⟨1, by omega, by go_num, hbr.trans (hbQ.mono hbr.size)⟩
      case measure => simp [intOf]
    · skip
      obtain ⟨p0, p1, p2, p3, pl⟩ := hFs.exp
      go_wp2_with fail
      refine (l40Form_any k1 n1 s1 xs1 a1 l1 c1 F1 ⟨#[99, 100, 114]⟩ 1 wr hrdE HOK1.out (by omega) HNcdr.out).mono ?_
      rintro e V21 ⟨hb, hor⟩
      rw [HFcdr.out] at hor
      obtain rfl : e = .returned (.tuple #[.slice none 0 0, .bool false]) := by
        rcases hor with ⟨_, h'⟩ | ⟨_, _, _, _, _, h', _⟩
        · exact h'
        · cases h'
      replace hFs := hFs.below hBl hb
      replace hrdE := RdS_ext hrdE hb
      replace hrdN := RdS_ext hrdN hb
      have hbQ := hb
      clear p0 p1 p2 p3 pl hb hor
      go_wp2
      go_roundw
      case rel => exact ⟨2, by omega, by go_num, hbr.trans (hbQ.mono hbr.size)⟩
      case measure => simp [intOf]
    · clear n0 n1'
      obtain ⟨p0, p1, p2, p3, pl⟩ := hFs.exp
      have hsVh := hFs.sz
      go_wp2_with fail
      refine (l40Form_any k1 n1 s1 xs1 a1 l1 c1 F1 ⟨#[105, 102]⟩ 3 wr hrdE HOK1.out (by omega) HNiff.out).mono ?_
      rintro e V31 ⟨hb, hor⟩
      rw [HFi.out] at hor
      obtain ⟨ia, il, ic, iF, rfl, hird, hiF⟩ : ∃ a l c F, e = .returned (.tuple #[.slice a l c, .bool true]) ∧ RdS V31 [.mk yk yn yz yas, .mk zk zn zz zas, .mk uk un uz uas] a l c F ∧ ∀ x ∈ F, wr.heap.size ≤ x := by
        rcases hor with ⟨h', _⟩ | ⟨rest, a', l', c', F', h', h2', h3', h4'⟩
        · cases h'
        · cases h'; exact ⟨a', l', c', F', h2', h3', h4'⟩
      have hGi : Gd w F1 F2 iF := fun x hx => .inr (.inr (by have := hiF x hx; omega))
      obtain rfl : il = 3 := hird.1
      obtain ⟨ib, io, rfl⟩ := RdS_addr hird (by simp)
      replace hFs := hFs.below hBl hb
      replace hrdE := RdS_ext hrdE hb
      replace hrdN := RdS_ext hrdN hb
      have hBi : B ∉ iF := hGi.ne HB1.out HB2.out hBl
      have hibm : ib ∈ iF := by
        obtain ⟨_, _, h3⟩ := hird
        rcases h3 with ⟨h4, _⟩ | ⟨_, b', o', F', ha, hF', _⟩
        · simp at h4
        · simp at ha; rw [hF', ha.1]; simp
      have hibB : ib ≠ B := fun hh => hBi (hh ▸ hibm)
      have hib6 : ib ≠ w.heap.size + 1 + 1 := hGi.ne6 HF1.out HF2.out ib hibm
      clear p0 p1 p2 p3 pl hb hor hiF hibm hsVh
      obtain ⟨ya, yl, yc, yF, ⟨y0, y1, y2, y3⟩, hry, hyF, hbly⟩ := RdS_el0 hird rfl
      obtain ⟨f0, f1, f2, f3, fl⟩ := hFs.env
      go_upto_region 38 with fail
      go_cut [19] (fun s6 wx => SpRes V31 B w F1 F2 rR s6 wx)
      case first => as_aux_lemma =>
        have hGe := hGi.sub hyF
        have hBe : B ∉ yF := hGe.ne HB1.out HB2.out hBl
        have hBV : B < V31.heap.size := heap_lt hFs.wk
        have HFS := Lib.hid hFs
        have hbd : Below V31.heap.size V31 V31.drew := (Below.refl _ _).drew
        have hbz : Below V31.heap.size V31 (V31.alloc (.cells #[.int .i64 0, .int .i64 0, .string ⟨#[]⟩, .slice none 0 0] 26)).drew := ((Below.refl _ _).alloc (Nat.le_refl _) _).drew
        have CE := Lib.hid (IH.out left B yk yn yz yas ya yl yc yF k2 n2 s2 xs2 a2 l2 c2 F2)
        rw [← HRR.out] at CE
        have HS : Hid (El8 ib (io) (w.heap.size + 1) (.int .i64 yk) (.int .i64 yn) (.string yz) (.slice ya yl yc) (.int .i64 k2) (.int .i64 n2) (.string s2) (.slice a2 l2 c2) V31) := ⟨y0, y1, y2, y3, f0, f1, f2, f3⟩
        have hsV1 := hFs.sz
        have hne5 : w.heap.size + 1 ≠ B := by omega
        have hneV : ib ≠ V31.heap.size := by omega
        have hne5V : w.heap.size + 1 ≠ V31.heap.size := by omega
        have hlF : ∀ x ∈ yF, x < V31.heap.size := RdS_lt hry
        have hlN : ∀ x ∈ F2, x < V31.heap.size := fun x hx => by have := HF2.out x hx; omega
        have HLF := Lib.hid hlF; have HLN := Lib.hid hlN
        clear hlF hlN
        go_region_held3 (fun w' => w'.cell? ⟨ib, io, none⟩ = some (.int .i64 yk) ∧ w'.cell? ⟨ib, io + 1, none⟩ = some (.int .i64 yn) ∧ w'.cell? ⟨ib, io + 2, none⟩ = some (.string yz) ∧ w'.cell? ⟨ib, io + 3, none⟩ = some (.slice ya yl yc) ∧ w'.cell? ⟨w.heap.size + 1, 0, none⟩ = some (.int .i64 k2) ∧ w'.cell? ⟨w.heap.size + 1, 1, none⟩ = some (.int .i64 n2) ∧ w'.cell? ⟨w.heap.size + 1, 2, none⟩ = some (.string s2) ∧ w'.cell? ⟨w.heap.size + 1, 3, none⟩ = some (.slice a2 l2 c2))
          (first | with_reducible exact El8.same (hbd.block _ hbly) (hbd.block _ fl) HS.out | with_reducible exact El8.same (hbz.block _ hbly) (hbz.block _ fl) HS.out | with_reducible exact El8.same (hg.block _ hbly (by simpa using hibB)) (hg.block _ fl (by simpa using hne5)) HS.out | with_reducible exact El8.same ((heap_old (Nat.lt_of_lt_of_le hbly hg.size)).trans (hg.block _ hbly (by simpa using hibB))) ((heap_old (Nat.lt_of_lt_of_le fl hg.size)).trans (hg.block _ fl (by simpa using hne5))) HS.out | with_reducible exact El8.same ((heap_set4_other hneV).trans (hg.block _ hbly (by simpa using hibB))) ((heap_set4_other hne5V).trans (hg.block _ fl (by simpa using hne5))) HS.out)
          (first | (go_at_call 89; (with_reducible refine (CE.out _ (by omega) (by omega) ?_ ?_ ?_ hBe HB2.out HOKY.out HOK2.out).mono ?_); (first | exact walk_below hbd hBV HFS.out.wk | exact walk_below hbz hBV HFS.out.wk); (first | exact RdS_ext hry hbd | exact RdS_ext hry hbz); (first | exact RdS_ext hrdN hbd | exact RdS_ext hrdN hbz); rintro e w5 ⟨k9, n9, z9, xs9, a9, l9, c9, F9, hr9, rfl, hrd9, hF9, hg9, hl9⟩; (first | (have hg : V31.grownBy w5 (some B) := grown_trans (grown_below hbd _) hg9) | (have hg : V31.grownBy w5 (some B) := grown_trans (grown_below hbz _) hg9)); have hG9 : Gd w F1 F2 F9 := (fun x hx => by rcases hF9 x hx with h' | h'; (rcases List.mem_append.1 h' with h' | h'; exact hGe x h'; exact .inr (.inl h')); (simp at h'; exact .inr (.inr (by omega)))); (try (have hz : w5.heap[V31.heap.size]? = some (.cells #[.int .i64 0, .int .i64 0, .string ⟨#[]⟩, .slice none 0 0] 26 (0, 0)) := (hg9.block _ (by simp) (by simp; omega)).trans (heap_new rfl); obtain ⟨z0, z1, z2, z3, zf⟩ := box4 hz; have hzl := heap_lt hz; have HZ := Lib.hid hz; clear hz; have hne9 : ∀ x ∈ F9, x ≠ V31.heap.size := (fun x hx => by rcases hF9 x hx with h' | h'; (rcases List.mem_append.1 h' with h' | h'; (have := HLF.out x h'; omega); (have := HLN.out x h'; omega)); (simp at h'; omega))))))
        all_goals (go_wp2_with fail; go_meet; first | exact SpRes_new hr9 hrd9 hG9 hg hl9 | exact SpRes_set hr9 hrd9 hG9 hg hl9 (Nat.le_refl _) HZ.out hne9 (by omega))
      case rest =>
        obtain ⟨BR, kR, nR, zR, xsR, aR, lR, cR, FR, rfl, hrR, hbxR, hGR, hg, hl, hBvR⟩ := hcut
        obtain ⟨V32, hVV⟩ : ∃ x : World, x = wc := ⟨_, rfl⟩
        subst hVV
        have hszV := hFs.sz
        replace hFs := hFs.grown hBl hg hl
        replace hrdN := RdS_grown hrdN hg (fun x hx hh => HB2.out (hh ▸ hx))
        replace hird := RdS_grown hird hg (fun x hx hh => hBi (hh ▸ hx))
        clear f0 f1 f2 f3 fl
        clear y0 y1 y2 y3 hry hyF hbly
        have hlR := HGOOD.out.left
        have hkd : (kR == 0) = true := by have := HNZ.out; rw [hrR] at this; simpa [Tm.kind] using this
        obtain ⟨g0, g1, g2, g3, gl⟩ := hbxR.cells
        by_cases hc0 : rR.2.1 = 0
        case neg => as_aux_lemma =>
          have HE : Hid (rs = (Tm.nil, rR.2.1, rR.2.2)) := by show _ = _; rw [HRS.out, evIf, if_pos hc0]; rfl
          have hcd0 := hc0
          clear hc0
          obtain ⟨ua, ul, uc, uF, ⟨u0, u1, u2, u3⟩, hru, huF, hblu⟩ := RdS_el2 hird rfl
          obtain ⟨f0, f1, f2, f3, fl⟩ := hFs.env
          go_wp2_with fail
          have hGe := hGi.sub huF
          have hBe : B ∉ uF := hGe.ne HB1.out HB2.out hBl
          have hBV : B < V32.heap.size := heap_lt hFs.wk
          have HFS := Lib.hid hFs
          have hbd : Below V32.heap.size V32 V32.drew := (Below.refl _ _).drew
          have CE := Lib.hid (evalS_dead rR.2.2 rR.2.1 B uk un uz ua ul uc uF k2 n2 s2 a2 l2 c2 F2 V32.drew hcd0 (walk_below hbd hBV HFS.out.wk))
          have HS : Hid (El8 ib (io + 8) (w.heap.size + 1) (.int .i64 uk) (.int .i64 un) (.string uz) (.slice ua ul uc) (.int .i64 k2) (.int .i64 n2) (.string s2) (.slice a2 l2 c2) V32) := ⟨u0, u1, u2, u3, f0, f1, f2, f3⟩
          have hsV1 := hFs.sz
          have hne5 : w.heap.size + 1 ≠ B := by omega
          have hne56 : w.heap.size + 1 ≠ w.heap.size + 1 + 1 := by omega
          go_region_held3 (fun w' => w'.cell? ⟨ib, io + 8, none⟩ = some (.int .i64 uk) ∧ w'.cell? ⟨ib, io + 8 + 1, none⟩ = some (.int .i64 un) ∧ w'.cell? ⟨ib, io + 8 + 2, none⟩ = some (.string uz) ∧ w'.cell? ⟨ib, io + 8 + 3, none⟩ = some (.slice ua ul uc) ∧ w'.cell? ⟨w.heap.size + 1, 0, none⟩ = some (.int .i64 k2) ∧ w'.cell? ⟨w.heap.size + 1, 1, none⟩ = some (.int .i64 n2) ∧ w'.cell? ⟨w.heap.size + 1, 2, none⟩ = some (.string s2) ∧ w'.cell? ⟨w.heap.size + 1, 3, none⟩ = some (.slice a2 l2 c2))
            (first | with_reducible exact El8.same (hbd.block _ hblu) (hbd.block _ fl) HS.out | with_reducible exact El8.same (hg.block _ hblu (by simpa using hibB)) (hg.block _ fl (by simpa using hne5)) HS.out | with_reducible exact El8.same ((heap_set4_other hib6).trans (hg.block _ hblu (by simpa using hibB))) ((heap_set4_other hne56).trans (hg.block _ fl (by simpa using hne5))) HS.out)
            (first | (go_at_call 89; (with_reducible refine CE.out.mono ?_); rintro e w5 ⟨k9, n9, z9, xs9, a9, l9, c9, F9, hr9, rfl, hrd9, hF9, hg9, hl9⟩; have hg : V32.grownBy w5 (some B) := grown_trans (grown_below hbd _) hg9; have hG9 : Gd w F1 F2 F9 := (fun x hx => by rcases hF9 x hx with h' | h'; (rcases List.mem_append.1 h' with h' | h'; exact hGe x h'; exact .inr (.inl h')); (simp at h'; exact .inr (.inr (by omega)))); have hFs5 := HFS.out.grown hBl hg hl9; obtain ⟨t0, t1, t2, t3, tf, tl⟩ := hFs5.res))
          replace hFs := hFs5
          have rl := tl
          have HR9 := Lib.hid hr9
          clear hr9
          go_wp2
          rw [HE.out]
          exact bodyPost_ret (v := .agg #[.int .i64 k9, .int .i64 n9, .string z9, .slice a9 l9 c9]) (results_term rfl _ _ (w.heap.size + 1 + 1) rfl (heap_set4 hFs.b6)) rfl (hFs.out (r := (Tm.nil, rR.2.1, rR.2.2)) hBl HF1.out HF2.out HR9.out rfl rfl hrd9 hG9)
        obtain ⟨rQ, hrQ⟩ : ∃ r : Res, r = ev fuel rR.2.2 (.mk uk un uz uas) (Tm.mk k2 n2 s2 xs2) := ⟨_, rfl⟩
        have HRQ := Lib.hid hrQ
        have HE : Hid (rs = rQ) := by show _ = _; rw [HRS.out, evIf, if_neg (by simp [hc0]), if_neg (show ¬ (rR.1.kind ≠ 0) by simp [HNZ.out]), hrQ]
        have HOKU := Lib.hid (HOKL.out (.mk uk un uz uas) (by simp))
        rw [hc0] at hFs
        clear hc0 hrQ
        obtain ⟨ua, ul, uc, uF, ⟨u0, u1, u2, u3⟩, hru, huF, hblu⟩ := RdS_el2 hird rfl
        obtain ⟨f0, f1, f2, f3, fl⟩ := hFs.env
        go_wp2_with fail
        have hGe := hGi.sub huF
        have hBe : B ∉ uF := hGe.ne HB1.out HB2.out hBl
        have hBV : B < V32.heap.size := heap_lt hFs.wk
        have HFS := Lib.hid hFs
        have hbd : Below V32.heap.size V32 V32.drew := (Below.refl _ _).drew
        have CE := Lib.hid (IH.out rR.2.2 B uk un uz uas ua ul uc uF k2 n2 s2 xs2 a2 l2 c2 F2)
        rw [← HRQ.out] at CE
        have HS : Hid (El8 ib (io + 8) (w.heap.size + 1) (.int .i64 uk) (.int .i64 un) (.string uz) (.slice ua ul uc) (.int .i64 k2) (.int .i64 n2) (.string s2) (.slice a2 l2 c2) V32) := ⟨u0, u1, u2, u3, f0, f1, f2, f3⟩
        have hsV1 := hFs.sz
        have hne5 : w.heap.size + 1 ≠ B := by omega
        have hne56 : w.heap.size + 1 ≠ w.heap.size + 1 + 1 := by omega
        go_region_held3 (fun w' => w'.cell? ⟨ib, io + 8, none⟩ = some (.int .i64 uk) ∧ w'.cell? ⟨ib, io + 8 + 1, none⟩ = some (.int .i64 un) ∧ w'.cell? ⟨ib, io + 8 + 2, none⟩ = some (.string uz) ∧ w'.cell? ⟨ib, io + 8 + 3, none⟩ = some (.slice ua ul uc) ∧ w'.cell? ⟨w.heap.size + 1, 0, none⟩ = some (.int .i64 k2) ∧ w'.cell? ⟨w.heap.size + 1, 1, none⟩ = some (.int .i64 n2) ∧ w'.cell? ⟨w.heap.size + 1, 2, none⟩ = some (.string s2) ∧ w'.cell? ⟨w.heap.size + 1, 3, none⟩ = some (.slice a2 l2 c2))
          (first | with_reducible exact El8.same (hbd.block _ hblu) (hbd.block _ fl) HS.out | with_reducible exact El8.same (hg.block _ hblu (by simpa using hibB)) (hg.block _ fl (by simpa using hne5)) HS.out | with_reducible exact El8.same ((heap_set4_other hib6).trans (hg.block _ hblu (by simpa using hibB))) ((heap_set4_other hne56).trans (hg.block _ fl (by simpa using hne5))) HS.out)
          (first | (go_at_call 89; (with_reducible refine (CE.out V32.drew (by omega) (by omega) (walk_below hbd hBV HFS.out.wk) (RdS_ext hru hbd) (RdS_ext hrdN hbd) hBe HB2.out HOKU.out HOK2.out).mono ?_); rintro e w5 ⟨k9, n9, z9, xs9, a9, l9, c9, F9, hr9, rfl, hrd9, hF9, hg9, hl9⟩; have hg : V32.grownBy w5 (some B) := grown_trans (grown_below hbd _) hg9; have hG9 : Gd w F1 F2 F9 := (fun x hx => by rcases hF9 x hx with h' | h'; (rcases List.mem_append.1 h' with h' | h'; exact hGe x h'; exact .inr (.inl h')); (simp at h'; exact .inr (.inr (by omega)))); have hFs5 := HFS.out.grown hBl hg hl9; obtain ⟨t0, t1, t2, t3, tf, tl⟩ := hFs5.res))
        replace hFs := hFs5
        have rl := tl
        have HR9 := Lib.hid hr9
        clear hr9
        go_wp2
        rw [HE.out]
        exact bodyPost_ret (v := .agg #[.int .i64 k9, .int .i64 n9, .string z9, .slice a9 l9 c9]) (results_term rfl _ _ (w.heap.size + 1 + 1) rfl (heap_set4 hFs.b6)) rfl (hFs.out (r := rQ) hBl HF1.out HF2.out HR9.out rfl rfl hrd9 hG9)
end Go.Proofs.Ytjkabbkaeioibaa
