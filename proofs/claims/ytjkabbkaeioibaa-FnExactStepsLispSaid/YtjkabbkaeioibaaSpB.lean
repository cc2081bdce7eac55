/- The reference's evaluator: what is no form at all. -/
import Derived.Test.YtjkabbkaeioibaaSpDefs
import Derived.Deep.RegionHeld3
namespace Go.Proofs.Ytjkabbkaeioibaa
open Go.RowKit
set_option linter.unusedVariables false

theorem formR_tail {t : Tm} {name : ByteArray} {n : Nat} (h : t.tl.kind ≠ 0) : formR t name n = none := by
  unfold formR; split
  · rfl
  · rw [if_neg (fun h' => h h'.2.1)]
theorem formR_len {t : Tm} {name : ByteArray} {n : Nat} (h : t.its.length ≠ n + 1) : formR t name n = none := by
  unfold formR; split
  · rfl
  · rename_i x rest hx
    rw [if_neg (fun h' => by rw [hx] at h; simp at h; exact h h'.1)]
theorem formR_sym {t x : Tm} {rest : List Tm} {name : ByteArray} {n : Nat} (hi : t.its = x :: rest) (hs : isSym x name = false) (hn : name.size ≠ 0) : formR t name n = none := by
  unfold formR; rw [hi]; simp only
  rw [if_neg (fun h' => by rcases h'.2.2 with h'' | h''; exact hn h''; rw [hs] at h''; cases h'')]
theorem formR_hit {t x : Tm} {rest : List Tm} {name : ByteArray} {n : Nat} (hi : t.its = x :: rest) (hl : rest.length = n) (ht : t.tl.kind = 0) (hs : name.size = 0 ∨ isSym x name = true) : formR t name n = some rest := by
  unfold formR; rw [hi]; simp only
  rw [if_pos ⟨hl, ht, hs⟩]

set_option maxHeartbeats 8000000 in
set_option maxRecDepth 200000 in
theorem sp_none (fuel : Nat) (ih : EvalS fuel) (left B : Nat) (k1 n1 : Int) (s1 : ByteArray) (xs1 : List Tm) (a1 : Option Addr) (l1 c1 : Nat) (F1 : List Nat) (k2 n2 : Int) (s2 : ByteArray) (xs2 : List Tm) (a2 : Option Addr) (l2 c2 : Nat) (F2 : List Nat) (w : World)
    (hlf : left ≤ fuel) (h1000 : left + 1 ≤ 1000) (hw : WalkAt w B (left + 1) 0) (h1 : RdS w xs1 a1 l1 c1 F1) (h2 : RdS w xs2 a2 l2 c2 F2) (hB1 : B ∉ F1) (hB2 : B ∉ F2) (hok1 : (Tm.mk k1 n1 s1 xs1).ok = true) (hok2 : (Tm.mk k2 n2 s2 xs2).ok = true) (hk : k1 ≠ 2) (hfquote : formR (.mk k1 n1 s1 xs1) ⟨#[113, 117, 111, 116, 101]⟩ 1 = none) (hflam : formR (.mk k1 n1 s1 xs1) ⟨#[108, 97, 109, 98, 100, 97]⟩ 2 = none) (hfcons : formR (.mk k1 n1 s1 xs1) ⟨#[99, 111, 110, 115]⟩ 2 = none) (hfcar : formR (.mk k1 n1 s1 xs1) ⟨#[99, 97, 114]⟩ 1 = none) (hfcdr : formR (.mk k1 n1 s1 xs1) ⟨#[99, 100, 114]⟩ 1 = none) (hfiff : formR (.mk k1 n1 s1 xs1) ⟨#[105, 102]⟩ 3 = none) (hfempty : formR (.mk k1 n1 s1 xs1) ⟨#[]⟩ 1 = none) :
    Calls Try.prog 89 #[.pointer (some ⟨B, 0, none⟩), .agg #[.int .i64 k1, .int .i64 n1, .string s1, .slice a1 l1 c1], .agg #[.int .i64 k2, .int .i64 n2, .string s2, .slice a2 l2 c2]] w
      (SpOut w B (F1 ++ F2) (stuck left)) := by
  have hk' : (k1 == 2) = false := by simpa using hk
  clear hk
  have HFquote := Lib.hid hfquote
  have HFlam := Lib.hid hflam
  have HFcons := Lib.hid hfcons
  have HFcar := Lib.hid hfcar
  have HFcdr := Lib.hid hfcdr
  have HFiff := Lib.hid hfiff
  have HFempty := Lib.hid hfempty
  clear hfquote hflam hfcons hfcar hfcdr hfiff hfempty
  have HNquote : Hid (((⟨#[113, 117, 111, 116, 101]⟩ : ByteArray)).size = 0 ∨ (((⟨#[113, 117, 111, 116, 101]⟩ : ByteArray)).toList.isEmpty = false ∧ (Tm.sym ⟨#[113, 117, 111, 116, 101]⟩).wf = true)) := .inr (by decide +kernel)
  have HNlam : Hid (((⟨#[108, 97, 109, 98, 100, 97]⟩ : ByteArray)).size = 0 ∨ (((⟨#[108, 97, 109, 98, 100, 97]⟩ : ByteArray)).toList.isEmpty = false ∧ (Tm.sym ⟨#[108, 97, 109, 98, 100, 97]⟩).wf = true)) := .inr (by decide +kernel)
  have HNcons : Hid (((⟨#[99, 111, 110, 115]⟩ : ByteArray)).size = 0 ∨ (((⟨#[99, 111, 110, 115]⟩ : ByteArray)).toList.isEmpty = false ∧ (Tm.sym ⟨#[99, 111, 110, 115]⟩).wf = true)) := .inr (by decide +kernel)
  have HNcar : Hid (((⟨#[99, 97, 114]⟩ : ByteArray)).size = 0 ∨ (((⟨#[99, 97, 114]⟩ : ByteArray)).toList.isEmpty = false ∧ (Tm.sym ⟨#[99, 97, 114]⟩).wf = true)) := .inr (by decide +kernel)
  have HNcdr : Hid (((⟨#[99, 100, 114]⟩ : ByteArray)).size = 0 ∨ (((⟨#[99, 100, 114]⟩ : ByteArray)).toList.isEmpty = false ∧ (Tm.sym ⟨#[99, 100, 114]⟩).wf = true)) := .inr (by decide +kernel)
  have HNiff : Hid (((⟨#[105, 102]⟩ : ByteArray)).size = 0 ∨ (((⟨#[105, 102]⟩ : ByteArray)).toList.isEmpty = false ∧ (Tm.sym ⟨#[105, 102]⟩).wf = true)) := .inr (by decide +kernel)
  have HNempty : Hid (((⟨#[]⟩ : ByteArray)).size = 0 ∨ (((⟨#[]⟩ : ByteArray)).toList.isEmpty = false ∧ (Tm.sym ⟨#[]⟩).wf = true)) := .inl rfl
  obtain ⟨m0, m1, mf, hBl⟩ := walk_cells hw
  have hBw1 : B < w.heap.size + 1 := by omega
  have hBw2 : B < w.heap.size + 1 + 1 := by omega
  have hBw3 : B < w.heap.size + 1 + 1 + 1 := by omega
  obtain ⟨lf, hlfe⟩ : ∃ lf : Int, lf = ((left + 1 : Nat) : Int) := ⟨_, rfl⟩
  rw [← hlfe] at m0
  have hz0 : (lf == 0) = false := by simp; omega
  have hlf1 : 1 ≤ lf := by omega
  have hlf2 : lf ≤ 1000 := by omega
  have m1' : w.cell? ⟨B, 1, none⟩ = some (.int .i64 0) := m1
  have HW := Lib.hid hw; have HF1 := Lib.hid (RdS_lt h1); have HF2 := Lib.hid (RdS_lt h2); have IH := Lib.hid ih
  have HH1 := Lib.hid h1; have HH2 := Lib.hid h2; have HOK1 := Lib.hid hok1; have HOK2 := Lib.hid hok2; have HB1 := Lib.hid hB1; have HB2 := Lib.hid hB2; have HLF := Lib.hid hlfe
  clear hlfe hw m1 ih h1 h2 hok1 hok2 hB1 hB2
  go_enter Try.func89, Try.ntmps89
  go_wp2_with fail
  have hFs : Fs w ((((w.setCell ⟨B, 0, none⟩ (.int .i64 (lf - 1))).alloc (.cells #[.int .i64 k1, .int .i64 n1, .string s1, .slice a1 l1 c1] 26)).alloc (.cells #[.int .i64 k2, .int .i64 n2, .string s2, .slice a2 l2 c2] 26)).alloc (.cells #[.int .i64 0, .int .i64 0, .string ⟨#[]⟩, .slice none 0 0] 26)) B left 0 k1 n1 s1 a1 l1 c1 k2 n2 s2 a2 l2 c2 := by
    have hs : (w.setCell ⟨B, 0, none⟩ (.int .i64 (lf - 1))).heap.size = w.heap.size := by simp [World.setCell]
    refine ⟨?_, ?_, ?_, ?_, ?_, ?_⟩
    · rw [heap_old (by simp [World.setCell]; omega), heap_old (by simp [World.setCell])]; exact heap_new hs.symm
    · rw [heap_old (by simp [World.setCell])]; exact heap_new (by simp [World.setCell])
    · exact heap_new (by simp [World.setCell])
    · show _ = _
      rw [heap_old (by simp [World.setCell]; omega), heap_old (by simp [World.setCell]; omega), heap_old (by rw [hs]; exact hBl)]
      have h0 := heap_set (o := 0) (.int .i64 (lf - 1)) HW.out
      rw [h0, HLF.out]
      have he : ((left + 1 : Nat) : Int) - 1 = (left : Int) := by omega
      rw [he]; rfl
    · exact ⟨rfl, rfl, rfl, by simp [World.setCell]; omega, fun x hx hr => by
        rw [heap_old (by simp [World.setCell]; omega), heap_old (by simp [World.setCell]; omega), heap_old (by rw [hs]; exact hx)]
        exact heap_set_other _ (by simpa using hr)⟩
    · simp [World.setCell]
  generalize ((((w.setCell ⟨B, 0, none⟩ (.int .i64 (lf - 1))).alloc (.cells #[.int .i64 k1, .int .i64 n1, .string s1, .slice a1 l1 c1] 26)).alloc (.cells #[.int .i64 k2, .int .i64 n2, .string s2, .slice a2 l2 c2] 26)).alloc (.cells #[.int .i64 0, .int .i64 0, .string ⟨#[]⟩, .slice none 0 0] 26)) = V at *
  have hrdE : RdS V xs1 a1 l1 c1 F1 := RdS_grown HH1.out hFs.ext (fun x hx hh => HB1.out (hh ▸ hx))
  have hrdN : RdS V xs2 a2 l2 c2 F2 := RdS_grown HH2.out hFs.ext (fun x hx hh => HB2.out (hh ▸ hx))
  clear m0 m1' mf
  obtain ⟨p0, p1, p2, p3, pl⟩ := hFs.exp
  go_wp2_with fail
  refine (l40Form_any k1 n1 s1 xs1 a1 l1 c1 F1 ⟨#[113, 117, 111, 116, 101]⟩ 1 V hrdE HOK1.out (by omega) HNquote.out).mono ?_
  rintro e V1 ⟨hb, hor⟩
  rw [HFquote.out] at hor
  obtain rfl : e = .returned (.tuple #[.slice none 0 0, .bool false]) := by
    rcases hor with ⟨_, h'⟩ | ⟨_, _, _, _, _, h', _⟩
    · exact h'
    · cases h'
  replace hFs := hFs.below hBl hb
  replace hrdE := RdS_ext hrdE hb
  replace hrdN := RdS_ext hrdN hb
  have hbQ := hb
  clear p0 p1 p2 p3 pl hb hor
  obtain ⟨p0, p1, p2, p3, pl⟩ := hFs.exp
  go_wp2_with fail
  refine (l40Form_any k1 n1 s1 xs1 a1 l1 c1 F1 ⟨#[108, 97, 109, 98, 100, 97]⟩ 2 V1 hrdE HOK1.out (by omega) HNlam.out).mono ?_
  rintro e V2 ⟨hb, hor⟩
  rw [HFlam.out] at hor
  obtain rfl : e = .returned (.tuple #[.slice none 0 0, .bool false]) := by
    rcases hor with ⟨_, h'⟩ | ⟨_, _, _, _, _, h', _⟩
    · exact h'
    · cases h'
  replace hFs := hFs.below hBl hb
  replace hrdE := RdS_ext hrdE hb
  replace hrdN := RdS_ext hrdN hb
  have hbQ := hb
  clear p0 p1 p2 p3 pl hb hor
  obtain ⟨p0, p1, p2, p3, pl⟩ := hFs.exp
  go_wp2_with fail
  refine (l40Form_any k1 n1 s1 xs1 a1 l1 c1 F1 ⟨#[99, 111, 110, 115]⟩ 2 V2 hrdE HOK1.out (by omega) HNcons.out).mono ?_
  rintro e V3 ⟨hb, hor⟩
  rw [HFcons.out] at hor
  obtain rfl : e = .returned (.tuple #[.slice none 0 0, .bool false]) := by
    rcases hor with ⟨_, h'⟩ | ⟨_, _, _, _, _, h', _⟩
    · exact h'
    · cases h'
  replace hFs := hFs.below hBl hb
  replace hrdE := RdS_ext hrdE hb
  replace hrdN := RdS_ext hrdN hb
  have hbQ := hb
  clear p0 p1 p2 p3 pl hb hor
  go_wp2_with fail
  have hbN : Below V3.heap.size V3 (V3.alloc (.cells #[.string ⟨#[99, 97, 114]⟩, .string ⟨#[99, 100, 114]⟩] 9)) := (Below.refl _ _).alloc (Nat.le_refl _) _
  have hNb : (V3.alloc (.cells #[.string ⟨#[99, 97, 114]⟩, .string ⟨#[99, 100, 114]⟩] 9)).heap[V3.heap.size]? = some (.cells #[.string ⟨#[99, 97, 114]⟩, .string ⟨#[99, 100, 114]⟩] 9 (0, 0)) := heap_new rfl
  generalize V3.alloc (.cells #[.string ⟨#[99, 97, 114]⟩, .string ⟨#[99, 100, 114]⟩] 9) = N at *
  replace hFs := hFs.below hBl hbN
  replace hrdE := RdS_ext hrdE hbN
  replace hrdN := RdS_ext hrdN hbN
  have HNB := Lib.hid hNb
  have hnbl := heap_lt hNb
  have HST := Lib.hid hFs; have HSE := Lib.hid hrdE; have HSN := Lib.hid hrdN
  clear hbN hNb hFs hrdE hrdN
  go_loopw [146] (fun iv wr => ∃ j : Nat, j ≤ 2 ∧ iv = .int .i64 j ∧ Below N.heap.size N wr) (fun iv _ => 2 - (intOf iv).toNat)
  case atStart => exact ⟨0, by omega, rfl, Below.refl _ _⟩
  case round =>
    obtain ⟨j, hj, rfl, hbr⟩ := hrel
    have hFs := HST.out.below hBl hbr
    have hrdE := RdS_ext HSE.out hbr
    have hrdN := RdS_ext HSN.out hbr
    have hnr := (hbr.block _ hnbl).trans HNB.out
    have n0 : wr.cell? ⟨V3.heap.size, 0, none⟩ = some (.string ⟨#[99, 97, 114]⟩) := by simpa using cell_of_block hnr 0
    have n1' : wr.cell? ⟨V3.heap.size, 1, none⟩ = some (.string ⟨#[99, 100, 114]⟩) := by simpa using cell_of_block hnr 1
    clear hnr
    rcases (show j = 0 ∨ j = 1 ∨ j = 2 by omega) with rfl | rfl | rfl
    · skip
      obtain ⟨p0, p1, p2, p3, pl⟩ := hFs.exp
      go_wp2_with fail
      refine (l40Form_any k1 n1 s1 xs1 a1 l1 c1 F1 ⟨#[99, 97, 114]⟩ 1 wr hrdE HOK1.out (by omega) HNcar.out).mono ?_
      rintro e V21 ⟨hb, hor⟩
      rw [HFcar.out] at hor
      obtain rfl : e = .returned (.tuple #[.slice none 0 0, .bool false]) := by
        rcases hor with ⟨_, h'⟩ | ⟨_, _, _, _, _, h', _⟩
        · exact h'
        · cases h'
      replace hFs := hFs.below hBl hb
      replace hrdE := RdS_ext hrdE hb
      replace hrdN := RdS_ext hrdN hb
      have hbQ := hb
      clear p0 p1 p2 p3 pl hb hor
      go_wp2
      go_roundw
      case rel => exact ⟨1, by omega, by go_num, hbr.trans (hbQ.mono hbr.size)⟩
      case measure => simp [intOf]
    · skip
      obtain ⟨p0, p1, p2, p3, pl⟩ := hFs.exp
      go_wp2_with fail
      refine (l40Form_any k1 n1 s1 xs1 a1 l1 c1 F1 ⟨#[99, 100, 114]⟩ 1 wr hrdE HOK1.out (by omega) HNcdr.out).mono ?_
      rintro e V21 ⟨hb, hor⟩
      rw [HFcdr.out] at hor
      obtain rfl : e = .returned (.tuple #[.slice none 0 0, .bool false]) := by
        rcases hor with ⟨_, h'⟩ | ⟨_, _, _, _, _, h', _⟩
        · exact h'
        · cases h'
      replace hFs := hFs.below hBl hb
      replace hrdE := RdS_ext hrdE hb
      replace hrdN := RdS_ext hrdN hb
      have hbQ := hb
      clear p0 p1 p2 p3 pl hb hor
      go_wp2
      go_roundw
      case rel => exact ⟨2, by omega, by go_num, hbr.trans (hbQ.mono hbr.size)⟩
      case measure => simp [intOf]
    · skip
      obtain ⟨p0, p1, p2, p3, pl⟩ := hFs.exp
      go_wp2_with fail
      refine (l40Form_any k1 n1 s1 xs1 a1 l1 c1 F1 ⟨#[105, 102]⟩ 3 wr hrdE HOK1.out (by omega) HNiff.out).mono ?_
      rintro e V31 ⟨hb, hor⟩
      rw [HFiff.out] at hor
      obtain rfl : e = .returned (.tuple #[.slice none 0 0, .bool false]) := by
        rcases hor with ⟨_, h'⟩ | ⟨_, _, _, _, _, h', _⟩
        · exact h'
        · cases h'
      replace hFs := hFs.below hBl hb
      replace hrdE := RdS_ext hrdE hb
      replace hrdN := RdS_ext hrdN hb
      have hbQ := hb
      clear p0 p1 p2 p3 pl hb hor
      obtain ⟨p0, p1, p2, p3, pl⟩ := hFs.exp
      go_wp2_with fail
      refine (l40Form_any k1 n1 s1 xs1 a1 l1 c1 F1 ⟨#[]⟩ 1 V31 hrdE HOK1.out (by omega) HNempty.out).mono ?_
      rintro e V32 ⟨hb, hor⟩
      rw [HFempty.out] at hor
      obtain rfl : e = .returned (.tuple #[.slice none 0 0, .bool false]) := by
        rcases hor with ⟨_, h'⟩ | ⟨_, _, _, _, _, h', _⟩
        · exact h'
        · cases h'
      replace hFs := hFs.below hBl hb
      replace hrdE := RdS_ext hrdE hb
      replace hrdN := RdS_ext hrdN hb
      have hbQ := hb
      clear p0 p1 p2 p3 pl hb hor
      go_wp2_with fail
      refine (l40Stuck_any B left 0 V32 hFs.wk).mono ?_
      rintro e V40 ⟨k9, n9, s9, xs9, a9, l9, c9, F9, hr9, rfl, hrd9, hF9, hg9, hw9⟩
      have hs3 := hFs.sz
      replace hFs := hFs.grown hBl hg9 hw9
      have HR9 := Lib.hid hr9
      clear hr9 n0 n1'
      obtain ⟨r0, r1, r2, r3, rf, rl⟩ := hFs.res
      go_wp2
      exact bodyPost_ret (v := .agg #[.int .i64 k9, .int .i64 n9, .string s9, .slice a9 l9 c9]) (results_term rfl _ _ (w.heap.size + 1 + 1) rfl (heap_set4 hFs.b6)) rfl (hFs.out (r := stuck left) hBl HF1.out HF2.out HR9.out rfl rfl hrd9 (fun x hx => .inr (.inr (by rcases hF9 x hx with h' | h'; cases h'; omega))))
end Go.Proofs.Ytjkabbkaeioibaa
