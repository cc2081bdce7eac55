/- The reference's evaluator: no step left. The reference's evaluator: a symbol. The reference's evaluator: quote. The reference's evaluator: lambda whose list of names is no list of one symbol. The reference's evaluator: lambda with a list of one symbol. -/
import Derived.Test.YtjkabbkaeioibaaSpDefs
import Derived.Deep.RegionHeld3
import Derived.Test.YtjkabbkaeioibaaSpB
import Derived.Test.YtjkabbkaeioibaaSpDefs2
namespace Go.Proofs.Ytjkabbkaeioibaa
open Go.RowKit
set_option linter.unusedVariables false

set_option maxHeartbeats 2000000 in
set_option maxRecDepth 100000 in
theorem sp_zero (B : Nat) (k1 n1 : Int) (s1 : ByteArray) (a1 : Option Addr) (l1 c1 : Nat) (F1 : List Nat) (k2 n2 : Int) (s2 : ByteArray) (a2 : Option Addr) (l2 c2 : Nat) (F2 : List Nat) (w : World) (hw : WalkAt w B 0 0) :
    Calls Try.prog 89 #[.pointer (some ⟨B, 0, none⟩), .agg #[.int .i64 k1, .int .i64 n1, .string s1, .slice a1 l1 c1], .agg #[.int .i64 k2, .int .i64 n2, .string s2, .slice a2 l2 c2]] w
      (SpOut w B (F1 ++ F2) (Tm.nil, 2, 0)) := by
  obtain ⟨m0, m1, mf, hBl⟩ := walk_cells hw
  have m0' : w.cell? ⟨B, 0, none⟩ = some (.int .i64 0) := m0
  have m1' : w.cell? ⟨B, 1, none⟩ = some (.int .i64 0) := m1
  have hB1 : B < w.heap.size + 1 := by omega
  have hB2 : B < w.heap.size + 1 + 1 := by omega
  have hB3 : B < w.heap.size + 1 + 1 + 1 := by omega
  have HW := Lib.hid hw
  clear m0 m1 hw
  go_enter Try.func89, Try.ntmps89
  go_wp2
  have hs : (w.setCell ⟨B, 1, none⟩ (.int .i64 2)).heap.size = w.heap.size := by simp [World.setCell]
  refine bodyPost_ret (v := .agg #[.int .i64 0, .int .i64 0, .string ⟨#[]⟩, .slice none 0 0]) (results_term rfl _ _ (w.heap.size + 1 + 1) rfl (heap_new (by simp [World.setCell]))) rfl ⟨0, 0, ByteArray.empty, [], none, 0, 0, [], rfl, rfl, RdS_nil _ _ _, by simp, ?_, ?_⟩
  · exact ⟨rfl, rfl, rfl, by simp [World.setCell]; omega, fun x hx hr => by
      rw [heap_old (by simp [World.setCell]; omega), heap_old (by simp [World.setCell]; omega), heap_old (by rw [hs]; exact hx)]
      exact heap_set_other _ (by simpa using hr)⟩
  · show _ = _
    rw [heap_old (by simp [World.setCell]; omega), heap_old (by simp [World.setCell]; omega), heap_old (by rw [hs]; exact hBl)]
    have h0 := heap_set (o := 1) (.int .i64 2) HW.out
    rw [h0]; rfl
end Go.Proofs.Ytjkabbkaeioibaa
namespace Go.Proofs.Ytjkabbkaeioibaa
open Go.RowKit
set_option linter.unusedVariables false

set_option maxHeartbeats 8000000 in
set_option maxRecDepth 200000 in
theorem sp_sym (fuel : Nat) (ih : EvalS fuel) (left B : Nat) (k1 n1 : Int) (s1 : ByteArray) (xs1 : List Tm) (a1 : Option Addr) (l1 c1 : Nat) (F1 : List Nat) (k2 n2 : Int) (s2 : ByteArray) (xs2 : List Tm) (a2 : Option Addr) (l2 c2 : Nat) (F2 : List Nat) (w : World)
    (hlf : left ≤ fuel) (h1000 : left + 1 ≤ 1000) (hw : WalkAt w B (left + 1) 0) (h1 : RdS w xs1 a1 l1 c1 F1) (h2 : RdS w xs2 a2 l2 c2 F2) (hB1 : B ∉ F1) (hB2 : B ∉ F2) (hok1 : (Tm.mk k1 n1 s1 xs1).ok = true) (hok2 : (Tm.mk k2 n2 s2 xs2).ok = true) (hk : k1 = 2) :
    Calls Try.prog 89 #[.pointer (some ⟨B, 0, none⟩), .agg #[.int .i64 k1, .int .i64 n1, .string s1, .slice a1 l1 c1], .agg #[.int .i64 k2, .int .i64 n2, .string s2, .slice a2 l2 c2]] w
      (SpOut w B (F1 ++ F2) (evStep (ev fuel) left (.mk k1 n1 s1 xs1) (.mk k2 n2 s2 xs2))) := by
  have hres : evStep (ev fuel) left (.mk k1 n1 s1 xs1) (.mk k2 n2 s2 xs2) = evLook (lookV (.mk k1 n1 s1 xs1) (.mk k2 n2 s2 xs2)) left := by
    rw [evStep, if_pos (show (Tm.mk k1 n1 s1 xs1).kind = 2 from hk), lookV, if_pos ⟨hok1, hok2⟩]
  rw [hres]
  have hk' : (k1 == 2) = true := by simpa using hk
  have LK := Lib.hid (LookupLisp_spec k1 n1 s1 xs1 a1 l1 c1 F1 k2 n2 s2 xs2 a2 l2 c2 F2)
  have HLL := Lib.hid (And.intro (wf_lens (ok_wf hok1).1) (wf_lens (ok_wf hok2).1))
  have HCC : Hid ((Tm.mk k1 n1 s1 xs1).cnt ≤ 10000000000 ∧ (Tm.mk k2 n2 s2 xs2).cnt ≤ 10000000000) := ⟨by have := (ok_wf hok1).2; omega, by have := (ok_wf hok2).2; omega⟩
  generalize lookV (.mk k1 n1 s1 xs1) (.mk k2 n2 s2 xs2) = res at *
  clear hk hres
  obtain ⟨m0, m1, mf, hBl⟩ := walk_cells hw
  have hBw1 : B < w.heap.size + 1 := by omega
  have hBw2 : B < w.heap.size + 1 + 1 := by omega
  have hBw3 : B < w.heap.size + 1 + 1 + 1 := by omega
  obtain ⟨lf, hlfe⟩ : ∃ lf : Int, lf = ((left + 1 : Nat) : Int) := ⟨_, rfl⟩
  rw [← hlfe] at m0
  have hz0 : (lf == 0) = false := by simp; omega
  have hlf1 : 1 ≤ lf := by omega
  have hlf2 : lf ≤ 1000 := by omega
  have m1' : w.cell? ⟨B, 1, none⟩ = some (.int .i64 0) := m1
  have HW := Lib.hid hw; have HF1 := Lib.hid (RdS_lt h1); have HF2 := Lib.hid (RdS_lt h2); have IH := Lib.hid ih
  have HH1 := Lib.hid h1; have HH2 := Lib.hid h2; have HOK1 := Lib.hid hok1; have HOK2 := Lib.hid hok2; have HB1 := Lib.hid hB1; have HB2 := Lib.hid hB2; have HLF := Lib.hid hlfe
  clear hlfe hw m1 ih h1 h2 hok1 hok2 hB1 hB2
  go_enter Try.func89, Try.ntmps89
  go_wp2_with fail
  have hFs : Fs w ((((w.setCell ⟨B, 0, none⟩ (.int .i64 (lf - 1))).alloc (.cells #[.int .i64 k1, .int .i64 n1, .string s1, .slice a1 l1 c1] 26)).alloc (.cells #[.int .i64 k2, .int .i64 n2, .string s2, .slice a2 l2 c2] 26)).alloc (.cells #[.int .i64 0, .int .i64 0, .string ⟨#[]⟩, .slice none 0 0] 26)) B left 0 k1 n1 s1 a1 l1 c1 k2 n2 s2 a2 l2 c2 := by
    have hs : (w.setCell ⟨B, 0, none⟩ (.int .i64 (lf - 1))).heap.size = w.heap.size := by simp [World.setCell]
    refine ⟨?_, ?_, ?_, ?_, ?_, ?_⟩
    · rw [heap_old (by simp [World.setCell]; omega), heap_old (by simp [World.setCell])]; exact heap_new hs.symm
    · rw [heap_old (by simp [World.setCell])]; exact heap_new (by simp [World.setCell])
    · exact heap_new (by simp [World.setCell])
    · show _ = _
      rw [heap_old (by simp [World.setCell]; omega), heap_old (by simp [World.setCell]; omega), heap_old (by rw [hs]; exact hBl)]
      have h0 := heap_set (o := 0) (.int .i64 (lf - 1)) HW.out
      rw [h0, HLF.out]
      have he : ((left + 1 : Nat) : Int) - 1 = (left : Int) := by omega
      rw [he]; rfl
    · exact ⟨rfl, rfl, rfl, by simp [World.setCell]; omega, fun x hx hr => by
        rw [heap_old (by simp [World.setCell]; omega), heap_old (by simp [World.setCell]; omega), heap_old (by rw [hs]; exact hx)]
        exact heap_set_other _ (by simpa using hr)⟩
    · simp [World.setCell]
  generalize ((((w.setCell ⟨B, 0, none⟩ (.int .i64 (lf - 1))).alloc (.cells #[.int .i64 k1, .int .i64 n1, .string s1, .slice a1 l1 c1] 26)).alloc (.cells #[.int .i64 k2, .int .i64 n2, .string s2, .slice a2 l2 c2] 26)).alloc (.cells #[.int .i64 0, .int .i64 0, .string ⟨#[]⟩, .slice none 0 0] 26)) = V at *
  have hrdE : RdS V xs1 a1 l1 c1 F1 := RdS_grown HH1.out hFs.ext (fun x hx hh => HB1.out (hh ▸ hx))
  have hrdN : RdS V xs2 a2 l2 c2 F2 := RdS_grown HH2.out hFs.ext (fun x hx hh => HB2.out (hh ▸ hx))
  clear m0 m1' mf
  have hsV := hFs.sz
  refine (LK.out V hrdE hrdN HLL.out.1 HLL.out.2 HCC.out.1 HCC.out.2).mono ?_
  rintro e V1 ⟨k, n, s, xs, a, l, c, F, ht, rfl, hrd, hF, hb⟩
  replace hFs := hFs.below hBl hb
  have HT := Lib.hid ht
  have hGd : Gd w F1 F2 F := fun x hx => by
    rcases hF x hx with h' | h'
    · cases h'
    · exact .inr (.inr (by omega))
  clear ht hF hb hrdE hrdN
  obtain ⟨r0, r1, r2, r3, rf, rl⟩ := hFs.res
  cases res with
  | none =>
    go_wp2_with fail
    have hbV : Below V1.heap.size V1 (V1.alloc (.cells #[.int .i64 k, .int .i64 n, .string s, .slice a l c] 26)) := (Below.refl _ _).alloc (Nat.le_refl _) _
    replace hFs := hFs.below hBl hbV
    generalize V1.alloc (.cells #[.int .i64 k, .int .i64 n, .string s, .slice a l c] 26) = V2 at *
    refine (l40Stuck_any B left 0 V2 hFs.wk).mono ?_
    rintro e V3 ⟨k9, n9, s9, xs9, a9, l9, c9, F9, hr9, rfl, hrd9, hF9, hg9, hw9⟩
    have hs3 := hFs.sz
    replace hFs := hFs.grown hBl hg9 hw9
    have HR9 := Lib.hid hr9
    clear r0 r1 r2 r3 rf rl hr9
    obtain ⟨r0, r1, r2, r3, rf, rl⟩ := hFs.res
    go_wp2
    exact bodyPost_ret (v := .agg #[.int .i64 k9, .int .i64 n9, .string s9, .slice a9 l9 c9]) (results_term rfl _ _ (w.heap.size + 1 + 1) rfl (heap_set4 hFs.b6)) rfl (hFs.out (r := stuck left) hBl HF1.out HF2.out HR9.out rfl rfl hrd9 (fun x hx => .inr (.inr (by rcases hF9 x hx with h' | h'; cases h'; omega))))
  | some v =>
    go_wp2
    have hout := hFs.out (r := (v, 0, left)) hBl HF1.out HF2.out HT.out rfl rfl hrd hGd
    have hBV := heap_lt hFs.wk
    refine bodyPost_ret (v := .agg #[.int .i64 k, .int .i64 n, .string s, .slice a l c]) (results_term rfl _ _ (w.heap.size + 1 + 1) rfl ((heap_old (by rw [size_set4]; exact rl)).trans (heap_set4 hFs.b6))) rfl ?_
    obtain ⟨g1, g2, g3, g4, g5, g6, g7, g8, u1, u2, u3, u4, u5, u6⟩ := hout
    exact ⟨g1, g2, g3, g4, g5, g6, g7, g8, u1, u2, RdS_ext u3 ((Below.refl _ _).alloc (Nat.le_refl _) _), u4, grown_trans u5 (grown_below ((Below.refl _ _).alloc (Nat.le_refl _) _) _), (heap_old (by rw [size_set4]; exact hBV)).trans u6⟩
end Go.Proofs.Ytjkabbkaeioibaa
namespace Go.Proofs.Ytjkabbkaeioibaa
open Go.RowKit
set_option linter.unusedVariables false

set_option maxHeartbeats 8000000 in
set_option maxRecDepth 200000 in
theorem sp_quote (fuel : Nat) (ih : EvalS fuel) (left B : Nat) (k1 n1 : Int) (s1 : ByteArray) (xs1 : List Tm) (a1 : Option Addr) (l1 c1 : Nat) (F1 : List Nat) (k2 n2 : Int) (s2 : ByteArray) (xs2 : List Tm) (a2 : Option Addr) (l2 c2 : Nat) (F2 : List Nat) (w : World)
    (hlf : left ≤ fuel) (h1000 : left + 1 ≤ 1000) (hw : WalkAt w B (left + 1) 0) (h1 : RdS w xs1 a1 l1 c1 F1) (h2 : RdS w xs2 a2 l2 c2 F2) (hB1 : B ∉ F1) (hB2 : B ∉ F2) (hok1 : (Tm.mk k1 n1 s1 xs1).ok = true) (hok2 : (Tm.mk k2 n2 s2 xs2).ok = true) (hk : k1 ≠ 2) (htl : (Tm.mk k1 n1 s1 xs1).tl.kind = 0) (xk xn : Int) (xz : ByteArray) (xas : List Tm) (yk yn : Int) (yz : ByteArray) (yas : List Tm) (hits : (Tm.mk k1 n1 s1 xs1).its = [.mk xk xn xz xas, .mk yk yn yz yas]) (hq : isSym (.mk xk xn xz xas) ⟨#[113, 117, 111, 116, 101]⟩ = true) (hcl : (Tm.mk yk yn yz yas).hasSym ⟨#[99, 108, 111, 115, 117, 114, 101]⟩ = false) :
    Calls Try.prog 89 #[.pointer (some ⟨B, 0, none⟩), .agg #[.int .i64 k1, .int .i64 n1, .string s1, .slice a1 l1 c1], .agg #[.int .i64 k2, .int .i64 n2, .string s2, .slice a2 l2 c2]] w
      (SpOut w B (F1 ++ F2) (evStep (ev fuel) left (.mk k1 n1 s1 xs1) (.mk k2 n2 s2 xs2))) := by
  have hres : evStep (ev fuel) left (.mk k1 n1 s1 xs1) (.mk k2 n2 s2 xs2) = (.mk yk yn yz yas, 0, left) := by
    rw [evStep_list (show (Tm.mk k1 n1 s1 xs1).kind ≠ 2 from hk) htl]
    rw [hits, evForm, if_pos hq, if_neg (by simp [hcl])]
  rw [hres]
  have hk' : (k1 == 2) = false := by simpa using hk
  clear hres hk
  have HFq : Hid (formR (.mk k1 n1 s1 xs1) ⟨#[113, 117, 111, 116, 101]⟩ 1 = some [.mk yk yn yz yas]) := formR_hit hits rfl htl (.inr hq)
  have HOKY := Lib.hid (its_ok hok1 (.mk yk yn yz yas) (by rw [hits]; simp))
  have HCL := Lib.hid hcl
  clear htl hits hq hcl
  have HNquote : Hid (((⟨#[113, 117, 111, 116, 101]⟩ : ByteArray)).size = 0 ∨ (((⟨#[113, 117, 111, 116, 101]⟩ : ByteArray)).toList.isEmpty = false ∧ (Tm.sym ⟨#[113, 117, 111, 116, 101]⟩).wf = true)) := .inr (by decide +kernel)
  have HNlam : Hid (((⟨#[108, 97, 109, 98, 100, 97]⟩ : ByteArray)).size = 0 ∨ (((⟨#[108, 97, 109, 98, 100, 97]⟩ : ByteArray)).toList.isEmpty = false ∧ (Tm.sym ⟨#[108, 97, 109, 98, 100, 97]⟩).wf = true)) := .inr (by decide +kernel)
  have HNcons : Hid (((⟨#[99, 111, 110, 115]⟩ : ByteArray)).size = 0 ∨ (((⟨#[99, 111, 110, 115]⟩ : ByteArray)).toList.isEmpty = false ∧ (Tm.sym ⟨#[99, 111, 110, 115]⟩).wf = true)) := .inr (by decide +kernel)
  have HNcar : Hid (((⟨#[99, 97, 114]⟩ : ByteArray)).size = 0 ∨ (((⟨#[99, 97, 114]⟩ : ByteArray)).toList.isEmpty = false ∧ (Tm.sym ⟨#[99, 97, 114]⟩).wf = true)) := .inr (by decide +kernel)
  have HNcdr : Hid (((⟨#[99, 100, 114]⟩ : ByteArray)).size = 0 ∨ (((⟨#[99, 100, 114]⟩ : ByteArray)).toList.isEmpty = false ∧ (Tm.sym ⟨#[99, 100, 114]⟩).wf = true)) := .inr (by decide +kernel)
  have HNiff : Hid (((⟨#[105, 102]⟩ : ByteArray)).size = 0 ∨ (((⟨#[105, 102]⟩ : ByteArray)).toList.isEmpty = false ∧ (Tm.sym ⟨#[105, 102]⟩).wf = true)) := .inr (by decide +kernel)
  have HNempty : Hid (((⟨#[]⟩ : ByteArray)).size = 0 ∨ (((⟨#[]⟩ : ByteArray)).toList.isEmpty = false ∧ (Tm.sym ⟨#[]⟩).wf = true)) := .inl rfl
  obtain ⟨m0, m1, mf, hBl⟩ := walk_cells hw
  have hBw1 : B < w.heap.size + 1 := by omega
  have hBw2 : B < w.heap.size + 1 + 1 := by omega
  have hBw3 : B < w.heap.size + 1 + 1 + 1 := by omega
  obtain ⟨lf, hlfe⟩ : ∃ lf : Int, lf = ((left + 1 : Nat) : Int) := ⟨_, rfl⟩
  rw [← hlfe] at m0
  have hz0 : (lf == 0) = false := by simp; omega
  have hlf1 : 1 ≤ lf := by omega
  have hlf2 : lf ≤ 1000 := by omega
  have m1' : w.cell? ⟨B, 1, none⟩ = some (.int .i64 0) := m1
  have HW := Lib.hid hw; have HF1 := Lib.hid (RdS_lt h1); have HF2 := Lib.hid (RdS_lt h2); have IH := Lib.hid ih
  have HH1 := Lib.hid h1; have HH2 := Lib.hid h2; have HOK1 := Lib.hid hok1; have HOK2 := Lib.hid hok2; have HB1 := Lib.hid hB1; have HB2 := Lib.hid hB2; have HLF := Lib.hid hlfe
  clear hlfe hw m1 ih h1 h2 hok1 hok2 hB1 hB2
  go_enter Try.func89, Try.ntmps89
  go_wp2_with fail
  have hFs : Fs w ((((w.setCell ⟨B, 0, none⟩ (.int .i64 (lf - 1))).alloc (.cells #[.int .i64 k1, .int .i64 n1, .string s1, .slice a1 l1 c1] 26)).alloc (.cells #[.int .i64 k2, .int .i64 n2, .string s2, .slice a2 l2 c2] 26)).alloc (.cells #[.int .i64 0, .int .i64 0, .string ⟨#[]⟩, .slice none 0 0] 26)) B left 0 k1 n1 s1 a1 l1 c1 k2 n2 s2 a2 l2 c2 := by
    have hs : (w.setCell ⟨B, 0, none⟩ (.int .i64 (lf - 1))).heap.size = w.heap.size := by simp [World.setCell]
    refine ⟨?_, ?_, ?_, ?_, ?_, ?_⟩
    · rw [heap_old (by simp [World.setCell]; omega), heap_old (by simp [World.setCell])]; exact heap_new hs.symm
    · rw [heap_old (by simp [World.setCell])]; exact heap_new (by simp [World.setCell])
    · exact heap_new (by simp [World.setCell])
    · show _ = _
      rw [heap_old (by simp [World.setCell]; omega), heap_old (by simp [World.setCell]; omega), heap_old (by rw [hs]; exact hBl)]
      have h0 := heap_set (o := 0) (.int .i64 (lf - 1)) HW.out
      rw [h0, HLF.out]
      have he : ((left + 1 : Nat) : Int) - 1 = (left : Int) := by omega
      rw [he]; rfl
    · exact ⟨rfl, rfl, rfl, by simp [World.setCell]; omega, fun x hx hr => by
        rw [heap_old (by simp [World.setCell]; omega), heap_old (by simp [World.setCell]; omega), heap_old (by rw [hs]; exact hx)]
        exact heap_set_other _ (by simpa using hr)⟩
    · simp [World.setCell]
  generalize ((((w.setCell ⟨B, 0, none⟩ (.int .i64 (lf - 1))).alloc (.cells #[.int .i64 k1, .int .i64 n1, .string s1, .slice a1 l1 c1] 26)).alloc (.cells #[.int .i64 k2, .int .i64 n2, .string s2, .slice a2 l2 c2] 26)).alloc (.cells #[.int .i64 0, .int .i64 0, .string ⟨#[]⟩, .slice none 0 0] 26)) = V at *
  have hrdE : RdS V xs1 a1 l1 c1 F1 := RdS_grown HH1.out hFs.ext (fun x hx hh => HB1.out (hh ▸ hx))
  have hrdN : RdS V xs2 a2 l2 c2 F2 := RdS_grown HH2.out hFs.ext (fun x hx hh => HB2.out (hh ▸ hx))
  clear m0 m1' mf
  obtain ⟨p0, p1, p2, p3, pl⟩ := hFs.exp
  have hsVh := hFs.sz
  go_wp2_with fail
  refine (l40Form_any k1 n1 s1 xs1 a1 l1 c1 F1 ⟨#[113, 117, 111, 116, 101]⟩ 1 V hrdE HOK1.out (by omega) HNquote.out).mono ?_
  rintro e V1 ⟨hb, hor⟩
  rw [HFq.out] at hor
  obtain ⟨ia, il, ic, iF, rfl, hird, hiF⟩ : ∃ a l c F, e = .returned (.tuple #[.slice a l c, .bool true]) ∧ RdS V1 [.mk yk yn yz yas] a l c F ∧ ∀ x ∈ F, V.heap.size ≤ x := by
    rcases hor with ⟨h', _⟩ | ⟨rest, a', l', c', F', h', h2', h3', h4'⟩
    · cases h'
    · cases h'; exact ⟨a', l', c', F', h2', h3', h4'⟩
  have hGi : Gd w F1 F2 iF := fun x hx => .inr (.inr (by have := hiF x hx; omega))
  obtain rfl : il = 1 := hird.1
  obtain ⟨ib, io, rfl⟩ := RdS_addr hird (by simp)
  replace hFs := hFs.below hBl hb
  replace hrdE := RdS_ext hrdE hb
  replace hrdN := RdS_ext hrdN hb
  have hBi : B ∉ iF := hGi.ne HB1.out HB2.out hBl
  have hibm : ib ∈ iF := by
    obtain ⟨_, _, h3⟩ := hird
    rcases h3 with ⟨h4, _⟩ | ⟨_, b', o', F', ha, hF', _⟩
    · simp at h4
    · simp at ha; rw [hF', ha.1]; simp
  have hibB : ib ≠ B := fun hh => hBi (hh ▸ hibm)
  have hib6 : ib ≠ w.heap.size + 1 + 1 := hGi.ne6 HF1.out HF2.out ib hibm
  clear p0 p1 p2 p3 pl hb hor hiF hibm hsVh
  obtain ⟨ya, yl, yc, yF, ⟨y0, y1, y2, y3⟩, hry, hyF, hbly⟩ := RdS_el0 hird rfl
  go_wp2_with fail
  refine (ContainsSymbol_spec yk yn yz yas ya yl yc yF ⟨#[99, 108, 111, 115, 117, 114, 101]⟩ V1 hry HOKY.out).mono ?_
  rintro e V9 ⟨rfl, hb⟩
  rw [HCL.out]
  replace hFs := hFs.below hBl hb
  replace hird := RdS_ext hird hb
  clear y0 y1 y2 y3 hry hyF hbly
  clear hb
  obtain ⟨ya, yl, yc, yF, ⟨y0, y1, y2, y3⟩, hry, hyF, hbly⟩ := RdS_el0 hird rfl
  obtain ⟨r0, r1, r2, r3, rf, rl⟩ := hFs.res
  go_wp2
  exact bodyPost_ret (v := .agg #[.int .i64 yk, .int .i64 yn, .string yz, .slice ya yl yc]) (results_term rfl _ _ (w.heap.size + 1 + 1) rfl (heap_set4 hFs.b6)) rfl (hFs.out (r := (.mk yk yn yz yas, 0, left)) hBl HF1.out HF2.out rfl rfl rfl hry (hGi.sub hyF))
end Go.Proofs.Ytjkabbkaeioibaa
namespace Go.Proofs.Ytjkabbkaeioibaa
open Go.RowKit
set_option linter.unusedVariables false

set_option maxHeartbeats 8000000 in
set_option maxRecDepth 200000 in
theorem sp_lam_bad (fuel : Nat) (ih : EvalS fuel) (left B : Nat) (k1 n1 : Int) (s1 : ByteArray) (xs1 : List Tm) (a1 : Option Addr) (l1 c1 : Nat) (F1 : List Nat) (k2 n2 : Int) (s2 : ByteArray) (xs2 : List Tm) (a2 : Option Addr) (l2 c2 : Nat) (F2 : List Nat) (w : World)
    (hlf : left ≤ fuel) (h1000 : left + 1 ≤ 1000) (hw : WalkAt w B (left + 1) 0) (h1 : RdS w xs1 a1 l1 c1 F1) (h2 : RdS w xs2 a2 l2 c2 F2) (hB1 : B ∉ F1) (hB2 : B ∉ F2) (hok1 : (Tm.mk k1 n1 s1 xs1).ok = true) (hok2 : (Tm.mk k2 n2 s2 xs2).ok = true) (hk : k1 ≠ 2) (htl : (Tm.mk k1 n1 s1 xs1).tl.kind = 0) (xk xn : Int) (xz : ByteArray) (xas : List Tm) (yk yn : Int) (yz : ByteArray) (yas : List Tm) (zk zn : Int) (zz : ByteArray) (zas : List Tm) (hits : (Tm.mk k1 n1 s1 xs1).its = [.mk xk xn xz xas, .mk yk yn yz yas, .mk zk zn zz zas]) (hq : isSym (.mk xk xn xz xas) ⟨#[108, 97, 109, 98, 100, 97]⟩ = true) (hbad : (Tm.mk yk yn yz yas).tl.kind ≠ 0 ∨ (Tm.mk yk yn yz yas).its.length ≠ 1 ∨ ∃ z, (Tm.mk yk yn yz yas).its = [z] ∧ z.kind ≠ 2) :
    Calls Try.prog 89 #[.pointer (some ⟨B, 0, none⟩), .agg #[.int .i64 k1, .int .i64 n1, .string s1, .slice a1 l1 c1], .agg #[.int .i64 k2, .int .i64 n2, .string s2, .slice a2 l2 c2]] w
      (SpOut w B (F1 ++ F2) (evStep (ev fuel) left (.mk k1 n1 s1 xs1) (.mk k2 n2 s2 xs2))) := by
  have hres : evStep (ev fuel) left (.mk k1 n1 s1 xs1) (.mk k2 n2 s2 xs2) = stuck left := by
    rw [evStep_list (show (Tm.mk k1 n1 s1 xs1).kind ≠ 2 from hk) htl]
    rw [hits, evForm, if_pos hq]; exact evLam_bad hbad
  rw [hres]
  have hk' : (k1 == 2) = false := by simpa using hk
  clear hres hk
  have HFl : Hid (formR (.mk k1 n1 s1 xs1) ⟨#[108, 97, 109, 98, 100, 97]⟩ 2 = some [.mk yk yn yz yas, .mk zk zn zz zas]) := formR_hit hits rfl htl (.inr hq)
  have HFquote : Hid (formR (.mk k1 n1 s1 xs1) ⟨#[113, 117, 111, 116, 101]⟩ 1 = none) := formR_len (by rw [hits]; simp)
  have HOKY := Lib.hid (its_ok hok1 (.mk yk yn yz yas) (by rw [hits]; simp))
  have HBAD := Lib.hid hbad
  clear htl hits hq hbad
  have HNquote : Hid (((⟨#[113, 117, 111, 116, 101]⟩ : ByteArray)).size = 0 ∨ (((⟨#[113, 117, 111, 116, 101]⟩ : ByteArray)).toList.isEmpty = false ∧ (Tm.sym ⟨#[113, 117, 111, 116, 101]⟩).wf = true)) := .inr (by decide +kernel)
  have HNlam : Hid (((⟨#[108, 97, 109, 98, 100, 97]⟩ : ByteArray)).size = 0 ∨ (((⟨#[108, 97, 109, 98, 100, 97]⟩ : ByteArray)).toList.isEmpty = false ∧ (Tm.sym ⟨#[108, 97, 109, 98, 100, 97]⟩).wf = true)) := .inr (by decide +kernel)
  have HNcons : Hid (((⟨#[99, 111, 110, 115]⟩ : ByteArray)).size = 0 ∨ (((⟨#[99, 111, 110, 115]⟩ : ByteArray)).toList.isEmpty = false ∧ (Tm.sym ⟨#[99, 111, 110, 115]⟩).wf = true)) := .inr (by decide +kernel)
  have HNcar : Hid (((⟨#[99, 97, 114]⟩ : ByteArray)).size = 0 ∨ (((⟨#[99, 97, 114]⟩ : ByteArray)).toList.isEmpty = false ∧ (Tm.sym ⟨#[99, 97, 114]⟩).wf = true)) := .inr (by decide +kernel)
  have HNcdr : Hid (((⟨#[99, 100, 114]⟩ : ByteArray)).size = 0 ∨ (((⟨#[99, 100, 114]⟩ : ByteArray)).toList.isEmpty = false ∧ (Tm.sym ⟨#[99, 100, 114]⟩).wf = true)) := .inr (by decide +kernel)
  have HNiff : Hid (((⟨#[105, 102]⟩ : ByteArray)).size = 0 ∨ (((⟨#[105, 102]⟩ : ByteArray)).toList.isEmpty = false ∧ (Tm.sym ⟨#[105, 102]⟩).wf = true)) := .inr (by decide +kernel)
  have HNempty : Hid (((⟨#[]⟩ : ByteArray)).size = 0 ∨ (((⟨#[]⟩ : ByteArray)).toList.isEmpty = false ∧ (Tm.sym ⟨#[]⟩).wf = true)) := .inl rfl
  obtain ⟨m0, m1, mf, hBl⟩ := walk_cells hw
  have hBw1 : B < w.heap.size + 1 := by omega
  have hBw2 : B < w.heap.size + 1 + 1 := by omega
  have hBw3 : B < w.heap.size + 1 + 1 + 1 := by omega
  obtain ⟨lf, hlfe⟩ : ∃ lf : Int, lf = ((left + 1 : Nat) : Int) := ⟨_, rfl⟩
  rw [← hlfe] at m0
  have hz0 : (lf == 0) = false := by simp; omega
  have hlf1 : 1 ≤ lf := by omega
  have hlf2 : lf ≤ 1000 := by omega
  have m1' : w.cell? ⟨B, 1, none⟩ = some (.int .i64 0) := m1
  have HW := Lib.hid hw; have HF1 := Lib.hid (RdS_lt h1); have HF2 := Lib.hid (RdS_lt h2); have IH := Lib.hid ih
  have HH1 := Lib.hid h1; have HH2 := Lib.hid h2; have HOK1 := Lib.hid hok1; have HOK2 := Lib.hid hok2; have HB1 := Lib.hid hB1; have HB2 := Lib.hid hB2; have HLF := Lib.hid hlfe
  clear hlfe hw m1 ih h1 h2 hok1 hok2 hB1 hB2
  go_enter Try.func89, Try.ntmps89
  go_wp2_with fail
  have hFs : Fs w ((((w.setCell ⟨B, 0, none⟩ (.int .i64 (lf - 1))).alloc (.cells #[.int .i64 k1, .int .i64 n1, .string s1, .slice a1 l1 c1] 26)).alloc (.cells #[.int .i64 k2, .int .i64 n2, .string s2, .slice a2 l2 c2] 26)).alloc (.cells #[.int .i64 0, .int .i64 0, .string ⟨#[]⟩, .slice none 0 0] 26)) B left 0 k1 n1 s1 a1 l1 c1 k2 n2 s2 a2 l2 c2 := by
    have hs : (w.setCell ⟨B, 0, none⟩ (.int .i64 (lf - 1))).heap.size = w.heap.size := by simp [World.setCell]
    refine ⟨?_, ?_, ?_, ?_, ?_, ?_⟩
    · rw [heap_old (by simp [World.setCell]; omega), heap_old (by simp [World.setCell])]; exact heap_new hs.symm
    · rw [heap_old (by simp [World.setCell])]; exact heap_new (by simp [World.setCell])
    · exact heap_new (by simp [World.setCell])
    · show _ = _
      rw [heap_old (by simp [World.setCell]; omega), heap_old (by simp [World.setCell]; omega), heap_old (by rw [hs]; exact hBl)]
      have h0 := heap_set (o := 0) (.int .i64 (lf - 1)) HW.out
      rw [h0, HLF.out]
      have he : ((left + 1 : Nat) : Int) - 1 = (left : Int) := by omega
      rw [he]; rfl
    · exact ⟨rfl, rfl, rfl, by simp [World.setCell]; omega, fun x hx hr => by
        rw [heap_old (by simp [World.setCell]; omega), heap_old (by simp [World.setCell]; omega), heap_old (by rw [hs]; exact hx)]
        exact heap_set_other _ (by simpa using hr)⟩
    · simp [World.setCell]
  generalize ((((w.setCell ⟨B, 0, none⟩ (.int .i64 (lf - 1))).alloc (.cells #[.int .i64 k1, .int .i64 n1, .string s1, .slice a1 l1 c1] 26)).alloc (.cells #[.int .i64 k2, .int .i64 n2, .string s2, .slice a2 l2 c2] 26)).alloc (.cells #[.int .i64 0, .int .i64 0, .string ⟨#[]⟩, .slice none 0 0] 26)) = V at *
  have hrdE : RdS V xs1 a1 l1 c1 F1 := RdS_grown HH1.out hFs.ext (fun x hx hh => HB1.out (hh ▸ hx))
  have hrdN : RdS V xs2 a2 l2 c2 F2 := RdS_grown HH2.out hFs.ext (fun x hx hh => HB2.out (hh ▸ hx))
  clear m0 m1' mf
  obtain ⟨p0, p1, p2, p3, pl⟩ := hFs.exp
  go_wp2_with fail
  refine (l40Form_any k1 n1 s1 xs1 a1 l1 c1 F1 ⟨#[113, 117, 111, 116, 101]⟩ 1 V hrdE HOK1.out (by omega) HNquote.out).mono ?_
  rintro e V1 ⟨hb, hor⟩
  rw [HFquote.out] at hor
  obtain rfl : e = .returned (.tuple #[.slice none 0 0, .bool false]) := by
    rcases hor with ⟨_, h'⟩ | ⟨_, _, _, _, _, h', _⟩
    · exact h'
    · cases h'
  replace hFs := hFs.below hBl hb
  replace hrdE := RdS_ext hrdE hb
  replace hrdN := RdS_ext hrdN hb
  have hbQ := hb
  clear p0 p1 p2 p3 pl hb hor
  obtain ⟨p0, p1, p2, p3, pl⟩ := hFs.exp
  have hsVh := hFs.sz
  go_wp2_with fail
  refine (l40Form_any k1 n1 s1 xs1 a1 l1 c1 F1 ⟨#[108, 97, 109, 98, 100, 97]⟩ 2 V1 hrdE HOK1.out (by omega) HNlam.out).mono ?_
  rintro e V2 ⟨hb, hor⟩
  rw [HFl.out] at hor
  obtain ⟨ia, il, ic, iF, rfl, hird, hiF⟩ : ∃ a l c F, e = .returned (.tuple #[.slice a l c, .bool true]) ∧ RdS V2 [.mk yk yn yz yas, .mk zk zn zz zas] a l c F ∧ ∀ x ∈ F, V1.heap.size ≤ x := by
    rcases hor with ⟨h', _⟩ | ⟨rest, a', l', c', F', h', h2', h3', h4'⟩
    · cases h'
    · cases h'; exact ⟨a', l', c', F', h2', h3', h4'⟩
  have hGi : Gd w F1 F2 iF := fun x hx => .inr (.inr (by have := hiF x hx; omega))
  obtain rfl : il = 2 := hird.1
  obtain ⟨ib, io, rfl⟩ := RdS_addr hird (by simp)
  replace hFs := hFs.below hBl hb
  replace hrdE := RdS_ext hrdE hb
  replace hrdN := RdS_ext hrdN hb
  have hBi : B ∉ iF := hGi.ne HB1.out HB2.out hBl
  have hibm : ib ∈ iF := by
    obtain ⟨_, _, h3⟩ := hird
    rcases h3 with ⟨h4, _⟩ | ⟨_, b', o', F', ha, hF', _⟩
    · simp at h4
    · simp at ha; rw [hF', ha.1]; simp
  have hibB : ib ≠ B := fun hh => hBi (hh ▸ hibm)
  have hib6 : ib ≠ w.heap.size + 1 + 1 := hGi.ne6 HF1.out HF2.out ib hibm
  clear p0 p1 p2 p3 pl hb hor hiF hibm hsVh
  obtain ⟨ya, yl, yc, yF, ⟨y0, y1, y2, y3⟩, hry, hyF, hbly⟩ := RdS_el0 hird rfl
  go_wp2_with fail
  refine (l40Form_any yk yn yz yas ya yl yc yF ⟨#[]⟩ 0 V2 hry HOKY.out (by omega) HNempty.out).mono ?_
  rintro e V9 ⟨hb, hor⟩
  replace hFs := hFs.below hBl hb
  replace hird := RdS_ext hird hb
  clear y0 y1 y2 y3 hry hyF hbly
  clear hb
  have hor2 : (e = .returned (.tuple #[.slice none 0 0, .bool false])) ∨ ∃ a' c', e = .returned (.tuple #[.slice a' 0 c', .bool true]) := by
    rcases hor with ⟨_, h'⟩ | ⟨rest, a', l', c', F', h', rfl, h3', _⟩
    · exact .inl h'
    · right
      have hl0 : rest.length = 0 := by
        unfold formR at h'; split at h'
        · cases h'
        · split at h'
          · rename_i hcc; cases h'; exact hcc.1
          · cases h'
      have := h3'.1
      obtain rfl : l' = 0 := by omega
      exact ⟨a', c', rfl⟩
  have HOR := Lib.hid hor
  clear hor
  rcases hor2 with rfl | ⟨a', c', rfl⟩
  · skip
    obtain ⟨ya, yl, yc, yF, ⟨y0, y1, y2, y3⟩, hry, hyF, hbly⟩ := RdS_el0 hird rfl
    go_wp2_with fail
    refine (ItemsOf_spec yk yn yz yas ya yl yc yF V9 hry (wf_lens (ok_wf HOKY.out).1) (by have := (ok_wf HOKY.out).2; omega)).mono ?_
    rintro e V10 ⟨ja, jl, jc, jF, tk, tn, tz, txs, ta, tll, tc, tF, htl, rfl, hjrd, htrd, hnew, hb⟩
    replace hFs := hFs.below hBl hb
    clear y0 y1 y2 y3 hry hyF hbly
    clear htl htrd hnew hb
    clear hjrd
    go_wp2_with fail
    have hbT : Below V10.heap.size V10 (V10.alloc (.cells #[.int .i64 tk, .int .i64 tn, .string tz, .slice ta tll tc] 26)) := (Below.refl _ _).alloc (Nat.le_refl _) _
    replace hFs := hFs.below hBl hbT
    generalize V10.alloc (.cells #[.int .i64 tk, .int .i64 tn, .string tz, .slice ta tll tc] 26) = V11 at *
    refine (l40Stuck_any B left 0 V11 hFs.wk).mono ?_
    rintro e V12 ⟨k9, n9, s9, xs9, a9, l9, c9, F9, hr9, rfl, hrd9, hF9, hg9, hw9⟩
    have hs3 := hFs.sz
    replace hFs := hFs.grown hBl hg9 hw9
    have HR9 := Lib.hid hr9
    clear hr9
    obtain ⟨r0, r1, r2, r3, rf, rl⟩ := hFs.res
    go_wp2
    exact bodyPost_ret (v := .agg #[.int .i64 k9, .int .i64 n9, .string s9, .slice a9 l9 c9]) (results_term rfl _ _ (w.heap.size + 1 + 1) rfl (heap_set4 hFs.b6)) rfl (hFs.out (r := stuck left) hBl HF1.out HF2.out HR9.out rfl rfl hrd9 (fun x hx => .inr (.inr (by rcases hF9 x hx with h' | h'; cases h'; omega))))
  · have hyi : ∃ g, (Tm.mk yk yn yz yas).its = [g] ∧ g.kind ≠ 2 := by
      rcases HOR.out with ⟨_, h'⟩ | ⟨rest, a', l', c', F', h', _, _, _⟩
      · cases h'
      · unfold formR at h'; split at h'
        · cases h'
        · rename_i x0 rest0 hx0
          split at h'
          · rename_i hcc
            rcases HBAD.out with hb' | hb' | hb'
            · exact absurd hcc.2.1 hb'
            · exact absurd (by rw [hx0, List.length_cons, hcc.1]) hb'
            · exact hb'
          · cases h'
    obtain ⟨⟨gk, gn, gz, gas⟩, hyi, hgk⟩ := hyi
    have hgd : (gk != 2) = true := by simpa [Tm.kind] using hgk
    have HYI := Lib.hid hyi
    clear hyi hgk
    obtain ⟨ya, yl, yc, yF, ⟨y0, y1, y2, y3⟩, hry, hyF, hbly⟩ := RdS_el0 hird rfl
    go_wp2_with fail
    refine (ItemsOf_spec yk yn yz yas ya yl yc yF V9 hry (wf_lens (ok_wf HOKY.out).1) (by have := (ok_wf HOKY.out).2; omega)).mono ?_
    rintro e V10 ⟨ja, jl, jc, jF, tk, tn, tz, txs, ta, tll, tc, tF, htl, rfl, hjrd, htrd, hnew, hb⟩
    replace hFs := hFs.below hBl hb
    clear y0 y1 y2 y3 hry hyF hbly
    clear htl htrd hnew hb
    rw [Tm.itsR, if_pos HOKY.out, HYI.out] at hjrd
    obtain rfl : jl = 1 := hjrd.1
    obtain ⟨jb, jo, rfl⟩ := RdS_addr hjrd (by simp)
    obtain ⟨ga, gl, gc, gF, ⟨g0, g1, g2, g3⟩, hrg, hgF, hblg⟩ := RdS_el0 hjrd rfl
    go_wp2_with fail
    clear g0 g1 g2 g3 hrg hgF hblg hjrd
    have hbT : Below V10.heap.size V10 (V10.alloc (.cells #[.int .i64 tk, .int .i64 tn, .string tz, .slice ta tll tc] 26)) := (Below.refl _ _).alloc (Nat.le_refl _) _
    replace hFs := hFs.below hBl hbT
    generalize V10.alloc (.cells #[.int .i64 tk, .int .i64 tn, .string tz, .slice ta tll tc] 26) = V11 at *
    refine (l40Stuck_any B left 0 V11 hFs.wk).mono ?_
    rintro e V12 ⟨k9, n9, s9, xs9, a9, l9, c9, F9, hr9, rfl, hrd9, hF9, hg9, hw9⟩
    have hs3 := hFs.sz
    replace hFs := hFs.grown hBl hg9 hw9
    have HR9 := Lib.hid hr9
    clear hr9
    obtain ⟨r0, r1, r2, r3, rf, rl⟩ := hFs.res
    go_wp2
    exact bodyPost_ret (v := .agg #[.int .i64 k9, .int .i64 n9, .string s9, .slice a9 l9 c9]) (results_term rfl _ _ (w.heap.size + 1 + 1) rfl (heap_set4 hFs.b6)) rfl (hFs.out (r := stuck left) hBl HF1.out HF2.out HR9.out rfl rfl hrd9 (fun x hx => .inr (.inr (by rcases hF9 x hx with h' | h'; cases h'; omega))))
end Go.Proofs.Ytjkabbkaeioibaa
namespace Go.Proofs.Ytjkabbkaeioibaa
open Go.RowKit
set_option linter.unusedVariables false
theorem clo_cnt {x body env : Tm} (hx : x.ok = true) (hb : body.ok = true) (he : env.ok = true) : (cloT x body env).cnt ≤ 10000000000 := by
  have h1 := (ok_wf hx).2; have h2 := (ok_wf hb).2; have h3 := (ok_wf he).2
  simp only [cloT, Tm.list, List.foldr, Tm.pair, cnt_pair]
  simp only [Tm.sym, Tm.nil, Tm.cnt, cntL]; omega

set_option maxHeartbeats 8000000 in
set_option maxRecDepth 200000 in
theorem sp_lam_good (fuel : Nat) (ih : EvalS fuel) (left B : Nat) (k1 n1 : Int) (s1 : ByteArray) (xs1 : List Tm) (a1 : Option Addr) (l1 c1 : Nat) (F1 : List Nat) (k2 n2 : Int) (s2 : ByteArray) (xs2 : List Tm) (a2 : Option Addr) (l2 c2 : Nat) (F2 : List Nat) (w : World)
    (hlf : left ≤ fuel) (h1000 : left + 1 ≤ 1000) (hw : WalkAt w B (left + 1) 0) (h1 : RdS w xs1 a1 l1 c1 F1) (h2 : RdS w xs2 a2 l2 c2 F2) (hB1 : B ∉ F1) (hB2 : B ∉ F2) (hok1 : (Tm.mk k1 n1 s1 xs1).ok = true) (hok2 : (Tm.mk k2 n2 s2 xs2).ok = true) (hk : k1 ≠ 2) (htl : (Tm.mk k1 n1 s1 xs1).tl.kind = 0) (xk xn : Int) (xz : ByteArray) (xas : List Tm) (yk yn : Int) (yz : ByteArray) (yas : List Tm) (zk zn : Int) (zz : ByteArray) (zas : List Tm) (hits : (Tm.mk k1 n1 s1 xs1).its = [.mk xk xn xz xas, .mk yk yn yz yas, .mk zk zn zz zas]) (hq : isSym (.mk xk xn xz xas) ⟨#[108, 97, 109, 98, 100, 97]⟩ = true) (gk gn : Int) (gz : ByteArray) (gas : List Tm) (hyi : (Tm.mk yk yn yz yas).its = [.mk gk gn gz gas]) (hyt : (Tm.mk yk yn yz yas).tl.kind = 0) (hgk : gk = 2) :
    Calls Try.prog 89 #[.pointer (some ⟨B, 0, none⟩), .agg #[.int .i64 k1, .int .i64 n1, .string s1, .slice a1 l1 c1], .agg #[.int .i64 k2, .int .i64 n2, .string s2, .slice a2 l2 c2]] w
      (SpOut w B (F1 ++ F2) (evStep (ev fuel) left (.mk k1 n1 s1 xs1) (.mk k2 n2 s2 xs2))) := by
  have hres : evStep (ev fuel) left (.mk k1 n1 s1 xs1) (.mk k2 n2 s2 xs2) = keepV (cloT (.mk gk gn gz gas) (.mk zk zn zz zas) (Tm.mk k2 n2 s2 xs2)) left := by
    rw [evStep_list (show (Tm.mk k1 n1 s1 xs1).kind ≠ 2 from hk) htl]
    rw [hits, evForm, if_pos hq, evLam, hyi]
    exact if_pos ⟨hyt, hgk⟩
  rw [hres]
  have hk' : (k1 == 2) = false := by simpa using hk
  clear hres hk
  have HFl : Hid (formR (.mk k1 n1 s1 xs1) ⟨#[108, 97, 109, 98, 100, 97]⟩ 2 = some [.mk yk yn yz yas, .mk zk zn zz zas]) := formR_hit hits rfl htl (.inr hq)
  have HFquote : Hid (formR (.mk k1 n1 s1 xs1) ⟨#[113, 117, 111, 116, 101]⟩ 1 = none) := formR_len (by rw [hits]; simp)
  have HFy : Hid (formR (.mk yk yn yz yas) ⟨#[]⟩ 0 = some []) := formR_hit hyi rfl hyt (.inl rfl)
  have HOKY := Lib.hid (its_ok hok1 (.mk yk yn yz yas) (by rw [hits]; simp))
  have HOKZ := Lib.hid (its_ok hok1 (.mk zk zn zz zas) (by rw [hits]; simp))
  have HOKG := Lib.hid (its_ok HOKY.out (.mk gk gn gz gas) (by rw [hyi]; simp))
  have hgd : (gk != 2) = false := by simpa using hgk
  have HYI := Lib.hid hyi
  obtain ⟨ct, hct⟩ : ∃ t : Tm, t = cloT (.mk gk gn gz gas) (.mk zk zn zz zas) (Tm.mk k2 n2 s2 xs2) := ⟨_, rfl⟩
  rw [← hct]
  have HWC : Hid (ct.wf = true ∧ ct.cnt ≤ 10000000000) := by show _ ∧ _; rw [hct]; exact ⟨clo_wf (ok_wf HOKG.out).1 (ok_wf HOKZ.out).1 (ok_wf hok2).1, clo_cnt HOKG.out HOKZ.out hok2⟩
  have HCT := Lib.hid hct
  clear htl hits hq hyi hyt hgk hct
  have HNquote : Hid (((⟨#[113, 117, 111, 116, 101]⟩ : ByteArray)).size = 0 ∨ (((⟨#[113, 117, 111, 116, 101]⟩ : ByteArray)).toList.isEmpty = false ∧ (Tm.sym ⟨#[113, 117, 111, 116, 101]⟩).wf = true)) := .inr (by decide +kernel)
  have HNlam : Hid (((⟨#[108, 97, 109, 98, 100, 97]⟩ : ByteArray)).size = 0 ∨ (((⟨#[108, 97, 109, 98, 100, 97]⟩ : ByteArray)).toList.isEmpty = false ∧ (Tm.sym ⟨#[108, 97, 109, 98, 100, 97]⟩).wf = true)) := .inr (by decide +kernel)
  have HNcons : Hid (((⟨#[99, 111, 110, 115]⟩ : ByteArray)).size = 0 ∨ (((⟨#[99, 111, 110, 115]⟩ : ByteArray)).toList.isEmpty = false ∧ (Tm.sym ⟨#[99, 111, 110, 115]⟩).wf = true)) := .inr (by decide +kernel)
  have HNcar : Hid (((⟨#[99, 97, 114]⟩ : ByteArray)).size = 0 ∨ (((⟨#[99, 97, 114]⟩ : ByteArray)).toList.isEmpty = false ∧ (Tm.sym ⟨#[99, 97, 114]⟩).wf = true)) := .inr (by decide +kernel)
  have HNcdr : Hid (((⟨#[99, 100, 114]⟩ : ByteArray)).size = 0 ∨ (((⟨#[99, 100, 114]⟩ : ByteArray)).toList.isEmpty = false ∧ (Tm.sym ⟨#[99, 100, 114]⟩).wf = true)) := .inr (by decide +kernel)
  have HNiff : Hid (((⟨#[105, 102]⟩ : ByteArray)).size = 0 ∨ (((⟨#[105, 102]⟩ : ByteArray)).toList.isEmpty = false ∧ (Tm.sym ⟨#[105, 102]⟩).wf = true)) := .inr (by decide +kernel)
  have HNempty : Hid (((⟨#[]⟩ : ByteArray)).size = 0 ∨ (((⟨#[]⟩ : ByteArray)).toList.isEmpty = false ∧ (Tm.sym ⟨#[]⟩).wf = true)) := .inl rfl
  obtain ⟨m0, m1, mf, hBl⟩ := walk_cells hw
  have hBw1 : B < w.heap.size + 1 := by omega
  have hBw2 : B < w.heap.size + 1 + 1 := by omega
  have hBw3 : B < w.heap.size + 1 + 1 + 1 := by omega
  obtain ⟨lf, hlfe⟩ : ∃ lf : Int, lf = ((left + 1 : Nat) : Int) := ⟨_, rfl⟩
  rw [← hlfe] at m0
  have hz0 : (lf == 0) = false := by simp; omega
  have hlf1 : 1 ≤ lf := by omega
  have hlf2 : lf ≤ 1000 := by omega
  have m1' : w.cell? ⟨B, 1, none⟩ = some (.int .i64 0) := m1
  have HW := Lib.hid hw; have HF1 := Lib.hid (RdS_lt h1); have HF2 := Lib.hid (RdS_lt h2); have IH := Lib.hid ih
  have HH1 := Lib.hid h1; have HH2 := Lib.hid h2; have HOK1 := Lib.hid hok1; have HOK2 := Lib.hid hok2; have HB1 := Lib.hid hB1; have HB2 := Lib.hid hB2; have HLF := Lib.hid hlfe
  clear hlfe hw m1 ih h1 h2 hok1 hok2 hB1 hB2
  go_enter Try.func89, Try.ntmps89
  go_wp2_with fail
  have hFs : Fs w ((((w.setCell ⟨B, 0, none⟩ (.int .i64 (lf - 1))).alloc (.cells #[.int .i64 k1, .int .i64 n1, .string s1, .slice a1 l1 c1] 26)).alloc (.cells #[.int .i64 k2, .int .i64 n2, .string s2, .slice a2 l2 c2] 26)).alloc (.cells #[.int .i64 0, .int .i64 0, .string ⟨#[]⟩, .slice none 0 0] 26)) B left 0 k1 n1 s1 a1 l1 c1 k2 n2 s2 a2 l2 c2 := by
    have hs : (w.setCell ⟨B, 0, none⟩ (.int .i64 (lf - 1))).heap.size = w.heap.size := by simp [World.setCell]
    refine ⟨?_, ?_, ?_, ?_, ?_, ?_⟩
    · rw [heap_old (by simp [World.setCell]; omega), heap_old (by simp [World.setCell])]; exact heap_new hs.symm
    · rw [heap_old (by simp [World.setCell])]; exact heap_new (by simp [World.setCell])
    · exact heap_new (by simp [World.setCell])
    · show _ = _
      rw [heap_old (by simp [World.setCell]; omega), heap_old (by simp [World.setCell]; omega), heap_old (by rw [hs]; exact hBl)]
      have h0 := heap_set (o := 0) (.int .i64 (lf - 1)) HW.out
      rw [h0, HLF.out]
      have he : ((left + 1 : Nat) : Int) - 1 = (left : Int) := by omega
      rw [he]; rfl
    · exact ⟨rfl, rfl, rfl, by simp [World.setCell]; omega, fun x hx hr => by
        rw [heap_old (by simp [World.setCell]; omega), heap_old (by simp [World.setCell]; omega), heap_old (by rw [hs]; exact hx)]
        exact heap_set_other _ (by simpa using hr)⟩
    · simp [World.setCell]
  generalize ((((w.setCell ⟨B, 0, none⟩ (.int .i64 (lf - 1))).alloc (.cells #[.int .i64 k1, .int .i64 n1, .string s1, .slice a1 l1 c1] 26)).alloc (.cells #[.int .i64 k2, .int .i64 n2, .string s2, .slice a2 l2 c2] 26)).alloc (.cells #[.int .i64 0, .int .i64 0, .string ⟨#[]⟩, .slice none 0 0] 26)) = V at *
  have hrdE : RdS V xs1 a1 l1 c1 F1 := RdS_grown HH1.out hFs.ext (fun x hx hh => HB1.out (hh ▸ hx))
  have hrdN : RdS V xs2 a2 l2 c2 F2 := RdS_grown HH2.out hFs.ext (fun x hx hh => HB2.out (hh ▸ hx))
  clear m0 m1' mf
  obtain ⟨p0, p1, p2, p3, pl⟩ := hFs.exp
  go_wp2_with fail
  refine (l40Form_any k1 n1 s1 xs1 a1 l1 c1 F1 ⟨#[113, 117, 111, 116, 101]⟩ 1 V hrdE HOK1.out (by omega) HNquote.out).mono ?_
  rintro e V1 ⟨hb, hor⟩
  rw [HFquote.out] at hor
  obtain rfl : e = .returned (.tuple #[.slice none 0 0, .bool false]) := by
    rcases hor with ⟨_, h'⟩ | ⟨_, _, _, _, _, h', _⟩
    · exact h'
    · cases h'
  replace hFs := hFs.below hBl hb
  replace hrdE := RdS_ext hrdE hb
  replace hrdN := RdS_ext hrdN hb
  have hbQ := hb
  clear p0 p1 p2 p3 pl hb hor
  obtain ⟨p0, p1, p2, p3, pl⟩ := hFs.exp
  have hsVh := hFs.sz
  go_wp2_with fail
  refine (l40Form_any k1 n1 s1 xs1 a1 l1 c1 F1 ⟨#[108, 97, 109, 98, 100, 97]⟩ 2 V1 hrdE HOK1.out (by omega) HNlam.out).mono ?_
  rintro e V2 ⟨hb, hor⟩
  rw [HFl.out] at hor
  obtain ⟨ia, il, ic, iF, rfl, hird, hiF⟩ : ∃ a l c F, e = .returned (.tuple #[.slice a l c, .bool true]) ∧ RdS V2 [.mk yk yn yz yas, .mk zk zn zz zas] a l c F ∧ ∀ x ∈ F, V1.heap.size ≤ x := by
    rcases hor with ⟨h', _⟩ | ⟨rest, a', l', c', F', h', h2', h3', h4'⟩
    · cases h'
    · cases h'; exact ⟨a', l', c', F', h2', h3', h4'⟩
  have hGi : Gd w F1 F2 iF := fun x hx => .inr (.inr (by have := hiF x hx; omega))
  obtain rfl : il = 2 := hird.1
  obtain ⟨ib, io, rfl⟩ := RdS_addr hird (by simp)
  replace hFs := hFs.below hBl hb
  replace hrdE := RdS_ext hrdE hb
  replace hrdN := RdS_ext hrdN hb
  have hBi : B ∉ iF := hGi.ne HB1.out HB2.out hBl
  have hibm : ib ∈ iF := by
    obtain ⟨_, _, h3⟩ := hird
    rcases h3 with ⟨h4, _⟩ | ⟨_, b', o', F', ha, hF', _⟩
    · simp at h4
    · simp at ha; rw [hF', ha.1]; simp
  have hibB : ib ≠ B := fun hh => hBi (hh ▸ hibm)
  have hib6 : ib ≠ w.heap.size + 1 + 1 := hGi.ne6 HF1.out HF2.out ib hibm
  clear p0 p1 p2 p3 pl hb hor hiF hibm hsVh
  obtain ⟨ya, yl, yc, yF, ⟨y0, y1, y2, y3⟩, hry, hyF, hbly⟩ := RdS_el0 hird rfl
  go_wp2_with fail
  refine (l40Form_any yk yn yz yas ya yl yc yF ⟨#[]⟩ 0 V2 hry HOKY.out (by omega) HNempty.out).mono ?_
  rintro e V9 ⟨hb, hor⟩
  rw [HFy.out] at hor
  replace hFs := hFs.below hBl hb
  replace hird := RdS_ext hird hb
  replace hrdN := RdS_ext hrdN hb
  obtain ⟨a', c', rfl⟩ : ∃ a' c', e = .returned (.tuple #[.slice a' 0 c', .bool true]) := by
    rcases hor with ⟨h', _⟩ | ⟨rest, a', l', c', F', h', rfl, h3', _⟩
    · cases h'
    · cases h'
      obtain rfl : l' = 0 := h3'.1
      exact ⟨a', c', rfl⟩
  clear hor hb
  clear y0 y1 y2 y3 hry hyF hbly
  obtain ⟨ya, yl, yc, yF, ⟨y0, y1, y2, y3⟩, hry, hyF, hbly⟩ := RdS_el0 hird rfl
  have hsV9 := hFs.sz
  go_wp2_with fail
  refine (ItemsOf_spec yk yn yz yas ya yl yc yF V9 hry (wf_lens (ok_wf HOKY.out).1) (by have := (ok_wf HOKY.out).2; omega)).mono ?_
  rintro e V10 ⟨ja, jl, jc, jF, tk, tn, tz, txs, ta, tll, tc, tF, htl, rfl, hjrd, htrd, hnew, hb⟩
  replace hFs := hFs.below hBl hb
  replace hird := RdS_ext hird hb
  replace hrdN := RdS_ext hrdN hb
  have hGj : Gd w F1 F2 jF := fun x hx => .inr (.inr (by have := hnew x (List.mem_append.2 (.inl hx)); omega))
  rw [Tm.itsR, if_pos HOKY.out, HYI.out] at hjrd
  obtain rfl : jl = 1 := hjrd.1
  obtain ⟨jb, jo, rfl⟩ := RdS_addr hjrd (by simp)
  have hjbm : jb ∈ jF := by
    obtain ⟨_, _, h3⟩ := hjrd
    rcases h3 with ⟨h4, _⟩ | ⟨_, b', o', F', ha, hF', _⟩
    · simp at h4
    · simp at ha; rw [hF', ha.1]; simp
  have hjb6 : jb ≠ w.heap.size + 1 + 1 := hGj.ne6 HF1.out HF2.out jb hjbm
  have hjbB : jb ≠ B := fun hh => (hGj.ne HB1.out HB2.out hBl) (hh ▸ hjbm)
  clear htl htrd hnew hb hjbm
  clear y0 y1 y2 y3 hry hyF hbly
  obtain ⟨ga, gl, gc, gF, ⟨g0, g1, g2, g3⟩, hrg, hgF, hblg⟩ := RdS_el0 hjrd rfl
  go_wp2_with fail
  have hbT : Below V10.heap.size V10 (V10.alloc (.cells #[.int .i64 tk, .int .i64 tn, .string tz, .slice ta tll tc] 26)) := (Below.refl _ _).alloc (Nat.le_refl _) _
  replace hFs := hFs.below hBl hbT
  replace hird := RdS_ext hird hbT
  replace hrdN := RdS_ext hrdN hbT
  replace hjrd := RdS_ext hjrd hbT
  generalize V10.alloc (.cells #[.int .i64 tk, .int .i64 tn, .string tz, .slice ta tll tc] 26) = V11 at *
  clear hbT
  clear g0 g1 g2 g3 hrg hgF hblg
  obtain ⟨ga, gl, gc, gF, ⟨g0, g1, g2, g3⟩, hrg, hgF, hblg⟩ := RdS_el0 hjrd rfl
  obtain ⟨za, zl, zc, zF, ⟨z0, z1, z2, z3⟩, hrz, hzF, hblz⟩ := RdS_el1 hird rfl
  obtain ⟨f0, f1, f2, f3, fl⟩ := hFs.env
  have hGg := hGj.sub hgF
  have hGz := hGi.sub hzF
  have hbW : Below V11.heap.size V11 V11.drew := (Below.refl _ _).drew
  have HFS := Lib.hid hFs
  have HS : Hid (El12 jb jo ib (io + 4) (w.heap.size + 1) (.int .i64 gk) (.int .i64 gn) (.string gz) (.slice ga gl gc) (.int .i64 zk) (.int .i64 zn) (.string zz) (.slice za zl zc) (.int .i64 k2) (.int .i64 n2) (.string s2) (.slice a2 l2 c2) V11) := ⟨g0, g1, g2, g3, z0, z1, z2, z3, f0, f1, f2, f3⟩
  have hsV1 := hFs.sz
  have hBV : B < V11.heap.size := heap_lt hFs.wk
  have n6c : w.heap.size + 1 ≠ w.heap.size + 1 + 1 := by omega
  go_region_held3 (fun w' => w'.cell? ⟨jb, jo, none⟩ = some (.int .i64 gk) ∧ w'.cell? ⟨jb, jo + 1, none⟩ = some (.int .i64 gn) ∧ w'.cell? ⟨jb, jo + 2, none⟩ = some (.string gz) ∧ w'.cell? ⟨jb, jo + 3, none⟩ = some (.slice ga gl gc) ∧ w'.cell? ⟨ib, io + 4, none⟩ = some (.int .i64 zk) ∧ w'.cell? ⟨ib, io + 4 + 1, none⟩ = some (.int .i64 zn) ∧ w'.cell? ⟨ib, io + 4 + 2, none⟩ = some (.string zz) ∧ w'.cell? ⟨ib, io + 4 + 3, none⟩ = some (.slice za zl zc) ∧ w'.cell? ⟨w.heap.size + 1, 0, none⟩ = some (.int .i64 k2) ∧ w'.cell? ⟨w.heap.size + 1, 1, none⟩ = some (.int .i64 n2) ∧ w'.cell? ⟨w.heap.size + 1, 2, none⟩ = some (.string s2) ∧ w'.cell? ⟨w.heap.size + 1, 3, none⟩ = some (.slice a2 l2 c2))
    (first | with_reducible exact El12.same (hbW.block _ hblg) (hbW.block _ hblz) (hbW.block _ fl) HS.out | with_reducible exact El12.same ((hbW.alloc hbW.size (.cells #[.int .i64 2, .int .i64 0, .string ⟨#[99, 108, 111, 115, 117, 114, 101]⟩, .slice none 0 0, .int .i64 gk, .int .i64 gn, .string gz, .slice ga gl gc, .int .i64 zk, .int .i64 zn, .string zz, .slice za zl zc, .int .i64 k2, .int .i64 n2, .string s2, .slice a2 l2 c2] 26)).block _ hblg) ((hbW.alloc hbW.size (.cells #[.int .i64 2, .int .i64 0, .string ⟨#[99, 108, 111, 115, 117, 114, 101]⟩, .slice none 0 0, .int .i64 gk, .int .i64 gn, .string gz, .slice ga gl gc, .int .i64 zk, .int .i64 zn, .string zz, .slice za zl zc, .int .i64 k2, .int .i64 n2, .string s2, .slice a2 l2 c2] 26)).block _ hblz) ((hbW.alloc hbW.size (.cells #[.int .i64 2, .int .i64 0, .string ⟨#[99, 108, 111, 115, 117, 114, 101]⟩, .slice none 0 0, .int .i64 gk, .int .i64 gn, .string gz, .slice ga gl gc, .int .i64 zk, .int .i64 zn, .string zz, .slice za zl zc, .int .i64 k2, .int .i64 n2, .string s2, .slice a2 l2 c2] 26)).block _ fl) HS.out | with_reducible exact El12.same (hg.block _ hblg (by simpa using hjbB)) (hg.block _ hblz (by simpa using hibB)) (hg.block _ fl (by simp; omega)) HS.out | with_reducible exact El12.same ((heap_set4_other hjb6).trans (hg.block _ hblg (by simpa using hjbB))) ((heap_set4_other hib6).trans (hg.block _ hblz (by simpa using hibB))) ((heap_set4_other n6c).trans (hg.block _ fl (by simp; omega))) HS.out)
    (first | (go_at_call 82; (with_reducible refine (l02Sym_any _ V11.drew).mono ?_); rintro e w3 ⟨rfl, hb3⟩; replace hbW : Below V11.heap.size V11 w3 := hbW.trans (hb3.mono hbW.size)) | (go_at_call 49; (with_reducible refine (l02List_some [.mk 2 0 ⟨#[99, 108, 111, 115, 117, 114, 101]⟩ [], .mk gk gn gz gas, .mk zk zn zz zas, .mk k2 n2 s2 xs2] (some ⟨w3.heap.size, 0, none⟩) w3.heap.size 0 4 4 [[], gF, zF, F2] 0 0 ⟨#[]⟩ [] none 0 0 [] (w3.alloc (.cells #[.int .i64 2, .int .i64 0, .string ⟨#[99, 108, 111, 115, 117, 114, 101]⟩, .slice none 0 0, .int .i64 gk, .int .i64 gn, .string gz, .slice ga gl gc, .int .i64 zk, .int .i64 zn, .string zz, .slice za zl zc, .int .i64 k2, .int .i64 n2, .string s2, .slice a2 l2 c2] 26)) (RdS_nil _ _ _) (fun _ => rfl) rfl (by decide) rfl ?_).mono ?_); (exact row4_rd (e0 := ⟨2, 0, ⟨#[99, 108, 111, 115, 117, 114, 101]⟩, none, 0, 0⟩) (e1 := ⟨gk, gn, gz, ga, gl, gc⟩) (e2 := ⟨zk, zn, zz, za, zl, zc⟩) (e3 := ⟨k2, n2, s2, a2, l2, c2⟩) (heap_new rfl) (RdS_nil _ _ _) (RdS_ext hrg (hbW.alloc hbW.size _)) (RdS_ext hrz (hbW.alloc hbW.size _)) (RdS_ext hrdN (hbW.alloc hbW.size _))); rintro e w4 ⟨k7, n7, z7, xs7, a7, l7, c7, F7, ht7, rfl, hrd7, hgr7, hb7⟩; have hs3 := hbW.size; replace hbW : Below V11.heap.size V11 w4 := (hbW.alloc hbW.size _).trans (hb7.mono (hbW.alloc hbW.size _).size)) | (go_at_call 106; (with_reducible refine (l40Keep_any B left 0 k7 n7 z7 xs7 a7 l7 c7 F7 w4 (walk_below hbW hBV HFS.out.wk) hrd7 ?_ ?_).mono ?_); (have hlc := HWC.out.1; rw [HCT.out] at hlc; rw [← ht7]; exact hlc); (have hlc := HWC.out.2; rw [HCT.out] at hlc; rw [← ht7]; exact hlc); rintro e w5 ⟨k9, n9, z9, xs9, a9, l9, c9, F9, hr9, rfl, hrd9, hF9, hg9, hl9⟩; have hg : V11.grownBy w5 (some B) := grown_trans (grown_below hbW _) hg9; have hFs5 := HFS.out.grown hBl hg hl9; obtain ⟨t0, t1, t2, t3, tf, tl⟩ := hFs5.res))
  have hG9 : Gd w F1 F2 F9 := fun x hx => by
    have hs4 := hbW.size
    rcases hF9 x hx with h' | h'
    · rcases hgr7.mem x h' with h' | ⟨h', _⟩
      · simp only [List.flatten_cons, List.flatten_nil, List.nil_append, List.append_nil, List.mem_append] at h'
        rcases h' with h' | h' | h'
        · exact hGg x h'
        · exact hGz x h'
        · exact .inr (.inl h')
      · simp at h'; exact .inr (.inr (by omega))
    · exact .inr (.inr (by omega))
  have HE : Hid (keepV ct left = keepS 0 (.mk k7 n7 z7 xs7) left) := by
    show _ = _
    rw [keepS, if_pos rfl, HCT.out, ← ht7]; rfl
  replace hFs := hFs5
  have rl := tl
  have HR9 := Lib.hid hr9
  have HT7 := Lib.hid ht7
  clear hr9 ht7
  go_wp2
  rw [HE.out]
  exact bodyPost_ret (v := .agg #[.int .i64 k9, .int .i64 n9, .string z9, .slice a9 l9 c9]) (results_term rfl _ _ (w.heap.size + 1 + 1) rfl (heap_set4 hFs.b6)) rfl (hFs.out (r := keepS 0 (.mk k7 n7 z7 xs7) left) hBl HF1.out HF2.out HR9.out rfl rfl hrd9 hG9)
end Go.Proofs.Ytjkabbkaeioibaa
