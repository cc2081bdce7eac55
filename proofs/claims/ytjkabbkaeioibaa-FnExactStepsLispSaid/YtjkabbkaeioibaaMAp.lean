/- The reference's application: an application of quote is stuck. The reference's application: a closure and its argument. The reference's evaluator: an application, and quote of what holds a closure. -/
import Derived.Test.YtjkabbkaeioibaaSpDefs2
import Derived.Deep.RegionHeld3
namespace Go.Proofs.Ytjkabbkaeioibaa
open Go.RowKit
set_option linter.unusedVariables false

theorem its_two {k n : Int} {s : ByteArray} {xs : List Tm} {x y : Tm} (h : (Tm.mk k n s xs).its = [x, y]) : k = 4 ∧ ∃ n' s' r, xs = [x, .mk 4 n' s' [y, r]] := by
  match xs with
  | [] => cases h
  | [_] => cases h
  | [d, .mk k' n' s' ys] =>
    by_cases hk : k = 4
    · subst hk
      rw [its_pair.1] at h
      have h2 : (Tm.mk k' n' s' ys).its = [y] := (List.cons.inj h).2
      have h1 : d = x := (List.cons.inj h).1
      subst h1
      match ys with
      | [] => cases h2
      | [_] => cases h2
      | [d', r'] =>
        by_cases hk' : k' = 4
        · subst hk'
          rw [its_pair.1] at h2
          obtain rfl : d' = y := (List.cons.inj h2).1
          exact ⟨rfl, n', s', r', rfl⟩
        · rw [(its_end hk').1] at h2; cases h2
      | _ :: _ :: _ :: _ => cases h2
    · rw [(its_end hk).1] at h; cases h
  | _ :: _ :: _ :: _ => cases h

set_option maxHeartbeats 8000000 in
set_option maxRecDepth 200000 in
theorem ap_stuck (fuel : Nat) (ih : EvalS fuel) (left B : Nat) (k1 n1 : Int) (s1 : ByteArray) (xs1 : List Tm) (a1 : Option Addr) (l1 c1 : Nat) (F1 : List Nat) (k2 n2 : Int) (s2 : ByteArray) (xs2 : List Tm) (a2 : Option Addr) (l2 c2 : Nat) (F2 : List Nat) (w : World)
    (hlf : left ≤ fuel) (h1000 : left ≤ 1000) (hw : WalkAt w B left 0) (h1 : RdS w xs1 a1 l1 c1 F1) (h2 : RdS w xs2 a2 l2 c2 F2) (hB1 : B ∉ F1) (hB2 : B ∉ F2) (hok1 : (Tm.mk k1 n1 s1 xs1).ok = true) (hok2 : (Tm.mk k2 n2 s2 xs2).ok = true) (xk xn : Int) (xz : ByteArray) (xas : List Tm) (yk yn : Int) (yz : ByteArray) (yas : List Tm) (hits : (Tm.mk k1 n1 s1 xs1).its = [.mk xk xn xz xas, .mk yk yn yz yas]) (hq : isSym (.mk xk xn xz xas) ⟨#[113, 117, 111, 116, 101]⟩ = true) :
    Calls Try.prog 107 #[.pointer (some ⟨B, 0, none⟩), .agg #[.int .i64 k1, .int .i64 n1, .string s1, .slice a1 l1 c1], .agg #[.int .i64 k2, .int .i64 n2, .string s2, .slice a2 l2 c2]] w
      (SpOut w B (F1 ++ F2) (stuck left)) := by
  have HQquote := Lib.hid hq
  clear hq
  have HOKX := Lib.hid (its_ok hok1 (.mk xk xn xz xas) (by rw [hits]; simp))
  have HOKY := Lib.hid (its_ok hok1 (.mk yk yn yz yas) (by rw [hits]; simp))
  obtain ⟨rfl, tn, tz, ⟨rk, rn, rz, ras⟩, rfl⟩ := its_two hits
  obtain rfl : l1 = 2 := h1.1
  obtain ⟨b, o, xk', xn', xz', xas', xa, xl, xc, G1, tk', tn', tz', tas', ta, tl, tc, G2, hts, rfl, hF1, hbl, ⟨x0, x1, x2, x3⟩, ⟨_, _, _, t3⟩, hrx, hrt⟩ := RdS_pair h1 rfl
  cases hts
  obtain rfl : tl = 2 := hrt.1
  obtain ⟨b', o', yk', yn', yz', yas', ya, yl, yc, G3, rk', rn', rz', ras', ra, rl', rc, G4, hts, rfl, hG2, hbl', ⟨y0, y1, y2, y3⟩, _, hry, _⟩ := RdS_pair hrt rfl
  cases hts
  have HG1 : Hid (∀ x ∈ G1, x ∈ F1) := fun x hx => by rw [hF1]; simp [hx]
  have HG3 : Hid (∀ x ∈ G3, x ∈ F1) := fun x hx => by rw [hF1, hG2]; simp [hx]
  have hbB : b ≠ B := fun hh => hB1 (by rw [hF1, hh]; simp)
  have hbB' : b' ≠ B := fun hh => hB1 (by rw [hF1, hG2, hh]; simp)
  have HHX := Lib.hid hrx; have HHY := Lib.hid hry
  obtain ⟨m0, m1, mf, hBl⟩ := walk_cells hw
  have HW := Lib.hid hw; have HF1 := Lib.hid (RdS_lt h1); have HF2 := Lib.hid (RdS_lt h2); have IH := Lib.hid ih
  have HH2 := Lib.hid h2; have HOK2 := Lib.hid hok2; have HB1 := Lib.hid hB1; have HB2 := Lib.hid hB2
  have HXC : Hid (w.cell? ⟨b, o + 4 + 3, none⟩ = some (.slice (some ⟨b', o', none⟩) 2 tc) ∧ w.cell? ⟨b', o', none⟩ = some (.int .i64 yk) ∧ w.cell? ⟨b', o' + 1, none⟩ = some (.int .i64 yn) ∧ w.cell? ⟨b', o' + 2, none⟩ = some (.string yz) ∧ w.cell? ⟨b', o' + 3, none⟩ = some (.slice ya yl yc)) := ⟨t3, y0, y1, y2, y3⟩
  clear hw m0 m1 mf ih h1 h2 hok1 hok2 hB1 hB2 hits hF1 hG2 hrx hry hrt t3 y0 y1 y2 y3
  have hbw1 : b < w.heap.size + 1 := by omega
  have hbw2 : b < w.heap.size + 1 + 1 := by omega
  have hbw3 : b < w.heap.size + 1 + 1 + 1 := by omega
  go_enter Try.func107, Try.ntmps107
  go_wp2_with fail
  have hFs : Fs w (((((w.alloc (.cells #[.int .i64 4, .int .i64 n1, .string s1, .slice (some ⟨b, o, none⟩) 2 c1] 26)).alloc (.cells #[.int .i64 k2, .int .i64 n2, .string s2, .slice a2 l2 c2] 26)).alloc (.cells #[.int .i64 0, .int .i64 0, .string ⟨#[]⟩, .slice none 0 0] 26)).alloc (.cells #[.int .i64 xk, .int .i64 xn, .string xz, .slice xa xl xc] 26)).alloc (.cells #[.string ⟨#[113, 117, 111, 116, 101]⟩, .string ⟨#[99, 97, 114]⟩, .string ⟨#[99, 100, 114]⟩] 9)) B left 0 4 n1 s1 (some ⟨b, o, none⟩) 2 c1 k2 n2 s2 a2 l2 c2 := by
    have hbx : Below w.heap.size w (((((w.alloc (.cells #[.int .i64 4, .int .i64 n1, .string s1, .slice (some ⟨b, o, none⟩) 2 c1] 26)).alloc (.cells #[.int .i64 k2, .int .i64 n2, .string s2, .slice a2 l2 c2] 26)).alloc (.cells #[.int .i64 0, .int .i64 0, .string ⟨#[]⟩, .slice none 0 0] 26)).alloc (.cells #[.int .i64 xk, .int .i64 xn, .string xz, .slice xa xl xc] 26)).alloc (.cells #[.string ⟨#[113, 117, 111, 116, 101]⟩, .string ⟨#[99, 97, 114]⟩, .string ⟨#[99, 100, 114]⟩] 9)) := (((((Below.refl _ _).alloc (Nat.le_refl _) _).alloc (by simp) _).alloc (by simp <;> omega) _).alloc (by simp <;> omega) _).alloc (by simp <;> omega) _
    refine ⟨?_, ?_, ?_, ?_, ?_, ?_⟩
    · rw [heap_old (by simp <;> omega), heap_old (by simp <;> omega), heap_old (by simp <;> omega), heap_old (by simp)]; exact heap_new rfl
    · rw [heap_old (by simp <;> omega), heap_old (by simp <;> omega), heap_old (by simp)]; exact heap_new (by simp)
    · rw [heap_old (by simp <;> omega), heap_old (by simp)]; exact heap_new (by simp)
    · exact (hbx.block _ hBl).trans HW.out
    · exact grown_below hbx _
    · simp <;> omega
  have hFb : (((((w.alloc (.cells #[.int .i64 4, .int .i64 n1, .string s1, .slice (some ⟨b, o, none⟩) 2 c1] 26)).alloc (.cells #[.int .i64 k2, .int .i64 n2, .string s2, .slice a2 l2 c2] 26)).alloc (.cells #[.int .i64 0, .int .i64 0, .string ⟨#[]⟩, .slice none 0 0] 26)).alloc (.cells #[.int .i64 xk, .int .i64 xn, .string xz, .slice xa xl xc] 26)).alloc (.cells #[.string ⟨#[113, 117, 111, 116, 101]⟩, .string ⟨#[99, 97, 114]⟩, .string ⟨#[99, 100, 114]⟩] 9)).heap[w.heap.size + 1 + 1 + 1]? = some (.cells #[.int .i64 xk, .int .i64 xn, .string xz, .slice xa xl xc] 26 (0, 0)) := by rw [heap_old (by simp)]; exact heap_new (by simp)
  have hNb : (((((w.alloc (.cells #[.int .i64 4, .int .i64 n1, .string s1, .slice (some ⟨b, o, none⟩) 2 c1] 26)).alloc (.cells #[.int .i64 k2, .int .i64 n2, .string s2, .slice a2 l2 c2] 26)).alloc (.cells #[.int .i64 0, .int .i64 0, .string ⟨#[]⟩, .slice none 0 0] 26)).alloc (.cells #[.int .i64 xk, .int .i64 xn, .string xz, .slice xa xl xc] 26)).alloc (.cells #[.string ⟨#[113, 117, 111, 116, 101]⟩, .string ⟨#[99, 97, 114]⟩, .string ⟨#[99, 100, 114]⟩] 9)).heap[w.heap.size + 1 + 1 + 1 + 1]? = some (.cells #[.string ⟨#[113, 117, 111, 116, 101]⟩, .string ⟨#[99, 97, 114]⟩, .string ⟨#[99, 100, 114]⟩] 9 (0, 0)) := heap_new (by simp)
  generalize (((((w.alloc (.cells #[.int .i64 4, .int .i64 n1, .string s1, .slice (some ⟨b, o, none⟩) 2 c1] 26)).alloc (.cells #[.int .i64 k2, .int .i64 n2, .string s2, .slice a2 l2 c2] 26)).alloc (.cells #[.int .i64 0, .int .i64 0, .string ⟨#[]⟩, .slice none 0 0] 26)).alloc (.cells #[.int .i64 xk, .int .i64 xn, .string xz, .slice xa xl xc] 26)).alloc (.cells #[.string ⟨#[113, 117, 111, 116, 101]⟩, .string ⟨#[99, 97, 114]⟩, .string ⟨#[99, 100, 114]⟩] 9)) = N at *
  have hnbl := heap_lt hNb
  have HNB := Lib.hid hNb; have HFB := Lib.hid hFb; have HST := Lib.hid hFs
  have HNX : Hid (RdS N xas xa xl xc G1) := RdS_grown HHX.out hFs.ext (fun x hx hh => HB1.out (hh ▸ HG1.out x hx))
  have hGx : Gd w F1 F2 G1 := fun x hx => .inl (HG1.out x hx)
  have hGy : Gd w F1 F2 G3 := fun x hx => .inl (HG3.out x hx)
  clear hFb hNb hFs x0 x1 x2 x3
  go_loopw [20] (fun iv wr => ∃ j : Nat, j ≤ 0 ∧ iv = .int .i64 j ∧ Below N.heap.size N wr) (fun iv _ => 3 - (intOf iv).toNat)
  case atStart => exact ⟨0, by omega, rfl, Below.refl _ _⟩
  case round =>
    obtain ⟨j, hj, rfl, hbr⟩ := hrel
    have hFs := HST.out.below hBl hbr
    have hrx := RdS_ext HNX.out hbr
    have hfr := (hbr.block _ (by omega)).trans HFB.out
    obtain ⟨x0, x1, x2, x3, _⟩ := box4 hfr
    have hfl := heap_lt hfr
    have HFR := Lib.hid hfr
    have hnr := (hbr.block _ hnbl).trans HNB.out
    have n0 : wr.cell? ⟨w.heap.size + 1 + 1 + 1 + 1, 0, none⟩ = some (.string ⟨#[113, 117, 111, 116, 101]⟩) := by simpa using cell_of_block hnr 0
    have n1' : wr.cell? ⟨w.heap.size + 1 + 1 + 1 + 1, 1, none⟩ = some (.string ⟨#[99, 97, 114]⟩) := by simpa using cell_of_block hnr 1
    have n2' : wr.cell? ⟨w.heap.size + 1 + 1 + 1 + 1, 2, none⟩ = some (.string ⟨#[99, 100, 114]⟩) := by simpa using cell_of_block hnr 2
    clear hnr hfr
    obtain rfl : j = 0 := by omega
    have hsv : Hid (tmEq (.mk xk xn xz xas) (.mk 2 0 ⟨#[113, 117, 111, 116, 101]⟩ []) = isSym (.mk xk xn xz xas) ⟨#[113, 117, 111, 116, 101]⟩) := isSym_eq (ok_wf HOKX.out).1
    have SS := Lib.hid (fun W => same_spec xk xn xz xas xa xl xc G1 2 0 ⟨#[113, 117, 111, 116, 101]⟩ [] none 0 0 [] W)
    rw [hsv.out, HQquote.out] at SS
    have HSW : Hid ((Tm.mk 2 0 ⟨#[113, 117, 111, 116, 101]⟩ []).wf = true) := by show _ = _; decide +kernel
    go_wp2_with fail
    have hbW : Below wr.heap.size wr wr.drew := (Below.refl _ _).drew
    have HSkeep : Hid (wr.cell? ⟨w.heap.size + 1 + 1 + 1, 0, none⟩ = some (.int .i64 xk) ∧ wr.cell? ⟨w.heap.size + 1 + 1 + 1, 1, none⟩ = some (.int .i64 xn) ∧ wr.cell? ⟨w.heap.size + 1 + 1 + 1, 2, none⟩ = some (.string xz) ∧ wr.cell? ⟨w.heap.size + 1 + 1 + 1, 3, none⟩ = some (.slice xa xl xc)) := ⟨x0, x1, x2, x3⟩
    have keep : Hid (∀ w' : World, w'.heap[w.heap.size + 1 + 1 + 1]? = wr.heap[w.heap.size + 1 + 1 + 1]? → w'.cell? ⟨w.heap.size + 1 + 1 + 1, 0, none⟩ = some (.int .i64 xk) ∧ w'.cell? ⟨w.heap.size + 1 + 1 + 1, 1, none⟩ = some (.int .i64 xn) ∧ w'.cell? ⟨w.heap.size + 1 + 1 + 1, 2, none⟩ = some (.string xz) ∧ w'.cell? ⟨w.heap.size + 1 + 1 + 1, 3, none⟩ = some (.slice xa xl xc)) := by
      intro w' e0
      obtain ⟨y0, y1, y2, y3⟩ := HSkeep.out
      exact ⟨(World.cell?_of_block e0).trans y0, (World.cell?_of_block e0).trans y1, (World.cell?_of_block e0).trans y2, (World.cell?_of_block e0).trans y3⟩
    go_region_held3 (fun w' => w'.cell? ⟨w.heap.size + 1 + 1 + 1, 0, none⟩ = some (.int .i64 xk) ∧ w'.cell? ⟨w.heap.size + 1 + 1 + 1, 1, none⟩ = some (.int .i64 xn) ∧ w'.cell? ⟨w.heap.size + 1 + 1 + 1, 2, none⟩ = some (.string xz) ∧ w'.cell? ⟨w.heap.size + 1 + 1 + 1, 3, none⟩ = some (.slice xa xl xc))
      (first | with_reducible exact keep.out _ (hbW.block _ hfl))
      (first | (go_at_call 82; (with_reducible refine (l02Sym_any ⟨#[113, 117, 111, 116, 101]⟩ wr.drew).mono ?_); rintro e w3 ⟨rfl, hb3⟩; replace hbW : Below wr.heap.size wr w3 := hbW.trans (hb3.mono hbW.size)) | (go_at_call 61; (with_reducible refine (SS.out w3 (RdS_ext hrx hbW) (RdS_nil _ _ _) (ok_wf HOKX.out).1 HSW.out).mono ?_); rintro e w4 ⟨rfl, hb4⟩; replace hbW : Below wr.heap.size wr w4 := hbW.trans (hb4.mono hbW.size)))
    clear x0 x1 x2 x3 keep HSkeep
    replace hFs := hFs.below hBl hbW
    go_wp2_with fail
    refine (l40Stuck_any B left 0 w4 hFs.wk).mono ?_
    rintro e V40 ⟨k9, n9, s9, xs9, a9, l9, c9, F9, hr9, rfl, hrd9, hF9, hg9, hw9⟩
    have hs3 := hFs.sz
    replace hFs := hFs.grown hBl hg9 hw9
    have HR9 := Lib.hid hr9
    clear hr9 n0 n1' n2'
    obtain ⟨r0, r1, r2, r3, rf, rl⟩ := hFs.res
    go_wp2
    exact bodyPost_ret (v := .agg #[.int .i64 k9, .int .i64 n9, .string s9, .slice a9 l9 c9]) (results_term rfl _ _ (w.heap.size + 1 + 1) rfl (heap_set4 hFs.b6)) rfl (hFs.out (r := stuck left) hBl HF1.out HF2.out HR9.out rfl rfl hrd9 (fun x hx => .inr (.inr (by rcases hF9 x hx with h' | h'; cases h'; omega))))
end Go.Proofs.Ytjkabbkaeioibaa
namespace Go.Proofs.Ytjkabbkaeioibaa
open Go.RowKit
set_option linter.unusedVariables false

theorem evApp_none {rec : Nat → Tm → Tm → Res} {r : Res} {b env : Tm} (h : formR r.1 ⟨#[99, 108, 111, 115, 117, 114, 101]⟩ 3 = none) : evApp rec r b env = if r.2.1 ≠ 0 then failV r else stuck r.2.2 := by
  apply evApp_bad
  unfold formR at h
  split at h
  · rename_i hx; exact .inr (.inl (by rw [hx]; simp))
  · rename_i x rest hx
    split at h
    · cases h
    · rename_i hc
      by_cases h1 : r.1.tl.kind = 0
      · by_cases h2 : rest.length = 3
        · right; right
          refine ⟨x, rest, hx, ?_⟩
          cases h3 : isSym x ⟨#[99, 108, 111, 115, 117, 114, 101]⟩ with
          | false => rfl
          | true => exact absurd ⟨h2, h1, .inr h3⟩ hc
        · exact .inr (.inl (by rw [hx]; simp; exact h2))
      · exact .inl h1
theorem evApp_some {rec : Nat → Tm → Tm → Res} {r : Res} {b env : Tm} {rest : List Tm} (h : formR r.1 ⟨#[99, 108, 111, 115, 117, 114, 101]⟩ 3 = some rest) (hc : r.2.1 = 0) : ∃ x body cenv, rest = [x, body, cenv] ∧ evApp rec r b env = evBody rec (rec r.2.2 b env) x body cenv := by
  unfold formR at h
  split at h
  · cases h
  · rename_i p rest' hx
    split at h
    · rename_i hcc
      cases h
      match rest, hcc.1 with
      | [x, body, cenv], _ =>
        refine ⟨x, body, cenv, rfl, ?_⟩
        rw [evApp, if_neg (by simp [hc]), hx]
        simp only
        rcases hcc.2.2 with h' | h'
        · exact absurd h' (by decide)
        · rw [if_pos ⟨hcc.2.1, h'⟩]
    · cases h
theorem formR_mem {t : Tm} {name : ByteArray} {n : Nat} {rest : List Tm} (h : formR t name n = some rest) : ∀ a ∈ rest, a ∈ t.its := by
  unfold formR at h
  split at h
  · cases h
  · rename_i x r hx
    split at h
    · cases h; intro a ha; rw [hx]; exact List.mem_cons_of_mem _ ha
    · cases h
theorem form_nil {n : Nat} {name : ByteArray} : formR Tm.nil name n = none := by unfold formR; rfl
theorem evBody_keep {rec : Nat → Tm → Tm → Res} {q : Res} {x body cenv : Tm} : evBody rec q x body cenv = if (keepS q.2.1 (Tm.pair (Tm.pair x q.1) cenv) q.2.2).2.1 = 0 then rec q.2.2 body (Tm.pair (Tm.pair x q.1) cenv) else (Tm.nil, (keepS q.2.1 (Tm.pair (Tm.pair x q.1) cenv) q.2.2).2.1, (keepS q.2.1 (Tm.pair (Tm.pair x q.1) cenv) q.2.2).2.2) := by
  unfold evBody keepS keepV
  by_cases h : q.2.1 = 0
  · rw [if_neg (by simp [h]), if_pos h]
    by_cases h2 : (Tm.pair (Tm.pair x q.1) cenv).ok = true
    · rw [if_pos h2, if_pos h2, if_pos rfl]
    · rw [if_neg h2, if_neg h2, stuck, if_neg (by simp)]
  · rw [if_pos h, if_neg h, if_neg h, failV]
theorem keepS_zero {c left : Nat} {t : Tm} (h : (keepS c t left).2.1 = 0) : (keepS c t left).1 = t ∧ (keepS c t left).2.2 = left ∧ t.ok = true := by
  unfold keepS at h ⊢
  by_cases hc : c = 0
  · rw [if_pos hc] at h ⊢
    unfold keepV at h ⊢
    by_cases h2 : t.ok = true
    · rw [if_pos h2]; exact ⟨rfl, rfl, h2⟩
    · rw [if_neg h2] at h; simp [stuck] at h
  · rw [if_neg hc] at h; exact absurd h hc

set_option maxHeartbeats 8000000 in
set_option maxRecDepth 200000 in
theorem ap_go (fuel : Nat) (ih : EvalS fuel) (left B : Nat) (k1 n1 : Int) (s1 : ByteArray) (xs1 : List Tm) (a1 : Option Addr) (l1 c1 : Nat) (F1 : List Nat) (k2 n2 : Int) (s2 : ByteArray) (xs2 : List Tm) (a2 : Option Addr) (l2 c2 : Nat) (F2 : List Nat) (w : World)
    (hlf : left ≤ fuel) (h1000 : left ≤ 1000) (hw : WalkAt w B left 0) (h1 : RdS w xs1 a1 l1 c1 F1) (h2 : RdS w xs2 a2 l2 c2 F2) (hB1 : B ∉ F1) (hB2 : B ∉ F2) (hok1 : (Tm.mk k1 n1 s1 xs1).ok = true) (hok2 : (Tm.mk k2 n2 s2 xs2).ok = true) (xk xn : Int) (xz : ByteArray) (xas : List Tm) (yk yn : Int) (yz : ByteArray) (yas : List Tm) (hits : (Tm.mk k1 n1 s1 xs1).its = [.mk xk xn xz xas, .mk yk yn yz yas]) (hq : isSym (.mk xk xn xz xas) ⟨#[113, 117, 111, 116, 101]⟩ = false) (hc : isSym (.mk xk xn xz xas) ⟨#[99, 97, 114]⟩ = false) (hd : isSym (.mk xk xn xz xas) ⟨#[99, 100, 114]⟩ = false) :
    Calls Try.prog 107 #[.pointer (some ⟨B, 0, none⟩), .agg #[.int .i64 k1, .int .i64 n1, .string s1, .slice a1 l1 c1], .agg #[.int .i64 k2, .int .i64 n2, .string s2, .slice a2 l2 c2]] w
      (SpOut w B (F1 ++ F2) (evApp (ev fuel) (ev fuel left (.mk xk xn xz xas) (Tm.mk k2 n2 s2 xs2)) (.mk yk yn yz yas) (Tm.mk k2 n2 s2 xs2))) := by
  have HQquote := Lib.hid hq; have HQcar := Lib.hid hc; have HQcdr := Lib.hid hd
  obtain ⟨rR, hrR⟩ : ∃ r : Res, r = ev fuel left (.mk xk xn xz xas) (Tm.mk k2 n2 s2 xs2) := ⟨_, rfl⟩
  rw [← hrR]
  have hgood : GoodR rR left := by rw [hrR]; exact ev_good fuel left _ _ (its_ok hok1 (.mk xk xn xz xas) (by rw [hits]; simp)) hok2
  have HRR := Lib.hid hrR; have HGOOD := Lib.hid hgood
  obtain ⟨rs, hrs⟩ : ∃ r : Res, r = evApp (ev fuel) rR (.mk yk yn yz yas) (Tm.mk k2 n2 s2 xs2) := ⟨_, rfl⟩
  rw [← hrs]
  have HRS := Lib.hid hrs
  have HNclo : Hid (((⟨#[99, 108, 111, 115, 117, 114, 101]⟩ : ByteArray)).size = 0 ∨ (((⟨#[99, 108, 111, 115, 117, 114, 101]⟩ : ByteArray)).toList.isEmpty = false ∧ (Tm.sym ⟨#[99, 108, 111, 115, 117, 114, 101]⟩).wf = true)) := .inr (by decide +kernel)
  clear hq hc hd hrR hgood hrs
  have HOKX := Lib.hid (its_ok hok1 (.mk xk xn xz xas) (by rw [hits]; simp))
  have HOKY := Lib.hid (its_ok hok1 (.mk yk yn yz yas) (by rw [hits]; simp))
  obtain ⟨rfl, tn, tz, ⟨rk, rn, rz, ras⟩, rfl⟩ := its_two hits
  obtain rfl : l1 = 2 := h1.1
  obtain ⟨b, o, xk', xn', xz', xas', xa, xl, xc, G1, tk', tn', tz', tas', ta, tl, tc, G2, hts, rfl, hF1, hbl, ⟨x0, x1, x2, x3⟩, ⟨_, _, _, t3⟩, hrx, hrt⟩ := RdS_pair h1 rfl
  cases hts
  obtain rfl : tl = 2 := hrt.1
  obtain ⟨b', o', yk', yn', yz', yas', ya, yl, yc, G3, rk', rn', rz', ras', ra, rl', rc, G4, hts, rfl, hG2, hbl', ⟨y0, y1, y2, y3⟩, _, hry, _⟩ := RdS_pair hrt rfl
  cases hts
  have HG1 : Hid (∀ x ∈ G1, x ∈ F1) := fun x hx => by rw [hF1]; simp [hx]
  have HG3 : Hid (∀ x ∈ G3, x ∈ F1) := fun x hx => by rw [hF1, hG2]; simp [hx]
  have hbB : b ≠ B := fun hh => hB1 (by rw [hF1, hh]; simp)
  have hbB' : b' ≠ B := fun hh => hB1 (by rw [hF1, hG2, hh]; simp)
  have HHX := Lib.hid hrx; have HHY := Lib.hid hry
  obtain ⟨m0, m1, mf, hBl⟩ := walk_cells hw
  have HW := Lib.hid hw; have HF1 := Lib.hid (RdS_lt h1); have HF2 := Lib.hid (RdS_lt h2); have IH := Lib.hid ih
  have HH2 := Lib.hid h2; have HOK2 := Lib.hid hok2; have HB1 := Lib.hid hB1; have HB2 := Lib.hid hB2
  have HXC : Hid (w.cell? ⟨b, o + 4 + 3, none⟩ = some (.slice (some ⟨b', o', none⟩) 2 tc) ∧ w.cell? ⟨b', o', none⟩ = some (.int .i64 yk) ∧ w.cell? ⟨b', o' + 1, none⟩ = some (.int .i64 yn) ∧ w.cell? ⟨b', o' + 2, none⟩ = some (.string yz) ∧ w.cell? ⟨b', o' + 3, none⟩ = some (.slice ya yl yc)) := ⟨t3, y0, y1, y2, y3⟩
  clear hw m0 m1 mf ih h1 h2 hok1 hok2 hB1 hB2 hits hF1 hG2 hrx hry hrt t3 y0 y1 y2 y3
  have hbw1 : b < w.heap.size + 1 := by omega
  have hbw2 : b < w.heap.size + 1 + 1 := by omega
  have hbw3 : b < w.heap.size + 1 + 1 + 1 := by omega
  go_enter Try.func107, Try.ntmps107
  go_wp2_with fail
  have hFs : Fs w (((((w.alloc (.cells #[.int .i64 4, .int .i64 n1, .string s1, .slice (some ⟨b, o, none⟩) 2 c1] 26)).alloc (.cells #[.int .i64 k2, .int .i64 n2, .string s2, .slice a2 l2 c2] 26)).alloc (.cells #[.int .i64 0, .int .i64 0, .string ⟨#[]⟩, .slice none 0 0] 26)).alloc (.cells #[.int .i64 xk, .int .i64 xn, .string xz, .slice xa xl xc] 26)).alloc (.cells #[.string ⟨#[113, 117, 111, 116, 101]⟩, .string ⟨#[99, 97, 114]⟩, .string ⟨#[99, 100, 114]⟩] 9)) B left 0 4 n1 s1 (some ⟨b, o, none⟩) 2 c1 k2 n2 s2 a2 l2 c2 := by
    have hbx : Below w.heap.size w (((((w.alloc (.cells #[.int .i64 4, .int .i64 n1, .string s1, .slice (some ⟨b, o, none⟩) 2 c1] 26)).alloc (.cells #[.int .i64 k2, .int .i64 n2, .string s2, .slice a2 l2 c2] 26)).alloc (.cells #[.int .i64 0, .int .i64 0, .string ⟨#[]⟩, .slice none 0 0] 26)).alloc (.cells #[.int .i64 xk, .int .i64 xn, .string xz, .slice xa xl xc] 26)).alloc (.cells #[.string ⟨#[113, 117, 111, 116, 101]⟩, .string ⟨#[99, 97, 114]⟩, .string ⟨#[99, 100, 114]⟩] 9)) := (((((Below.refl _ _).alloc (Nat.le_refl _) _).alloc (by simp) _).alloc (by simp <;> omega) _).alloc (by simp <;> omega) _).alloc (by simp <;> omega) _
    refine ⟨?_, ?_, ?_, ?_, ?_, ?_⟩
    · rw [heap_old (by simp <;> omega), heap_old (by simp <;> omega), heap_old (by simp <;> omega), heap_old (by simp)]; exact heap_new rfl
    · rw [heap_old (by simp <;> omega), heap_old (by simp <;> omega), heap_old (by simp)]; exact heap_new (by simp)
    · rw [heap_old (by simp <;> omega), heap_old (by simp)]; exact heap_new (by simp)
    · exact (hbx.block _ hBl).trans HW.out
    · exact grown_below hbx _
    · simp <;> omega
  have hFb : (((((w.alloc (.cells #[.int .i64 4, .int .i64 n1, .string s1, .slice (some ⟨b, o, none⟩) 2 c1] 26)).alloc (.cells #[.int .i64 k2, .int .i64 n2, .string s2, .slice a2 l2 c2] 26)).alloc (.cells #[.int .i64 0, .int .i64 0, .string ⟨#[]⟩, .slice none 0 0] 26)).alloc (.cells #[.int .i64 xk, .int .i64 xn, .string xz, .slice xa xl xc] 26)).alloc (.cells #[.string ⟨#[113, 117, 111, 116, 101]⟩, .string ⟨#[99, 97, 114]⟩, .string ⟨#[99, 100, 114]⟩] 9)).heap[w.heap.size + 1 + 1 + 1]? = some (.cells #[.int .i64 xk, .int .i64 xn, .string xz, .slice xa xl xc] 26 (0, 0)) := by rw [heap_old (by simp)]; exact heap_new (by simp)
  have hNb : (((((w.alloc (.cells #[.int .i64 4, .int .i64 n1, .string s1, .slice (some ⟨b, o, none⟩) 2 c1] 26)).alloc (.cells #[.int .i64 k2, .int .i64 n2, .string s2, .slice a2 l2 c2] 26)).alloc (.cells #[.int .i64 0, .int .i64 0, .string ⟨#[]⟩, .slice none 0 0] 26)).alloc (.cells #[.int .i64 xk, .int .i64 xn, .string xz, .slice xa xl xc] 26)).alloc (.cells #[.string ⟨#[113, 117, 111, 116, 101]⟩, .string ⟨#[99, 97, 114]⟩, .string ⟨#[99, 100, 114]⟩] 9)).heap[w.heap.size + 1 + 1 + 1 + 1]? = some (.cells #[.string ⟨#[113, 117, 111, 116, 101]⟩, .string ⟨#[99, 97, 114]⟩, .string ⟨#[99, 100, 114]⟩] 9 (0, 0)) := heap_new (by simp)
  generalize (((((w.alloc (.cells #[.int .i64 4, .int .i64 n1, .string s1, .slice (some ⟨b, o, none⟩) 2 c1] 26)).alloc (.cells #[.int .i64 k2, .int .i64 n2, .string s2, .slice a2 l2 c2] 26)).alloc (.cells #[.int .i64 0, .int .i64 0, .string ⟨#[]⟩, .slice none 0 0] 26)).alloc (.cells #[.int .i64 xk, .int .i64 xn, .string xz, .slice xa xl xc] 26)).alloc (.cells #[.string ⟨#[113, 117, 111, 116, 101]⟩, .string ⟨#[99, 97, 114]⟩, .string ⟨#[99, 100, 114]⟩] 9)) = N at *
  have hnbl := heap_lt hNb
  have HNB := Lib.hid hNb; have HFB := Lib.hid hFb; have HST := Lib.hid hFs
  have HNX : Hid (RdS N xas xa xl xc G1) := RdS_grown HHX.out hFs.ext (fun x hx hh => HB1.out (hh ▸ HG1.out x hx))
  have hGx : Gd w F1 F2 G1 := fun x hx => .inl (HG1.out x hx)
  have hGy : Gd w F1 F2 G3 := fun x hx => .inl (HG3.out x hx)
  clear hFb hNb hFs x0 x1 x2 x3
  go_loopw [20] (fun iv wr => ∃ j : Nat, j ≤ 3 ∧ iv = .int .i64 j ∧ Below N.heap.size N wr) (fun iv _ => 3 - (intOf iv).toNat)
  case atStart => exact ⟨0, by omega, rfl, Below.refl _ _⟩
  case round =>
    obtain ⟨j, hj, rfl, hbr⟩ := hrel
    have hFs := HST.out.below hBl hbr
    have hrx := RdS_ext HNX.out hbr
    have hfr := (hbr.block _ (by omega)).trans HFB.out
    obtain ⟨x0, x1, x2, x3, _⟩ := box4 hfr
    have hfl := heap_lt hfr
    have HFR := Lib.hid hfr
    have hnr := (hbr.block _ hnbl).trans HNB.out
    have n0 : wr.cell? ⟨w.heap.size + 1 + 1 + 1 + 1, 0, none⟩ = some (.string ⟨#[113, 117, 111, 116, 101]⟩) := by simpa using cell_of_block hnr 0
    have n1' : wr.cell? ⟨w.heap.size + 1 + 1 + 1 + 1, 1, none⟩ = some (.string ⟨#[99, 97, 114]⟩) := by simpa using cell_of_block hnr 1
    have n2' : wr.cell? ⟨w.heap.size + 1 + 1 + 1 + 1, 2, none⟩ = some (.string ⟨#[99, 100, 114]⟩) := by simpa using cell_of_block hnr 2
    clear hnr hfr
    rcases (show j = 0 ∨ j = 1 ∨ j = 2 ∨ j = 3 by omega) with rfl | rfl | rfl | rfl
    · as_aux_lemma =>
      have hsv : Hid (tmEq (.mk xk xn xz xas) (.mk 2 0 ⟨#[113, 117, 111, 116, 101]⟩ []) = isSym (.mk xk xn xz xas) ⟨#[113, 117, 111, 116, 101]⟩) := isSym_eq (ok_wf HOKX.out).1
      have SS := Lib.hid (fun W => same_spec xk xn xz xas xa xl xc G1 2 0 ⟨#[113, 117, 111, 116, 101]⟩ [] none 0 0 [] W)
      rw [hsv.out, HQquote.out] at SS
      have HSW : Hid ((Tm.mk 2 0 ⟨#[113, 117, 111, 116, 101]⟩ []).wf = true) := by show _ = _; decide +kernel
      go_wp2_with fail
      have hbW : Below wr.heap.size wr wr.drew := (Below.refl _ _).drew
      have HSkeep : Hid (wr.cell? ⟨w.heap.size + 1 + 1 + 1, 0, none⟩ = some (.int .i64 xk) ∧ wr.cell? ⟨w.heap.size + 1 + 1 + 1, 1, none⟩ = some (.int .i64 xn) ∧ wr.cell? ⟨w.heap.size + 1 + 1 + 1, 2, none⟩ = some (.string xz) ∧ wr.cell? ⟨w.heap.size + 1 + 1 + 1, 3, none⟩ = some (.slice xa xl xc)) := ⟨x0, x1, x2, x3⟩
      have keep : Hid (∀ w' : World, w'.heap[w.heap.size + 1 + 1 + 1]? = wr.heap[w.heap.size + 1 + 1 + 1]? → w'.cell? ⟨w.heap.size + 1 + 1 + 1, 0, none⟩ = some (.int .i64 xk) ∧ w'.cell? ⟨w.heap.size + 1 + 1 + 1, 1, none⟩ = some (.int .i64 xn) ∧ w'.cell? ⟨w.heap.size + 1 + 1 + 1, 2, none⟩ = some (.string xz) ∧ w'.cell? ⟨w.heap.size + 1 + 1 + 1, 3, none⟩ = some (.slice xa xl xc)) := by
        intro w' e0
        obtain ⟨y0, y1, y2, y3⟩ := HSkeep.out
        exact ⟨(World.cell?_of_block e0).trans y0, (World.cell?_of_block e0).trans y1, (World.cell?_of_block e0).trans y2, (World.cell?_of_block e0).trans y3⟩
      go_region_held3 (fun w' => w'.cell? ⟨w.heap.size + 1 + 1 + 1, 0, none⟩ = some (.int .i64 xk) ∧ w'.cell? ⟨w.heap.size + 1 + 1 + 1, 1, none⟩ = some (.int .i64 xn) ∧ w'.cell? ⟨w.heap.size + 1 + 1 + 1, 2, none⟩ = some (.string xz) ∧ w'.cell? ⟨w.heap.size + 1 + 1 + 1, 3, none⟩ = some (.slice xa xl xc))
        (first | with_reducible exact keep.out _ (hbW.block _ hfl))
        (first | (go_at_call 82; (with_reducible refine (l02Sym_any ⟨#[113, 117, 111, 116, 101]⟩ wr.drew).mono ?_); rintro e w3 ⟨rfl, hb3⟩; replace hbW : Below wr.heap.size wr w3 := hbW.trans (hb3.mono hbW.size)) | (go_at_call 61; (with_reducible refine (SS.out w3 (RdS_ext hrx hbW) (RdS_nil _ _ _) (ok_wf HOKX.out).1 HSW.out).mono ?_); rintro e w4 ⟨rfl, hb4⟩; replace hbW : Below wr.heap.size wr w4 := hbW.trans (hb4.mono hbW.size)))
      clear x0 x1 x2 x3 keep HSkeep
      go_wp2
      go_roundw
      case rel => exact ⟨1, by omega, by go_num, hbr.trans (hbW.mono hbr.size)⟩
      case measure => simp [intOf]
    · as_aux_lemma =>
      have hsv : Hid (tmEq (.mk xk xn xz xas) (.mk 2 0 ⟨#[99, 97, 114]⟩ []) = isSym (.mk xk xn xz xas) ⟨#[99, 97, 114]⟩) := isSym_eq (ok_wf HOKX.out).1
      have SS := Lib.hid (fun W => same_spec xk xn xz xas xa xl xc G1 2 0 ⟨#[99, 97, 114]⟩ [] none 0 0 [] W)
      rw [hsv.out, HQcar.out] at SS
      have HSW : Hid ((Tm.mk 2 0 ⟨#[99, 97, 114]⟩ []).wf = true) := by show _ = _; decide +kernel
      go_wp2_with fail
      have hbW : Below wr.heap.size wr wr.drew := (Below.refl _ _).drew
      have HSkeep : Hid (wr.cell? ⟨w.heap.size + 1 + 1 + 1, 0, none⟩ = some (.int .i64 xk) ∧ wr.cell? ⟨w.heap.size + 1 + 1 + 1, 1, none⟩ = some (.int .i64 xn) ∧ wr.cell? ⟨w.heap.size + 1 + 1 + 1, 2, none⟩ = some (.string xz) ∧ wr.cell? ⟨w.heap.size + 1 + 1 + 1, 3, none⟩ = some (.slice xa xl xc)) := ⟨x0, x1, x2, x3⟩
      have keep : Hid (∀ w' : World, w'.heap[w.heap.size + 1 + 1 + 1]? = wr.heap[w.heap.size + 1 + 1 + 1]? → w'.cell? ⟨w.heap.size + 1 + 1 + 1, 0, none⟩ = some (.int .i64 xk) ∧ w'.cell? ⟨w.heap.size + 1 + 1 + 1, 1, none⟩ = some (.int .i64 xn) ∧ w'.cell? ⟨w.heap.size + 1 + 1 + 1, 2, none⟩ = some (.string xz) ∧ w'.cell? ⟨w.heap.size + 1 + 1 + 1, 3, none⟩ = some (.slice xa xl xc)) := by
        intro w' e0
        obtain ⟨y0, y1, y2, y3⟩ := HSkeep.out
        exact ⟨(World.cell?_of_block e0).trans y0, (World.cell?_of_block e0).trans y1, (World.cell?_of_block e0).trans y2, (World.cell?_of_block e0).trans y3⟩
      go_region_held3 (fun w' => w'.cell? ⟨w.heap.size + 1 + 1 + 1, 0, none⟩ = some (.int .i64 xk) ∧ w'.cell? ⟨w.heap.size + 1 + 1 + 1, 1, none⟩ = some (.int .i64 xn) ∧ w'.cell? ⟨w.heap.size + 1 + 1 + 1, 2, none⟩ = some (.string xz) ∧ w'.cell? ⟨w.heap.size + 1 + 1 + 1, 3, none⟩ = some (.slice xa xl xc))
        (first | with_reducible exact keep.out _ (hbW.block _ hfl))
        (first | (go_at_call 82; (with_reducible refine (l02Sym_any ⟨#[99, 97, 114]⟩ wr.drew).mono ?_); rintro e w3 ⟨rfl, hb3⟩; replace hbW : Below wr.heap.size wr w3 := hbW.trans (hb3.mono hbW.size)) | (go_at_call 61; (with_reducible refine (SS.out w3 (RdS_ext hrx hbW) (RdS_nil _ _ _) (ok_wf HOKX.out).1 HSW.out).mono ?_); rintro e w4 ⟨rfl, hb4⟩; replace hbW : Below wr.heap.size wr w4 := hbW.trans (hb4.mono hbW.size)))
      clear x0 x1 x2 x3 keep HSkeep
      go_wp2
      go_roundw
      case rel => exact ⟨2, by omega, by go_num, hbr.trans (hbW.mono hbr.size)⟩
      case measure => simp [intOf]
    · as_aux_lemma =>
      have hsv : Hid (tmEq (.mk xk xn xz xas) (.mk 2 0 ⟨#[99, 100, 114]⟩ []) = isSym (.mk xk xn xz xas) ⟨#[99, 100, 114]⟩) := isSym_eq (ok_wf HOKX.out).1
      have SS := Lib.hid (fun W => same_spec xk xn xz xas xa xl xc G1 2 0 ⟨#[99, 100, 114]⟩ [] none 0 0 [] W)
      rw [hsv.out, HQcdr.out] at SS
      have HSW : Hid ((Tm.mk 2 0 ⟨#[99, 100, 114]⟩ []).wf = true) := by show _ = _; decide +kernel
      go_wp2_with fail
      have hbW : Below wr.heap.size wr wr.drew := (Below.refl _ _).drew
      have HSkeep : Hid (wr.cell? ⟨w.heap.size + 1 + 1 + 1, 0, none⟩ = some (.int .i64 xk) ∧ wr.cell? ⟨w.heap.size + 1 + 1 + 1, 1, none⟩ = some (.int .i64 xn) ∧ wr.cell? ⟨w.heap.size + 1 + 1 + 1, 2, none⟩ = some (.string xz) ∧ wr.cell? ⟨w.heap.size + 1 + 1 + 1, 3, none⟩ = some (.slice xa xl xc)) := ⟨x0, x1, x2, x3⟩
      have keep : Hid (∀ w' : World, w'.heap[w.heap.size + 1 + 1 + 1]? = wr.heap[w.heap.size + 1 + 1 + 1]? → w'.cell? ⟨w.heap.size + 1 + 1 + 1, 0, none⟩ = some (.int .i64 xk) ∧ w'.cell? ⟨w.heap.size + 1 + 1 + 1, 1, none⟩ = some (.int .i64 xn) ∧ w'.cell? ⟨w.heap.size + 1 + 1 + 1, 2, none⟩ = some (.string xz) ∧ w'.cell? ⟨w.heap.size + 1 + 1 + 1, 3, none⟩ = some (.slice xa xl xc)) := by
        intro w' e0
        obtain ⟨y0, y1, y2, y3⟩ := HSkeep.out
        exact ⟨(World.cell?_of_block e0).trans y0, (World.cell?_of_block e0).trans y1, (World.cell?_of_block e0).trans y2, (World.cell?_of_block e0).trans y3⟩
      go_region_held3 (fun w' => w'.cell? ⟨w.heap.size + 1 + 1 + 1, 0, none⟩ = some (.int .i64 xk) ∧ w'.cell? ⟨w.heap.size + 1 + 1 + 1, 1, none⟩ = some (.int .i64 xn) ∧ w'.cell? ⟨w.heap.size + 1 + 1 + 1, 2, none⟩ = some (.string xz) ∧ w'.cell? ⟨w.heap.size + 1 + 1 + 1, 3, none⟩ = some (.slice xa xl xc))
        (first | with_reducible exact keep.out _ (hbW.block _ hfl))
        (first | (go_at_call 82; (with_reducible refine (l02Sym_any ⟨#[99, 100, 114]⟩ wr.drew).mono ?_); rintro e w3 ⟨rfl, hb3⟩; replace hbW : Below wr.heap.size wr w3 := hbW.trans (hb3.mono hbW.size)) | (go_at_call 61; (with_reducible refine (SS.out w3 (RdS_ext hrx hbW) (RdS_nil _ _ _) (ok_wf HOKX.out).1 HSW.out).mono ?_); rintro e w4 ⟨rfl, hb4⟩; replace hbW : Below wr.heap.size wr w4 := hbW.trans (hb4.mono hbW.size)))
      clear x0 x1 x2 x3 keep HSkeep
      go_wp2
      go_roundw
      case rel => exact ⟨3, by omega, by go_num, hbr.trans (hbW.mono hbr.size)⟩
      case measure => simp [intOf]
    · clear n0 n1' n2'
      have hrdN : RdS wr xs2 a2 l2 c2 F2 := RdS_grown HH2.out hFs.ext (fun x hx hh => HB2.out (hh ▸ hx))
      have hBx : B ∉ G1 := hGx.ne HB1.out HB2.out hBl
      have CE := Lib.hid (IH.out left B xk xn xz xas xa xl xc G1 k2 n2 s2 xs2 a2 l2 c2 F2 wr hlf h1000 hFs.wk hrx hrdN hBx HB2.out HOKX.out HOK2.out)
      rw [← HRR.out] at CE
      obtain ⟨f0, f1, f2, f3, fl⟩ := hFs.env
      go_wp2_with fail
      refine CE.out.mono ?_
      rintro e V1 ⟨kR, nR, zR, xsR, aR, lR, cR, FR, hrR, rfl, hrdR, hFR, hg, hl⟩
      have hsz := hFs.sz
      have hGR : Gd w F1 F2 FR := fun x hx => by
        rcases hFR x hx with h' | h'
        · rcases List.mem_append.1 h' with h' | h'
          · exact hGx x h'
          · exact .inr (.inl h')
        · exact .inr (.inr (by omega))
      replace hFs := hFs.grown hBl hg hl
      replace hrdN := RdS_grown hrdN hg (fun x hx hh => HB2.out (hh ▸ hx))
      clear f0 f1 f2 f3 fl x0 x1 x2 x3 hFR hg hl CE hrx
      have HOKR : Hid ((Tm.mk kR nR zR xsR).ok = true) := by show _ = _; rw [← hrR]; exact HGOOD.out.ok
      go_wp2_with fail
      refine (l40Form_any kR nR zR xsR aR lR cR FR ⟨#[99, 108, 111, 115, 117, 114, 101]⟩ 3 V1 hrdR HOKR.out (by omega) HNclo.out).mono ?_
      rintro e V2 ⟨hb, hor⟩
      rw [← hrR] at hor
      have hsz1 := hFs.sz
      replace hFs := hFs.below hBl hb
      replace hrdN := RdS_ext hrdN hb
      obtain ⟨m0, m1, mf, _⟩ := walk_cells hFs.wk
      have hlR := HGOOD.out.left
      rcases hor with ⟨hn, rfl⟩ | ⟨rest, ia, il, ic, iF, hsm, rfl, hird, hiF⟩
      · have HAP := Lib.hid (evApp_none (rec := ev fuel) (b := .mk yk yn yz yas) (env := (Tm.mk k2 n2 s2 xs2)) hn)
        clear hn hb
        by_cases hc0 : rR.2.1 = 0
        · have HE : Hid (rs = stuck rR.2.2) := by show _ = _; rw [HRS.out, HAP.out, if_neg (by simp [hc0])]
          rw [hc0] at hFs
          have hcd : (rR.2.1 : Int) = 0 := by simp [hc0]
          rw [hcd] at m1
          clear hc0 hcd
          go_wp2_with fail
          refine (l40Stuck_any B rR.2.2 0 V2 hFs.wk).mono ?_
          rintro e V40 ⟨k9, n9, s9, xs9, a9, l9, c9, F9, hr9, rfl, hrd9, hF9, hg9, hw9⟩
          have hs3 := hFs.sz
          replace hFs := hFs.grown hBl hg9 hw9
          have HR9 := Lib.hid hr9
          clear hr9 m0 m1 mf
          obtain ⟨r0, r1, r2, r3, rf, rl⟩ := hFs.res
          go_wp2
          rw [HE.out]
          exact bodyPost_ret (v := .agg #[.int .i64 k9, .int .i64 n9, .string s9, .slice a9 l9 c9]) (results_term rfl _ _ (w.heap.size + 1 + 1) rfl (heap_set4 hFs.b6)) rfl (hFs.out (r := stuck rR.2.2) hBl HF1.out HF2.out HR9.out rfl rfl hrd9 (fun x hx => .inr (.inr (by rcases hF9 x hx with h' | h'; cases h'; omega))))
        · have HE : Hid (rs = failV rR) := by show _ = _; rw [HRS.out, HAP.out, if_pos hc0]
          have hd : ((rR.2.1 : Int) != 0) = true := by simp; omega
          have HC0 := Lib.hid hc0
          clear hc0
          generalize hcd : (rR.2.1 : Int) = cd at *
          clear hcd
          go_wp2_with fail
          refine (l40Stuck_any B rR.2.2 rR.2.1 V2 hFs.wk).mono ?_
          rintro e V40 ⟨k9, n9, s9, xs9, a9, l9, c9, F9, hr9, rfl, hrd9, hF9, hg9, hw9⟩
          have hs3 := hFs.sz
          replace hFs := hFs.grown hBl hg9 hw9
          have HR9 := Lib.hid hr9
          clear hr9 m0 m1 mf
          obtain ⟨r0, r1, r2, r3, rf, rl⟩ := hFs.res
          go_wp2
          rw [HE.out]
          exact bodyPost_ret (v := .agg #[.int .i64 k9, .int .i64 n9, .string s9, .slice a9 l9 c9]) (results_term rfl _ _ (w.heap.size + 1 + 1) rfl (heap_set4 hFs.b6)) rfl (hFs.out (r := failV rR) hBl HF1.out HF2.out HR9.out rfl (by rw [if_neg HC0.out]; rfl) hrd9 (fun x hx => .inr (.inr (by rcases hF9 x hx with h' | h'; cases h'; omega))))
      have hc0 : rR.2.1 = 0 := by
        by_cases h' : rR.2.1 = 0
        · exact h'
        · have h2 := HGOOD.out.bad h'
          rw [h2, form_nil] at hsm; cases hsm
      obtain ⟨⟨gk, gn, gz, gas⟩, ⟨vk, vn, vz, vas⟩, ⟨uk, un, uz, uas⟩, rfl, hap⟩ := evApp_some (rec := ev fuel) (b := .mk yk yn yz yas) (env := (Tm.mk k2 n2 s2 xs2)) hsm hc0
      have HOKP : Hid (∀ a ∈ [Tm.mk gk gn gz gas, .mk vk vn vz vas, .mk uk un uz uas], a.ok = true) := fun a ha => its_ok HGOOD.out.ok a (formR_mem hsm a ha)
      rw [hc0] at hFs
      have hcd : (rR.2.1 : Int) = 0 := by simp [hc0]
      rw [hcd] at m1
      obtain ⟨rQ, hrQ⟩ : ∃ r : Res, r = ev fuel rR.2.2 (.mk yk yn yz yas) (Tm.mk k2 n2 s2 xs2) := ⟨_, rfl⟩
      rw [← hrQ, evBody_keep] at hap
      have hgoodQ : GoodR rQ rR.2.2 := by rw [hrQ]; exact ev_good fuel _ _ _ HOKY.out HOK2.out
      have HRQ := Lib.hid hrQ; have HGOODQ := Lib.hid hgoodQ
      obtain ⟨it, hit⟩ : ∃ t : Tm, t = Tm.pair (Tm.pair (.mk gk gn gz gas) rQ.1) (.mk uk un uz uas) := ⟨_, rfl⟩
      rw [← hit] at hap
      obtain ⟨rK, hrK⟩ : ∃ r : Res, r = keepS rQ.2.1 it rQ.2.2 := ⟨_, rfl⟩
      rw [← hrK] at hap
      have HAP := Lib.hid hap; have HIT := Lib.hid hit; have HRK := Lib.hid hrK
      have hGi : Gd w F1 F2 iF := fun x hx => .inr (.inr (by have := hiF x hx; omega))
      obtain rfl : il = 3 := hird.1
      obtain ⟨ib, io, rfl⟩ := RdS_addr hird (by simp)
      have hBi : B ∉ iF := hGi.ne HB1.out HB2.out hBl
      have hibm : ib ∈ iF := by
        obtain ⟨_, _, h3⟩ := hird
        rcases h3 with ⟨h4, _⟩ | ⟨_, b', o', F', ha, hF', _⟩
        · simp at h4
        · simp at ha; rw [hF', ha.1]; simp
      have hibB : ib ≠ B := fun hh => hBi (hh ▸ hibm)
      have hib6 : ib ≠ w.heap.size + 1 + 1 := hGi.ne6 HF1.out HF2.out ib hibm
      have hgeQ := HGOODQ.out.left
      clear hsm hap hit hrK hrQ hgoodQ hcd hc0 hiF hibm hb
      obtain ⟨_, _, _, p3, pl⟩ := hFs.exp
      obtain ⟨f0, f1, f2, f3, fl⟩ := hFs.env
      have xc (m : Nat) : V2.cell? ⟨b, m, none⟩ = w.cell? ⟨b, m, none⟩ := World.cell?_of_block (hFs.ext.block _ hbl (by simpa using hbB))
      have xc' (m : Nat) : V2.cell? ⟨b', m, none⟩ = w.cell? ⟨b', m, none⟩ := World.cell?_of_block (hFs.ext.block _ hbl' (by simpa using hbB'))
      have t3 := (xc _).trans HXC.out.1
      have y0 := (xc' _).trans HXC.out.2.1
      have y1 := (xc' _).trans HXC.out.2.2.1
      have y2 := (xc' _).trans HXC.out.2.2.2.1
      have y3 := (xc' _).trans HXC.out.2.2.2.2
      have hry : RdS V2 yas ya yl yc G3 := RdS_grown HHY.out hFs.ext (fun x hx hh => HB1.out (hh ▸ HG3.out x hx))
      have hbl2 : b < V2.heap.size := by have := hFs.sz; omega
      have hbl2' : b' < V2.heap.size := by have := hFs.sz; omega
      clear xc xc'
      go_upto_region 11 with fail
      clear m0 m1 mf
      go_cut [12] (fun s6 wx => SpRes V2 B w F1 F2 rQ s6 wx)
      case first => as_aux_lemma =>
        have hBe : B ∉ G3 := hGy.ne HB1.out HB2.out hBl
        have hBV : B < V2.heap.size := heap_lt hFs.wk
        have HFS := Lib.hid hFs
        have hbd : Below V2.heap.size V2 V2.drew := (Below.refl _ _).drew
        have hbz : Below V2.heap.size V2 (V2.alloc (.cells #[.int .i64 0, .int .i64 0, .string ⟨#[]⟩, .slice none 0 0] 26)).drew := ((Below.refl _ _).alloc (Nat.le_refl _) _).drew
        have CE := Lib.hid (IH.out rR.2.2 B yk yn yz yas ya yl yc G3 k2 n2 s2 xs2 a2 l2 c2 F2)
        rw [← HRQ.out] at CE
        have HSkeep : Hid (V2.cell? ⟨w.heap.size, 3, none⟩ = some (.slice (some ⟨b, o, none⟩) 2 c1) ∧ V2.cell? ⟨b, o + 4 + 3, none⟩ = some (.slice (some ⟨b', o', none⟩) 2 tc) ∧ V2.cell? ⟨b', o', none⟩ = some (.int .i64 yk) ∧ V2.cell? ⟨b', o' + 1, none⟩ = some (.int .i64 yn) ∧ V2.cell? ⟨b', o' + 2, none⟩ = some (.string yz) ∧ V2.cell? ⟨b', o' + 3, none⟩ = some (.slice ya yl yc) ∧ V2.cell? ⟨w.heap.size + 1, 0, none⟩ = some (.int .i64 k2) ∧ V2.cell? ⟨w.heap.size + 1, 1, none⟩ = some (.int .i64 n2) ∧ V2.cell? ⟨w.heap.size + 1, 2, none⟩ = some (.string s2) ∧ V2.cell? ⟨w.heap.size + 1, 3, none⟩ = some (.slice a2 l2 c2)) := ⟨p3, t3, y0, y1, y2, y3, f0, f1, f2, f3⟩
        have keep : Hid (∀ w' : World, w'.heap[w.heap.size]? = V2.heap[w.heap.size]? → w'.heap[b]? = V2.heap[b]? → w'.heap[b']? = V2.heap[b']? → w'.heap[w.heap.size + 1]? = V2.heap[w.heap.size + 1]? → w'.cell? ⟨w.heap.size, 3, none⟩ = some (.slice (some ⟨b, o, none⟩) 2 c1) ∧ w'.cell? ⟨b, o + 4 + 3, none⟩ = some (.slice (some ⟨b', o', none⟩) 2 tc) ∧ w'.cell? ⟨b', o', none⟩ = some (.int .i64 yk) ∧ w'.cell? ⟨b', o' + 1, none⟩ = some (.int .i64 yn) ∧ w'.cell? ⟨b', o' + 2, none⟩ = some (.string yz) ∧ w'.cell? ⟨b', o' + 3, none⟩ = some (.slice ya yl yc) ∧ w'.cell? ⟨w.heap.size + 1, 0, none⟩ = some (.int .i64 k2) ∧ w'.cell? ⟨w.heap.size + 1, 1, none⟩ = some (.int .i64 n2) ∧ w'.cell? ⟨w.heap.size + 1, 2, none⟩ = some (.string s2) ∧ w'.cell? ⟨w.heap.size + 1, 3, none⟩ = some (.slice a2 l2 c2)) := by
          intro w' e0 e1 e2 e3
          obtain ⟨y0, y1, y2, y3, y4, y5, y6, y7, y8, y9⟩ := HSkeep.out
          exact ⟨(World.cell?_of_block e0).trans y0, (World.cell?_of_block e1).trans y1, (World.cell?_of_block e2).trans y2, (World.cell?_of_block e2).trans y3, (World.cell?_of_block e2).trans y4, (World.cell?_of_block e2).trans y5, (World.cell?_of_block e3).trans y6, (World.cell?_of_block e3).trans y7, (World.cell?_of_block e3).trans y8, (World.cell?_of_block e3).trans y9⟩
        have hsV1 := hFs.sz
        have nE : w.heap.size ≠ B := by omega
        have nN : w.heap.size + 1 ≠ B := by omega
        have zE : w.heap.size ≠ V2.heap.size := by omega
        have zN : w.heap.size + 1 ≠ V2.heap.size := by omega
        have zb : b ≠ V2.heap.size := by omega
        have zb' : b' ≠ V2.heap.size := by omega
        have hlF : ∀ x ∈ G3, x < V2.heap.size := RdS_lt hry
        have hlN : ∀ x ∈ F2, x < V2.heap.size := fun x hx => by have := HF2.out x hx; omega
        have HLF := Lib.hid hlF; have HLN := Lib.hid hlN
        clear hlF hlN
        go_region_held3 (fun w' => w'.cell? ⟨w.heap.size, 3, none⟩ = some (.slice (some ⟨b, o, none⟩) 2 c1) ∧ w'.cell? ⟨b, o + 4 + 3, none⟩ = some (.slice (some ⟨b', o', none⟩) 2 tc) ∧ w'.cell? ⟨b', o', none⟩ = some (.int .i64 yk) ∧ w'.cell? ⟨b', o' + 1, none⟩ = some (.int .i64 yn) ∧ w'.cell? ⟨b', o' + 2, none⟩ = some (.string yz) ∧ w'.cell? ⟨b', o' + 3, none⟩ = some (.slice ya yl yc) ∧ w'.cell? ⟨w.heap.size + 1, 0, none⟩ = some (.int .i64 k2) ∧ w'.cell? ⟨w.heap.size + 1, 1, none⟩ = some (.int .i64 n2) ∧ w'.cell? ⟨w.heap.size + 1, 2, none⟩ = some (.string s2) ∧ w'.cell? ⟨w.heap.size + 1, 3, none⟩ = some (.slice a2 l2 c2))
          (first | with_reducible exact keep.out _ (hbd.block _ pl) (hbd.block _ hbl2) (hbd.block _ hbl2') (hbd.block _ fl) | with_reducible exact keep.out _ (hbz.block _ pl) (hbz.block _ hbl2) (hbz.block _ hbl2') (hbz.block _ fl) | with_reducible exact keep.out _ (hg.block _ pl (by simpa using nE)) (hg.block _ hbl2 (by simpa using hbB)) (hg.block _ hbl2' (by simpa using hbB')) (hg.block _ fl (by simpa using nN)) | with_reducible exact keep.out _ ((heap_old (Nat.lt_of_lt_of_le pl hg.size)).trans (hg.block _ pl (by simpa using nE))) ((heap_old (Nat.lt_of_lt_of_le hbl2 hg.size)).trans (hg.block _ hbl2 (by simpa using hbB))) ((heap_old (Nat.lt_of_lt_of_le hbl2' hg.size)).trans (hg.block _ hbl2' (by simpa using hbB'))) ((heap_old (Nat.lt_of_lt_of_le fl hg.size)).trans (hg.block _ fl (by simpa using nN))) | with_reducible exact keep.out _ ((heap_set4_other zE).trans (hg.block _ pl (by simpa using nE))) ((heap_set4_other zb).trans (hg.block _ hbl2 (by simpa using hbB))) ((heap_set4_other zb').trans (hg.block _ hbl2' (by simpa using hbB'))) ((heap_set4_other zN).trans (hg.block _ fl (by simpa using nN))))
          (first | (go_at_call 89; (with_reducible refine (CE.out _ (by omega) (by omega) ?_ ?_ ?_ hBe HB2.out HOKY.out HOK2.out).mono ?_); (first | exact walk_below hbd hBV HFS.out.wk | exact walk_below hbz hBV HFS.out.wk); (first | exact RdS_ext hry hbd | exact RdS_ext hry hbz); (first | exact RdS_ext hrdN hbd | exact RdS_ext hrdN hbz); rintro e w5 ⟨k9, n9, z9, xs9, a9, l9, c9, F9, hr9, rfl, hrd9, hF9, hg9, hl9⟩; (first | (have hg : V2.grownBy w5 (some B) := grown_trans (grown_below hbd _) hg9) | (have hg : V2.grownBy w5 (some B) := grown_trans (grown_below hbz _) hg9)); have hG9 : Gd w F1 F2 F9 := (fun x hx => by rcases hF9 x hx with h' | h'; (rcases List.mem_append.1 h' with h' | h'; exact hGy x h'; exact .inr (.inl h')); (simp at h'; exact .inr (.inr (by omega)))); (try (have hz : w5.heap[V2.heap.size]? = some (.cells #[.int .i64 0, .int .i64 0, .string ⟨#[]⟩, .slice none 0 0] 26 (0, 0)) := (hg9.block _ (by simp) (by simp; omega)).trans (heap_new rfl); obtain ⟨z0, z1, z2, z3, zf⟩ := box4 hz; have hzl := heap_lt hz; have HZ := Lib.hid hz; clear hz; have hne9 : ∀ x ∈ F9, x ≠ V2.heap.size := (fun x hx => by rcases hF9 x hx with h' | h'; (rcases List.mem_append.1 h' with h' | h'; (have := HLF.out x h'; omega); (have := HLN.out x h'; omega)); (simp at h'; omega))))))
        all_goals (go_wp2_with fail; go_meet; first | exact SpRes_new hr9 hrd9 hG9 hg hl9 | exact SpRes_set hr9 hrd9 hG9 hg hl9 (Nat.le_refl _) HZ.out hne9 (by omega))
      case rest =>
        obtain ⟨BQ, kQ, nQ, zQ, xsQ, aQ, lQ, cQ, FQ, rfl, hrQ, hbxQ, hGQ, hg, hl, hBvQ⟩ := hcut
        obtain ⟨V3, hVV⟩ : ∃ x : World, x = wc := ⟨_, rfl⟩
        subst hVV
        have hszV := hFs.sz
        replace hFs := hFs.grown hBl hg hl
        replace hird := RdS_grown hird hg (fun x hx hh => hBi (hh ▸ hx))
        clear p3 pl t3 y0 y1 y2 y3 hry f0 f1 f2 f3 fl hrdN hg hl hbl2 hbl2'
        obtain ⟨q0, q1, q2, q3, ql⟩ := hbxQ.cells
        obtain ⟨ga, gl, gc, gF, ⟨g0, g1, g2, g3⟩, hrg, hgF, hblg⟩ := RdS_el0 hird rfl
        obtain ⟨ua, ul, uc, uF, ⟨u0, u1, u2, u3⟩, hru, huF, hblu⟩ := RdS_el2 hird rfl
        have HKIT : Hid (it = Tm.mk 4 0 ByteArray.empty [.mk 4 0 ByteArray.empty [.mk gk gn gz gas, .mk kQ nQ zQ xsQ], .mk uk un uz uas]) := by show _ = _; rw [HIT.out, hrQ]; rfl
        have HWI : Hid ((Tm.mk 4 0 ByteArray.empty [.mk 4 0 ByteArray.empty [.mk gk gn gz gas, .mk kQ nQ zQ xsQ], .mk uk un uz uas]).wf = true ∧ (Tm.mk 4 0 ByteArray.empty [.mk 4 0 ByteArray.empty [.mk gk gn gz gas, .mk kQ nQ zQ xsQ], .mk uk un uz uas]).cnt ≤ 10000000000) := by
          have h1 := ok_wf (HOKP.out (.mk gk gn gz gas) (by simp))
          have h2 := ok_wf HGOODQ.out.ok
          rw [hrQ] at h2
          have h3 := ok_wf (HOKP.out (.mk uk un uz uas) (by simp))
          refine ⟨?_, ?_⟩
          · rw [wf_pair rfl rfl rfl, wf_pair rfl rfl rfl, h1.1, h2.1, h3.1]; rfl
          · rw [cnt_pair, cnt_pair]; omega
        have HRK2 : Hid (rK = keepS rQ.2.1 (Tm.mk 4 0 ByteArray.empty [.mk 4 0 ByteArray.empty [.mk gk gn gz gas, .mk kQ nQ zQ xsQ], .mk uk un uz uas]) rQ.2.2) := by show _ = _; rw [HRK.out, HKIT.out]
        have hGg := hGi.sub hgF
        have hGu := hGi.sub huF
        have hBQ : B ∉ FQ := hGQ.ne HB1.out HB2.out hBl
        have hsV3 := hFs.sz
        have hbqB : BQ ≠ B := by omega
        go_upto_region 12 with fail
        go_cut [13] (fun s6 wx => SpRes V3 B w F1 F2 rK s6 wx)
        case first => as_aux_lemma =>
          have hBV : B < V3.heap.size := heap_lt hFs.wk
          have HFS := Lib.hid hFs
          have hbd : Below V3.heap.size V3 V3.drew := (Below.refl _ _).drew
          have hbz : Below V3.heap.size V3 (V3.alloc (.cells #[.int .i64 0, .int .i64 0, .string ⟨#[]⟩, .slice none 0 0] 26)).drew := ((Below.refl _ _).alloc (Nat.le_refl _) _).drew
          have hbz' : Below V3.heap.size V3 (V3.alloc (.cells #[.int .i64 0, .int .i64 0, .string ⟨#[]⟩, .slice none 0 0] 26)) := (Below.refl _ _).alloc (Nat.le_refl _) _
          have hbW := hbd
          have HSkeep : Hid (V3.cell? ⟨ib, io, none⟩ = some (.int .i64 gk) ∧ V3.cell? ⟨ib, io + 1, none⟩ = some (.int .i64 gn) ∧ V3.cell? ⟨ib, io + 2, none⟩ = some (.string gz) ∧ V3.cell? ⟨ib, io + 3, none⟩ = some (.slice ga gl gc) ∧ V3.cell? ⟨ib, io + 8, none⟩ = some (.int .i64 uk) ∧ V3.cell? ⟨ib, io + 8 + 1, none⟩ = some (.int .i64 un) ∧ V3.cell? ⟨ib, io + 8 + 2, none⟩ = some (.string uz) ∧ V3.cell? ⟨ib, io + 8 + 3, none⟩ = some (.slice ua ul uc) ∧ V3.cell? ⟨BQ, 0, none⟩ = some (.int .i64 kQ) ∧ V3.cell? ⟨BQ, 1, none⟩ = some (.int .i64 nQ) ∧ V3.cell? ⟨BQ, 2, none⟩ = some (.string zQ) ∧ V3.cell? ⟨BQ, 3, none⟩ = some (.slice aQ lQ cQ)) := ⟨g0, g1, g2, g3, u0, u1, u2, u3, q0, q1, q2, q3⟩
          have keep : Hid (∀ w' : World, w'.heap[ib]? = V3.heap[ib]? → w'.heap[BQ]? = V3.heap[BQ]? → w'.cell? ⟨ib, io, none⟩ = some (.int .i64 gk) ∧ w'.cell? ⟨ib, io + 1, none⟩ = some (.int .i64 gn) ∧ w'.cell? ⟨ib, io + 2, none⟩ = some (.string gz) ∧ w'.cell? ⟨ib, io + 3, none⟩ = some (.slice ga gl gc) ∧ w'.cell? ⟨ib, io + 8, none⟩ = some (.int .i64 uk) ∧ w'.cell? ⟨ib, io + 8 + 1, none⟩ = some (.int .i64 un) ∧ w'.cell? ⟨ib, io + 8 + 2, none⟩ = some (.string uz) ∧ w'.cell? ⟨ib, io + 8 + 3, none⟩ = some (.slice ua ul uc) ∧ w'.cell? ⟨BQ, 0, none⟩ = some (.int .i64 kQ) ∧ w'.cell? ⟨BQ, 1, none⟩ = some (.int .i64 nQ) ∧ w'.cell? ⟨BQ, 2, none⟩ = some (.string zQ) ∧ w'.cell? ⟨BQ, 3, none⟩ = some (.slice aQ lQ cQ)) := by
            intro w' e0 e1
            obtain ⟨y0, y1, y2, y3, y4, y5, y6, y7, y8, y9, y10, y11⟩ := HSkeep.out
            exact ⟨(World.cell?_of_block e0).trans y0, (World.cell?_of_block e0).trans y1, (World.cell?_of_block e0).trans y2, (World.cell?_of_block e0).trans y3, (World.cell?_of_block e0).trans y4, (World.cell?_of_block e0).trans y5, (World.cell?_of_block e0).trans y6, (World.cell?_of_block e0).trans y7, (World.cell?_of_block e1).trans y8, (World.cell?_of_block e1).trans y9, (World.cell?_of_block e1).trans y10, (World.cell?_of_block e1).trans y11⟩
          have lgF := RdS_lt hrg; have luF := RdS_lt hru; have lQF := RdS_lt hbxQ.rd
          have LG := Lib.hid lgF; have LU := Lib.hid luF; have LQ := Lib.hid lQF
          clear lgF luF lQF
          go_region_held3 (fun w' => w'.cell? ⟨ib, io, none⟩ = some (.int .i64 gk) ∧ w'.cell? ⟨ib, io + 1, none⟩ = some (.int .i64 gn) ∧ w'.cell? ⟨ib, io + 2, none⟩ = some (.string gz) ∧ w'.cell? ⟨ib, io + 3, none⟩ = some (.slice ga gl gc) ∧ w'.cell? ⟨ib, io + 8, none⟩ = some (.int .i64 uk) ∧ w'.cell? ⟨ib, io + 8 + 1, none⟩ = some (.int .i64 un) ∧ w'.cell? ⟨ib, io + 8 + 2, none⟩ = some (.string uz) ∧ w'.cell? ⟨ib, io + 8 + 3, none⟩ = some (.slice ua ul uc) ∧ w'.cell? ⟨BQ, 0, none⟩ = some (.int .i64 kQ) ∧ w'.cell? ⟨BQ, 1, none⟩ = some (.int .i64 nQ) ∧ w'.cell? ⟨BQ, 2, none⟩ = some (.string zQ) ∧ w'.cell? ⟨BQ, 3, none⟩ = some (.slice aQ lQ cQ))
            (first | with_reducible exact keep.out _ (hbW.block _ hblg) (hbW.block _ ql) | with_reducible exact keep.out _ ((hbW.alloc hbW.size _).block _ hblg) ((hbW.alloc hbW.size _).block _ ql) | with_reducible exact keep.out _ (hbz.block _ hblg) (hbz.block _ ql) | with_reducible exact keep.out _ (hbz'.block _ hblg) (hbz'.block _ ql) | with_reducible exact keep.out _ (hg.block _ hblg (by simpa using hibB)) (hg.block _ ql (by simpa using hbqB)) | with_reducible exact keep.out _ ((heap_old (Nat.lt_of_lt_of_le hblg hg.size)).trans (hg.block _ hblg (by simpa using hibB))) ((heap_old (Nat.lt_of_lt_of_le ql hg.size)).trans (hg.block _ ql (by simpa using hbqB))) | with_reducible exact keep.out _ ((heap_set4_other (by omega)).trans (hg.block _ hblg (by simpa using hibB))) ((heap_set4_other (by omega)).trans (hg.block _ ql (by simpa using hbqB))))
            (first | (go_at_call 72; (with_reducible refine (l02Pair_any gk gn kQ nQ gz zQ ga aQ gl gc lQ cQ _).mono ?_); rintro e v3 ⟨b3, rfl, hb3l, hrow3, hb3⟩; (try (have hz1 : v3.heap[V3.heap.size]? = some (.cells #[.int .i64 0, .int .i64 0, .string ⟨#[]⟩, .slice none 0 0] 26 (0, 0)) := (hb3.block _ (by simp)).trans (heap_new rfl); have hBz : V3.heap.size ≤ V3.heap.size := Nat.le_refl _)); have hb3V : V3.heap.size ≤ b3 := (by simp at hb3l; omega); (first | replace hbW : Below V3.heap.size V3 v3 := hbd.trans (hb3.mono hbd.size) | replace hbW : Below V3.heap.size V3 v3 := hbz.trans (hb3.mono hbz.size)); have hrp := RdS_two hrow3 (Nat.le_refl 2) (RdS_ext hrg hbW) (RdS_ext hbxQ.rd hbW); have hzb : ∀ y, v3.heap[y]? = some (.cells #[.int .i64 0, .int .i64 0, .string ⟨#[]⟩, .slice none 0 0] 26 (0, 0)) → y < b3 ∨ b3 < y := (fun y hy => by rcases Nat.lt_trichotomy y b3 with h' | h' | h'; exact .inl h'; (subst h'; rw [hrow3] at hy; simp at hy); exact .inr h')) | (go_at_call 72; (with_reducible refine (l02Pair_any 4 0 uk un ByteArray.empty uz (some ⟨b3, 0, none⟩) ua 2 2 ul uc _).mono ?_); rintro e v4 ⟨b4, rfl, hb4l, hrow4, hb4⟩; (try (have hz2 : v4.heap[V3.heap.size]? = some (.cells #[.int .i64 0, .int .i64 0, .string ⟨#[]⟩, .slice none 0 0] 26 (0, 0)) := (hb4.block _ (heap_lt hz1)).trans hz1)); (try (have hz2 : v4.heap[v3.heap.size]? = some (.cells #[.int .i64 0, .int .i64 0, .string ⟨#[]⟩, .slice none 0 0] 26 (0, 0)) := (hb4.block _ (by simp)).trans (heap_new rfl); have hBz : V3.heap.size ≤ v3.heap.size := hbW.size)); have hb3s := heap_lt hrow3; (first | have hrp' := RdS_ext hrp hb4 | have hrp' := RdS_ext (RdS_ext hrp ((Below.refl _ _).alloc (Nat.le_refl _) _)) hb4); (first | replace hbW : Below V3.heap.size V3 v4 := hbW.trans (hb4.mono hbW.size) | replace hbW : Below V3.heap.size V3 v4 := (hbW.alloc hbW.size _).trans (hb4.mono (hbW.alloc hbW.size _).size)); have hrp2 := RdS_two hrow4 (Nat.le_refl 2) hrp' (RdS_ext hru hbW); have hb4V : v3.heap.size ≤ b4 := (by first | exact hb4l | (simp at hb4l; omega))) | (go_at_call 106; (with_reducible refine (l40Keep_any B rQ.2.2 rQ.2.1 4 0 ByteArray.empty [.mk 4 0 ByteArray.empty [.mk gk gn gz gas, .mk kQ nQ zQ xsQ], .mk uk un uz uas] (some ⟨b4, 0, none⟩) 2 2 (b4 :: ((b3 :: (gF ++ FQ)) ++ uF)) _ ?_ ?_ HWI.out.1 HWI.out.2).mono ?_); (first | exact walk_below hbW hBV HFS.out.wk | exact walk_below (hbW.alloc hbW.size _) hBV HFS.out.wk); (first | exact hrp2 | exact RdS_ext hrp2 ((Below.refl _ _).alloc (Nat.le_refl _) _)); rw [← HRK2.out]; rintro e v5 ⟨k9, n9, z9, xs9, a9, l9, c9, F9, hr9, rfl, hrd9, hF9, hg9, hl9⟩; have hb4s := heap_lt hrow4; (try (have hz : v5.heap[V3.heap.size]? = some (.cells #[.int .i64 0, .int .i64 0, .string ⟨#[]⟩, .slice none 0 0] 26 (0, 0)) := (hg9.block _ (heap_lt hz2) (by simp; omega)).trans hz2; obtain ⟨z0, z1, z2, z3, zf⟩ := box4 hz; have hzl := heap_lt hz; have HZ := Lib.hid hz; clear hz)); (try (have hz : v5.heap[v3.heap.size]? = some (.cells #[.int .i64 0, .int .i64 0, .string ⟨#[]⟩, .slice none 0 0] 26 (0, 0)) := (hg9.block _ (heap_lt hz2) (by simp; omega)).trans hz2; obtain ⟨z0, z1, z2, z3, zf⟩ := box4 hz; have hzl := heap_lt hz; have HZ := Lib.hid hz; clear hz)); (try (have hz : v5.heap[v4.heap.size]? = some (.cells #[.int .i64 0, .int .i64 0, .string ⟨#[]⟩, .slice none 0 0] 26 (0, 0)) := (hg9.block _ (by simp) (by simp; omega)).trans (heap_new rfl); have hBz : V3.heap.size ≤ v4.heap.size := hbW.size; obtain ⟨z0, z1, z2, z3, zf⟩ := box4 hz; have hzl := heap_lt hz; have HZ := Lib.hid hz; clear hz)); (first | have hg : V3.grownBy v5 (some B) := grown_trans (grown_below hbW _) hg9 | have hg : V3.grownBy v5 (some B) := grown_trans (grown_below (hbW.alloc hbW.size _) _) hg9)))
          all_goals (have hG9 : Gd w F1 F2 F9 := (fun x hx => by rcases hF9 x hx with hm | hm; (simp at hm; rcases hm with rfl | rfl | hm | hm | hm; (exact .inr (.inr (by omega))); (exact .inr (.inr (by omega))); (exact hGg x hm); (exact hGQ x hm); (exact hGu x hm)); (have := hbW.size; (try simp at hm); exact .inr (.inr (by omega)))))
          all_goals (go_wp2_with fail; go_meet)
          all_goals (first | exact SpRes_new hr9 hrd9 hG9 hg hl9 | (refine SpRes_set hr9 hrd9 hG9 hg hl9 hBz HZ.out (fun x hx => ?_) (by omega); rcases hF9 x hx with hm | hm; (simp at hm; rcases hm with rfl | rfl | hm | hm | hm <;> first | (have := LG.out x hm; omega) | (have := LQ.out x hm; omega) | (have := LU.out x hm; omega) | omega | (intro hh; subst hh; simp_all)); (have := hbW.size; have := heap_lt hrow4; (try simp at hm); omega)))
        case rest =>
          obtain ⟨BI, kI, nI, zI, xsI, aI, lI, cI, FI, rfl, hrI, hbxI, hGI, hg, hl, hBvI⟩ := hcut
          obtain ⟨V4, hVV⟩ : ∃ x : World, x = wc := ⟨_, rfl⟩
          subst hVV
          replace hFs := hFs.grown hBl hg hl
          replace hird := RdS_grown hird hg (fun x hx hh => hBi (hh ▸ hx))
          clear q0 q1 q2 q3 ql hg hl
          clear g0 g1 g2 g3 hrg hgF hblg u0 u1 u2 u3 hru huF hblu
          obtain ⟨m0, m1, mf, _⟩ := walk_cells hFs.wk
          obtain ⟨r0, r1, r2, r3, rf, rl⟩ := hFs.res
          by_cases hk0 : rK.2.1 = 0
          case neg => as_aux_lemma =>
            have HE : Hid (rs = (Tm.nil, rK.2.1, rK.2.2)) := by show _ = _; rw [HRS.out, HAP.out, if_neg hk0]
            have hd : ((rK.2.1 : Int) != 0) = true := by simp; omega
            clear hk0
            generalize hcd : (rK.2.1 : Int) = cd at *
            clear hcd
            go_wp2
            rw [HE.out]
            exact bodyPost_ret (v := .agg #[.int .i64 0, .int .i64 0, .string ⟨#[]⟩, .slice none 0 0]) (results_term rfl _ _ (w.heap.size + 1 + 1) rfl (heap_set4 hFs.b6)) rfl (hFs.out (r := (Tm.nil, rK.2.1, rK.2.2)) (xs := []) (F := []) hBl HF1.out HF2.out rfl rfl rfl (RdS_nil _ _ _) (by intro x hx; cases hx))
          have hkz := keepS_zero (by rw [← HRK.out]; exact hk0)
          rw [← HRK.out] at hkz
          have HE : Hid (rs = ev fuel rQ.2.2 (.mk vk vn vz vas) it) := by show _ = _; rw [HRS.out, HAP.out, if_pos hk0]
          have HOKI : Hid ((Tm.mk kI nI zI xsI).ok = true) := by show _ = _; rw [← hrI, hkz.1]; exact hkz.2.2
          have HII : Hid (it = .mk kI nI zI xsI) := by show _ = _; rw [← hrI, hkz.1]
          have hcd : (rK.2.1 : Int) = 0 := by simp [hk0]
          rw [hcd] at m1
          rw [hk0, hkz.2.1] at hFs
          have HOKV := Lib.hid (HOKP.out (.mk vk vn vz vas) (by simp))
          obtain ⟨rT, hrT⟩ : ∃ r : Res, r = ev fuel rQ.2.2 (.mk vk vn vz vas) (.mk kI nI zI xsI) := ⟨_, rfl⟩
          have HRT := Lib.hid hrT
          rw [HII.out, ← hrT] at HE
          have hBnI : B ∉ FI := hGI.ne HB1.out HB2.out hBl
          have hneI : BI ≠ B := by omega
          have hneI6 : BI ≠ w.heap.size + 1 + 1 := by omega
          clear hkz hk0 hcd hrT
          obtain ⟨va, vl, vc, vF, ⟨v0, v1, v2, v3⟩, hrv, hvF, hblv⟩ := RdS_el1 hird rfl
          obtain ⟨i0, i1, i2, i3, il⟩ := hbxI.cells
          go_upto_region 15 with fail
          clear m0 m1 mf r0 r1 r2 r3 rf rl
          have hGe := hGi.sub hvF
          have hBe : B ∉ vF := hGe.ne HB1.out HB2.out hBl
          have hBV : B < V4.heap.size := heap_lt hFs.wk
          have HFS := Lib.hid hFs
          have hbd : Below V4.heap.size V4 V4.drew := (Below.refl _ _).drew
          have CE := Lib.hid (IH.out rQ.2.2 B vk vn vz vas va vl vc vF kI nI zI xsI aI lI cI FI V4.drew (by omega) (by omega) (walk_below hbd hBV HFS.out.wk) (RdS_ext hrv hbd) (RdS_ext hbxI.rd hbd) hBe hBnI HOKV.out HOKI.out)
          rw [← HRT.out] at CE
          have hsV1 := hFs.sz
          have HSkeep : Hid (V4.cell? ⟨ib, io + 4, none⟩ = some (.int .i64 vk) ∧ V4.cell? ⟨ib, io + 4 + 1, none⟩ = some (.int .i64 vn) ∧ V4.cell? ⟨ib, io + 4 + 2, none⟩ = some (.string vz) ∧ V4.cell? ⟨ib, io + 4 + 3, none⟩ = some (.slice va vl vc) ∧ V4.cell? ⟨BI, 0, none⟩ = some (.int .i64 kI) ∧ V4.cell? ⟨BI, 1, none⟩ = some (.int .i64 nI) ∧ V4.cell? ⟨BI, 2, none⟩ = some (.string zI) ∧ V4.cell? ⟨BI, 3, none⟩ = some (.slice aI lI cI)) := ⟨v0, v1, v2, v3, i0, i1, i2, i3⟩
          have keep : Hid (∀ w' : World, w'.heap[ib]? = V4.heap[ib]? → w'.heap[BI]? = V4.heap[BI]? → w'.cell? ⟨ib, io + 4, none⟩ = some (.int .i64 vk) ∧ w'.cell? ⟨ib, io + 4 + 1, none⟩ = some (.int .i64 vn) ∧ w'.cell? ⟨ib, io + 4 + 2, none⟩ = some (.string vz) ∧ w'.cell? ⟨ib, io + 4 + 3, none⟩ = some (.slice va vl vc) ∧ w'.cell? ⟨BI, 0, none⟩ = some (.int .i64 kI) ∧ w'.cell? ⟨BI, 1, none⟩ = some (.int .i64 nI) ∧ w'.cell? ⟨BI, 2, none⟩ = some (.string zI) ∧ w'.cell? ⟨BI, 3, none⟩ = some (.slice aI lI cI)) := by
            intro w' e0 e1
            obtain ⟨y0, y1, y2, y3, y4, y5, y6, y7⟩ := HSkeep.out
            exact ⟨(World.cell?_of_block e0).trans y0, (World.cell?_of_block e0).trans y1, (World.cell?_of_block e0).trans y2, (World.cell?_of_block e0).trans y3, (World.cell?_of_block e1).trans y4, (World.cell?_of_block e1).trans y5, (World.cell?_of_block e1).trans y6, (World.cell?_of_block e1).trans y7⟩
          go_region_held3 (fun w' => w'.cell? ⟨ib, io + 4, none⟩ = some (.int .i64 vk) ∧ w'.cell? ⟨ib, io + 4 + 1, none⟩ = some (.int .i64 vn) ∧ w'.cell? ⟨ib, io + 4 + 2, none⟩ = some (.string vz) ∧ w'.cell? ⟨ib, io + 4 + 3, none⟩ = some (.slice va vl vc) ∧ w'.cell? ⟨BI, 0, none⟩ = some (.int .i64 kI) ∧ w'.cell? ⟨BI, 1, none⟩ = some (.int .i64 nI) ∧ w'.cell? ⟨BI, 2, none⟩ = some (.string zI) ∧ w'.cell? ⟨BI, 3, none⟩ = some (.slice aI lI cI))
            (first | with_reducible exact keep.out _ (hbd.block _ hblv) (hbd.block _ il) | with_reducible exact keep.out _ (hg.block _ hblv (by simpa using hibB)) (hg.block _ il (by simpa using hneI)) | with_reducible exact keep.out _ ((heap_set4_other hib6).trans (hg.block _ hblv (by simpa using hibB))) ((heap_set4_other hneI6).trans (hg.block _ il (by simpa using hneI))))
            (first | (go_at_call 89; (with_reducible refine CE.out.mono ?_); rintro e w5 ⟨k9, n9, z9, xs9, a9, l9, c9, F9, hr9, rfl, hrd9, hF9, hg9, hl9⟩; have hg : V4.grownBy w5 (some B) := grown_trans (grown_below hbd _) hg9; have hG9 : Gd w F1 F2 F9 := (fun x hx => by rcases hF9 x hx with h' | h'; (rcases List.mem_append.1 h' with h' | h'; exact hGe x h'; exact hGI x h'); (simp at h'; exact .inr (.inr (by omega)))); have hFs5 := HFS.out.grown hBl hg hl9; obtain ⟨t0, t1, t2, t3, tf, tl⟩ := hFs5.res))
          replace hFs := hFs5
          have rl := tl
          have HR9 := Lib.hid hr9
          clear hr9
          go_wp2
          rw [HE.out]
          exact bodyPost_ret (v := .agg #[.int .i64 k9, .int .i64 n9, .string z9, .slice a9 l9 c9]) (results_term rfl _ _ (w.heap.size + 1 + 1) rfl (heap_set4 hFs.b6)) rfl (hFs.out (r := rT) hBl HF1.out HF2.out HR9.out rfl rfl hrd9 hG9)
end Go.Proofs.Ytjkabbkaeioibaa
namespace Go.Proofs.Ytjkabbkaeioibaa
open Go.RowKit
set_option linter.unusedVariables false

set_option maxHeartbeats 8000000 in
set_option maxRecDepth 200000 in
theorem sp_app (fuel : Nat) (ih : EvalS fuel) (left B : Nat) (k1 n1 : Int) (s1 : ByteArray) (xs1 : List Tm) (a1 : Option Addr) (l1 c1 : Nat) (F1 : List Nat) (k2 n2 : Int) (s2 : ByteArray) (xs2 : List Tm) (a2 : Option Addr) (l2 c2 : Nat) (F2 : List Nat) (w : World)
    (hlf : left ≤ fuel) (h1000 : left + 1 ≤ 1000) (hw : WalkAt w B (left + 1) 0) (h1 : RdS w xs1 a1 l1 c1 F1) (h2 : RdS w xs2 a2 l2 c2 F2) (hB1 : B ∉ F1) (hB2 : B ∉ F2) (hok1 : (Tm.mk k1 n1 s1 xs1).ok = true) (hok2 : (Tm.mk k2 n2 s2 xs2).ok = true) (hk : k1 ≠ 2) (htl : (Tm.mk k1 n1 s1 xs1).tl.kind = 0) (xk xn : Int) (xz : ByteArray) (xas : List Tm) (yk yn : Int) (yz : ByteArray) (yas : List Tm) (hits : (Tm.mk k1 n1 s1 xs1).its = [.mk xk xn xz xas, .mk yk yn yz yas]) (hq : isSym (.mk xk xn xz xas) ⟨#[113, 117, 111, 116, 101]⟩ = false) (hc : isSym (.mk xk xn xz xas) ⟨#[99, 97, 114]⟩ = false) (hd : isSym (.mk xk xn xz xas) ⟨#[99, 100, 114]⟩ = false) :
    Calls Try.prog 89 #[.pointer (some ⟨B, 0, none⟩), .agg #[.int .i64 k1, .int .i64 n1, .string s1, .slice a1 l1 c1], .agg #[.int .i64 k2, .int .i64 n2, .string s2, .slice a2 l2 c2]] w
      (SpOut w B (F1 ++ F2) (evStep (ev fuel) left (.mk k1 n1 s1 xs1) (.mk k2 n2 s2 xs2))) := by
  have hres : evStep (ev fuel) left (.mk k1 n1 s1 xs1) (.mk k2 n2 s2 xs2) = evApp (ev fuel) (ev fuel left (.mk xk xn xz xas) (Tm.mk k2 n2 s2 xs2)) (.mk yk yn yz yas) (Tm.mk k2 n2 s2 xs2) := by
    rw [evStep_list (show (Tm.mk k1 n1 s1 xs1).kind ≠ 2 from hk) htl]
    rw [hits, evForm, if_neg (by simp [hq]), if_neg (by simp [hc, hd])]
  rw [hres]
  have hk' : (k1 == 2) = false := by simpa using hk
  clear hres hk
  have HFe : Hid (formR (.mk k1 n1 s1 xs1) ⟨#[]⟩ 1 = some [.mk yk yn yz yas]) := formR_hit hits rfl htl (.inl rfl)
  have HFlam : Hid (formR (.mk k1 n1 s1 xs1) ⟨#[108, 97, 109, 98, 100, 97]⟩ 2 = none) := formR_len (by rw [hits]; simp)
  have HFcons : Hid (formR (.mk k1 n1 s1 xs1) ⟨#[99, 111, 110, 115]⟩ 2 = none) := formR_len (by rw [hits]; simp)
  have HFcar : Hid (formR (.mk k1 n1 s1 xs1) ⟨#[99, 97, 114]⟩ 1 = none) := formR_sym hits hc (by decide)
  have HFcdr : Hid (formR (.mk k1 n1 s1 xs1) ⟨#[99, 100, 114]⟩ 1 = none) := formR_sym hits hd (by decide)
  have HFiff : Hid (formR (.mk k1 n1 s1 xs1) ⟨#[105, 102]⟩ 3 = none) := formR_len (by rw [hits]; simp)
  have HITS := Lib.hid hits
  have HFquote : Hid (formR (.mk k1 n1 s1 xs1) ⟨#[113, 117, 111, 116, 101]⟩ 1 = none) := formR_sym hits hq (by decide)
  have HQ := Lib.hid hq; have HC := Lib.hid hc; have HD := Lib.hid hd
  obtain ⟨rs, hrs⟩ : ∃ r : Res, r = evApp (ev fuel) (ev fuel left (.mk xk xn xz xas) (Tm.mk k2 n2 s2 xs2)) (.mk yk yn yz yas) (Tm.mk k2 n2 s2 xs2) := ⟨_, rfl⟩
  rw [← hrs]
  have HRS := Lib.hid hrs
  clear htl hits hq hc hd hrs
  have HNquote : Hid (((⟨#[113, 117, 111, 116, 101]⟩ : ByteArray)).size = 0 ∨ (((⟨#[113, 117, 111, 116, 101]⟩ : ByteArray)).toList.isEmpty = false ∧ (Tm.sym ⟨#[113, 117, 111, 116, 101]⟩).wf = true)) := .inr (by decide +kernel)
  have HNlam : Hid (((⟨#[108, 97, 109, 98, 100, 97]⟩ : ByteArray)).size = 0 ∨ (((⟨#[108, 97, 109, 98, 100, 97]⟩ : ByteArray)).toList.isEmpty = false ∧ (Tm.sym ⟨#[108, 97, 109, 98, 100, 97]⟩).wf = true)) := .inr (by decide +kernel)
  have HNcons : Hid (((⟨#[99, 111, 110, 115]⟩ : ByteArray)).size = 0 ∨ (((⟨#[99, 111, 110, 115]⟩ : ByteArray)).toList.isEmpty = false ∧ (Tm.sym ⟨#[99, 111, 110, 115]⟩).wf = true)) := .inr (by decide +kernel)
  have HNcar : Hid (((⟨#[99, 97, 114]⟩ : ByteArray)).size = 0 ∨ (((⟨#[99, 97, 114]⟩ : ByteArray)).toList.isEmpty = false ∧ (Tm.sym ⟨#[99, 97, 114]⟩).wf = true)) := .inr (by decide +kernel)
  have HNcdr : Hid (((⟨#[99, 100, 114]⟩ : ByteArray)).size = 0 ∨ (((⟨#[99, 100, 114]⟩ : ByteArray)).toList.isEmpty = false ∧ (Tm.sym ⟨#[99, 100, 114]⟩).wf = true)) := .inr (by decide +kernel)
  have HNiff : Hid (((⟨#[105, 102]⟩ : ByteArray)).size = 0 ∨ (((⟨#[105, 102]⟩ : ByteArray)).toList.isEmpty = false ∧ (Tm.sym ⟨#[105, 102]⟩).wf = true)) := .inr (by decide +kernel)
  have HNempty : Hid (((⟨#[]⟩ : ByteArray)).size = 0 ∨ (((⟨#[]⟩ : ByteArray)).toList.isEmpty = false ∧ (Tm.sym ⟨#[]⟩).wf = true)) := .inl rfl
  obtain ⟨m0, m1, mf, hBl⟩ := walk_cells hw
  have hBw1 : B < w.heap.size + 1 := by omega
  have hBw2 : B < w.heap.size + 1 + 1 := by omega
  have hBw3 : B < w.heap.size + 1 + 1 + 1 := by omega
  obtain ⟨lf, hlfe⟩ : ∃ lf : Int, lf = ((left + 1 : Nat) : Int) := ⟨_, rfl⟩
  rw [← hlfe] at m0
  have hz0 : (lf == 0) = false := by simp; omega
  have hlf1 : 1 ≤ lf := by omega
  have hlf2 : lf ≤ 1000 := by omega
  have m1' : w.cell? ⟨B, 1, none⟩ = some (.int .i64 0) := m1
  have HW := Lib.hid hw; have HF1 := Lib.hid (RdS_lt h1); have HF2 := Lib.hid (RdS_lt h2); have IH := Lib.hid ih
  have HH1 := Lib.hid h1; have HH2 := Lib.hid h2; have HOK1 := Lib.hid hok1; have HOK2 := Lib.hid hok2; have HB1 := Lib.hid hB1; have HB2 := Lib.hid hB2; have HLF := Lib.hid hlfe
  clear hlfe hw m1 ih h1 h2 hok1 hok2 hB1 hB2
  go_enter Try.func89, Try.ntmps89
  go_wp2_with fail
  have hFs : Fs w ((((w.setCell ⟨B, 0, none⟩ (.int .i64 (lf - 1))).alloc (.cells #[.int .i64 k1, .int .i64 n1, .string s1, .slice a1 l1 c1] 26)).alloc (.cells #[.int .i64 k2, .int .i64 n2, .string s2, .slice a2 l2 c2] 26)).alloc (.cells #[.int .i64 0, .int .i64 0, .string ⟨#[]⟩, .slice none 0 0] 26)) B left 0 k1 n1 s1 a1 l1 c1 k2 n2 s2 a2 l2 c2 := by
    have hs : (w.setCell ⟨B, 0, none⟩ (.int .i64 (lf - 1))).heap.size = w.heap.size := by simp [World.setCell]
    refine ⟨?_, ?_, ?_, ?_, ?_, ?_⟩
    · rw [heap_old (by simp [World.setCell]; omega), heap_old (by simp [World.setCell])]; exact heap_new hs.symm
    · rw [heap_old (by simp [World.setCell])]; exact heap_new (by simp [World.setCell])
    · exact heap_new (by simp [World.setCell])
    · show _ = _
      rw [heap_old (by simp [World.setCell]; omega), heap_old (by simp [World.setCell]; omega), heap_old (by rw [hs]; exact hBl)]
      have h0 := heap_set (o := 0) (.int .i64 (lf - 1)) HW.out
      rw [h0, HLF.out]
      have he : ((left + 1 : Nat) : Int) - 1 = (left : Int) := by omega
      rw [he]; rfl
    · exact ⟨rfl, rfl, rfl, by simp [World.setCell]; omega, fun x hx hr => by
        rw [heap_old (by simp [World.setCell]; omega), heap_old (by simp [World.setCell]; omega), heap_old (by rw [hs]; exact hx)]
        exact heap_set_other _ (by simpa using hr)⟩
    · simp [World.setCell]
  generalize ((((w.setCell ⟨B, 0, none⟩ (.int .i64 (lf - 1))).alloc (.cells #[.int .i64 k1, .int .i64 n1, .string s1, .slice a1 l1 c1] 26)).alloc (.cells #[.int .i64 k2, .int .i64 n2, .string s2, .slice a2 l2 c2] 26)).alloc (.cells #[.int .i64 0, .int .i64 0, .string ⟨#[]⟩, .slice none 0 0] 26)) = V at *
  have hrdE : RdS V xs1 a1 l1 c1 F1 := RdS_grown HH1.out hFs.ext (fun x hx hh => HB1.out (hh ▸ hx))
  have hrdN : RdS V xs2 a2 l2 c2 F2 := RdS_grown HH2.out hFs.ext (fun x hx hh => HB2.out (hh ▸ hx))
  clear m0 m1' mf
  obtain ⟨p0, p1, p2, p3, pl⟩ := hFs.exp
  go_wp2_with fail
  refine (l40Form_any k1 n1 s1 xs1 a1 l1 c1 F1 ⟨#[113, 117, 111, 116, 101]⟩ 1 V hrdE HOK1.out (by omega) HNquote.out).mono ?_
  rintro e V1 ⟨hb, hor⟩
  rw [HFquote.out] at hor
  obtain rfl : e = .returned (.tuple #[.slice none 0 0, .bool false]) := by
    rcases hor with ⟨_, h'⟩ | ⟨_, _, _, _, _, h', _⟩
    · exact h'
    · cases h'
  replace hFs := hFs.below hBl hb
  replace hrdE := RdS_ext hrdE hb
  replace hrdN := RdS_ext hrdN hb
  have hbQ := hb
  clear p0 p1 p2 p3 pl hb hor
  obtain ⟨p0, p1, p2, p3, pl⟩ := hFs.exp
  go_wp2_with fail
  refine (l40Form_any k1 n1 s1 xs1 a1 l1 c1 F1 ⟨#[108, 97, 109, 98, 100, 97]⟩ 2 V1 hrdE HOK1.out (by omega) HNlam.out).mono ?_
  rintro e V2 ⟨hb, hor⟩
  rw [HFlam.out] at hor
  obtain rfl : e = .returned (.tuple #[.slice none 0 0, .bool false]) := by
    rcases hor with ⟨_, h'⟩ | ⟨_, _, _, _, _, h', _⟩
    · exact h'
    · cases h'
  replace hFs := hFs.below hBl hb
  replace hrdE := RdS_ext hrdE hb
  replace hrdN := RdS_ext hrdN hb
  have hbQ := hb
  clear p0 p1 p2 p3 pl hb hor
  obtain ⟨p0, p1, p2, p3, pl⟩ := hFs.exp
  go_wp2_with fail
  refine (l40Form_any k1 n1 s1 xs1 a1 l1 c1 F1 ⟨#[99, 111, 110, 115]⟩ 2 V2 hrdE HOK1.out (by omega) HNcons.out).mono ?_
  rintro e V3 ⟨hb, hor⟩
  rw [HFcons.out] at hor
  obtain rfl : e = .returned (.tuple #[.slice none 0 0, .bool false]) := by
    rcases hor with ⟨_, h'⟩ | ⟨_, _, _, _, _, h', _⟩
    · exact h'
    · cases h'
  replace hFs := hFs.below hBl hb
  replace hrdE := RdS_ext hrdE hb
  replace hrdN := RdS_ext hrdN hb
  have hbQ := hb
  clear p0 p1 p2 p3 pl hb hor
  go_wp2_with fail
  have hbN : Below V3.heap.size V3 (V3.alloc (.cells #[.string ⟨#[99, 97, 114]⟩, .string ⟨#[99, 100, 114]⟩] 9)) := (Below.refl _ _).alloc (Nat.le_refl _) _
  have hNb : (V3.alloc (.cells #[.string ⟨#[99, 97, 114]⟩, .string ⟨#[99, 100, 114]⟩] 9)).heap[V3.heap.size]? = some (.cells #[.string ⟨#[99, 97, 114]⟩, .string ⟨#[99, 100, 114]⟩] 9 (0, 0)) := heap_new rfl
  generalize V3.alloc (.cells #[.string ⟨#[99, 97, 114]⟩, .string ⟨#[99, 100, 114]⟩] 9) = N at *
  replace hFs := hFs.below hBl hbN
  replace hrdE := RdS_ext hrdE hbN
  replace hrdN := RdS_ext hrdN hbN
  have HNB := Lib.hid hNb
  have hnbl := heap_lt hNb
  have HST := Lib.hid hFs; have HSE := Lib.hid hrdE; have HSN := Lib.hid hrdN
  clear hbN hNb hFs hrdE hrdN
  go_loopw [146] (fun iv wr => ∃ j : Nat, j ≤ 2 ∧ iv = .int .i64 j ∧ Below N.heap.size N wr) (fun iv _ => 2 - (intOf iv).toNat)
  case atStart => exact ⟨0, by omega, rfl, Below.refl _ _⟩
  case round =>
    obtain ⟨j, hj, rfl, hbr⟩ := hrel
    have hFs := HST.out.below hBl hbr
    have hrdE := RdS_ext HSE.out hbr
    have hrdN := RdS_ext HSN.out hbr
    have hnr := (hbr.block _ hnbl).trans HNB.out
    have n0 : wr.cell? ⟨V3.heap.size, 0, none⟩ = some (.string ⟨#[99, 97, 114]⟩) := by simpa using cell_of_block hnr 0
    have n1' : wr.cell? ⟨V3.heap.size, 1, none⟩ = some (.string ⟨#[99, 100, 114]⟩) := by simpa using cell_of_block hnr 1
    clear hnr
    rcases (show j = 0 ∨ j = 1 ∨ j = 2 by omega) with rfl | rfl | rfl
    · skip
      obtain ⟨p0, p1, p2, p3, pl⟩ := hFs.exp
      go_wp2_with fail
      refine (l40Form_any k1 n1 s1 xs1 a1 l1 c1 F1 ⟨#[99, 97, 114]⟩ 1 wr hrdE HOK1.out (by omega) HNcar.out).mono ?_
      rintro e V21 ⟨hb, hor⟩
      rw [HFcar.out] at hor
      obtain rfl : e = .returned (.tuple #[.slice none 0 0, .bool false]) := by
        rcases hor with ⟨_, h'⟩ | ⟨_, _, _, _, _, h', _⟩
        · exact h'
        · cases h'
      replace hFs := hFs.below hBl hb
      replace hrdE := RdS_ext hrdE hb
      replace hrdN := RdS_ext hrdN hb
      have hbQ := hb
      clear p0 p1 p2 p3 pl hb hor
      go_wp2
      go_roundw
      case rel => exact ⟨1, by omega, by go_num, hbr.trans (hbQ.mono hbr.size)⟩
      case measure => simp [intOf]
    · skip
      obtain ⟨p0, p1, p2, p3, pl⟩ := hFs.exp
      go_wp2_with fail
      refine (l40Form_any k1 n1 s1 xs1 a1 l1 c1 F1 ⟨#[99, 100, 114]⟩ 1 wr hrdE HOK1.out (by omega) HNcdr.out).mono ?_
      rintro e V21 ⟨hb, hor⟩
      rw [HFcdr.out] at hor
      obtain rfl : e = .returned (.tuple #[.slice none 0 0, .bool false]) := by
        rcases hor with ⟨_, h'⟩ | ⟨_, _, _, _, _, h', _⟩
        · exact h'
        · cases h'
      replace hFs := hFs.below hBl hb
      replace hrdE := RdS_ext hrdE hb
      replace hrdN := RdS_ext hrdN hb
      have hbQ := hb
      clear p0 p1 p2 p3 pl hb hor
      go_wp2
      go_roundw
      case rel => exact ⟨2, by omega, by go_num, hbr.trans (hbQ.mono hbr.size)⟩
      case measure => simp [intOf]
    · clear n0 n1'
      obtain ⟨p0, p1, p2, p3, pl⟩ := hFs.exp
      go_wp2_with fail
      refine (l40Form_any k1 n1 s1 xs1 a1 l1 c1 F1 ⟨#[105, 102]⟩ 3 wr hrdE HOK1.out (by omega) HNiff.out).mono ?_
      rintro e V31 ⟨hb, hor⟩
      rw [HFiff.out] at hor
      obtain rfl : e = .returned (.tuple #[.slice none 0 0, .bool false]) := by
        rcases hor with ⟨_, h'⟩ | ⟨_, _, _, _, _, h', _⟩
        · exact h'
        · cases h'
      replace hFs := hFs.below hBl hb
      replace hrdE := RdS_ext hrdE hb
      replace hrdN := RdS_ext hrdN hb
      have hbQ := hb
      clear p0 p1 p2 p3 pl hb hor
      obtain ⟨p0, p1, p2, p3, pl⟩ := hFs.exp
      have hsVh := hFs.sz
      go_wp2_with fail
      refine (l40Form_any k1 n1 s1 xs1 a1 l1 c1 F1 ⟨#[]⟩ 1 V31 hrdE HOK1.out (by omega) HNempty.out).mono ?_
      rintro e V32 ⟨hb, hor⟩
      rw [HFe.out] at hor
      obtain ⟨ia, il, ic, iF, rfl, hird, hiF⟩ : ∃ a l c F, e = .returned (.tuple #[.slice a l c, .bool true]) ∧ RdS V32 [.mk yk yn yz yas] a l c F ∧ ∀ x ∈ F, V31.heap.size ≤ x := by
        rcases hor with ⟨h', _⟩ | ⟨rest, a', l', c', F', h', h2', h3', h4'⟩
        · cases h'
        · cases h'; exact ⟨a', l', c', F', h2', h3', h4'⟩
      have hGi : Gd w F1 F2 iF := fun x hx => .inr (.inr (by have := hiF x hx; omega))
      obtain rfl : il = 1 := hird.1
      obtain ⟨ib, io, rfl⟩ := RdS_addr hird (by simp)
      replace hFs := hFs.below hBl hb
      replace hrdE := RdS_ext hrdE hb
      replace hrdN := RdS_ext hrdN hb
      have hBi : B ∉ iF := hGi.ne HB1.out HB2.out hBl
      have hibm : ib ∈ iF := by
        obtain ⟨_, _, h3⟩ := hird
        rcases h3 with ⟨h4, _⟩ | ⟨_, b', o', F', ha, hF', _⟩
        · simp at h4
        · simp at ha; rw [hF', ha.1]; simp
      have hibB : ib ≠ B := fun hh => hBi (hh ▸ hibm)
      have hib6 : ib ≠ w.heap.size + 1 + 1 := hGi.ne6 HF1.out HF2.out ib hibm
      clear p0 p1 p2 p3 pl hb hor hiF hibm hsVh
      obtain ⟨p0, p1, p2, p3, pl⟩ := hFs.exp
      obtain ⟨f0, f1, f2, f3, fl⟩ := hFs.env
      have CA := Lib.hid (ap_go fuel IH.out left B k1 n1 s1 xs1 a1 l1 c1 F1 k2 n2 s2 xs2 a2 l2 c2 F2 V32 hlf (by omega) hFs.wk hrdE hrdN HB1.out HB2.out HOK1.out HOK2.out xk xn xz xas yk yn yz yas HITS.out HQ.out HC.out HD.out)
      rw [← HRS.out] at CA
      go_wp2_with fail
      refine CA.out.mono ?_
      rintro e V40 ⟨k9, n9, s9, xs9, a9, l9, c9, F9, hr9, rfl, hrd9, hF9, hg9, hw9⟩
      have hs3 := hFs.sz
      have hG9 : Gd w F1 F2 F9 := fun x hx => by
        rcases hF9 x hx with h' | h'
        · rcases List.mem_append.1 h' with h' | h'
          · exact .inl h'
          · exact .inr (.inl h')
        · exact .inr (.inr (by omega))
      replace hFs := hFs.grown hBl hg9 hw9
      have HR9 := Lib.hid hr9
      clear hr9 p0 p1 p2 p3 pl f0 f1 f2 f3 fl
      obtain ⟨r0, r1, r2, r3, rf, rl⟩ := hFs.res
      go_wp2
      exact bodyPost_ret (v := .agg #[.int .i64 k9, .int .i64 n9, .string s9, .slice a9 l9 c9]) (results_term rfl _ _ (w.heap.size + 1 + 1) rfl (heap_set4 hFs.b6)) rfl (hFs.out (r := rs) hBl HF1.out HF2.out HR9.out rfl rfl hrd9 hG9)

set_option maxHeartbeats 8000000 in
set_option maxRecDepth 200000 in
theorem sp_quote_bad (fuel : Nat) (ih : EvalS fuel) (left B : Nat) (k1 n1 : Int) (s1 : ByteArray) (xs1 : List Tm) (a1 : Option Addr) (l1 c1 : Nat) (F1 : List Nat) (k2 n2 : Int) (s2 : ByteArray) (xs2 : List Tm) (a2 : Option Addr) (l2 c2 : Nat) (F2 : List Nat) (w : World)
    (hlf : left ≤ fuel) (h1000 : left + 1 ≤ 1000) (hw : WalkAt w B (left + 1) 0) (h1 : RdS w xs1 a1 l1 c1 F1) (h2 : RdS w xs2 a2 l2 c2 F2) (hB1 : B ∉ F1) (hB2 : B ∉ F2) (hok1 : (Tm.mk k1 n1 s1 xs1).ok = true) (hok2 : (Tm.mk k2 n2 s2 xs2).ok = true) (hk : k1 ≠ 2) (htl : (Tm.mk k1 n1 s1 xs1).tl.kind = 0) (xk xn : Int) (xz : ByteArray) (xas : List Tm) (yk yn : Int) (yz : ByteArray) (yas : List Tm) (hits : (Tm.mk k1 n1 s1 xs1).its = [.mk xk xn xz xas, .mk yk yn yz yas]) (hq : isSym (.mk xk xn xz xas) ⟨#[113, 117, 111, 116, 101]⟩ = true) (hcl : (Tm.mk yk yn yz yas).hasSym ⟨#[99, 108, 111, 115, 117, 114, 101]⟩ = true) :
    Calls Try.prog 89 #[.pointer (some ⟨B, 0, none⟩), .agg #[.int .i64 k1, .int .i64 n1, .string s1, .slice a1 l1 c1], .agg #[.int .i64 k2, .int .i64 n2, .string s2, .slice a2 l2 c2]] w
      (SpOut w B (F1 ++ F2) (evStep (ev fuel) left (.mk k1 n1 s1 xs1) (.mk k2 n2 s2 xs2))) := by
  have hres : evStep (ev fuel) left (.mk k1 n1 s1 xs1) (.mk k2 n2 s2 xs2) = stuck left := by
    rw [evStep_list (show (Tm.mk k1 n1 s1 xs1).kind ≠ 2 from hk) htl]
    rw [hits, evForm, if_pos hq, if_pos hcl]
  rw [hres]
  have hk' : (k1 == 2) = false := by simpa using hk
  clear hres hk
  have hc := (isSym_other hq (b' := ⟨#[99, 97, 114]⟩) (by decide +kernel)).1
  have hd := (isSym_other hq (b' := ⟨#[99, 100, 114]⟩) (by decide +kernel)).1
  have HFe : Hid (formR (.mk k1 n1 s1 xs1) ⟨#[]⟩ 1 = some [.mk yk yn yz yas]) := formR_hit hits rfl htl (.inl rfl)
  have HFlam : Hid (formR (.mk k1 n1 s1 xs1) ⟨#[108, 97, 109, 98, 100, 97]⟩ 2 = none) := formR_len (by rw [hits]; simp)
  have HFcons : Hid (formR (.mk k1 n1 s1 xs1) ⟨#[99, 111, 110, 115]⟩ 2 = none) := formR_len (by rw [hits]; simp)
  have HFcar : Hid (formR (.mk k1 n1 s1 xs1) ⟨#[99, 97, 114]⟩ 1 = none) := formR_sym hits hc (by decide)
  have HFcdr : Hid (formR (.mk k1 n1 s1 xs1) ⟨#[99, 100, 114]⟩ 1 = none) := formR_sym hits hd (by decide)
  have HFiff : Hid (formR (.mk k1 n1 s1 xs1) ⟨#[105, 102]⟩ 3 = none) := formR_len (by rw [hits]; simp)
  have HITS := Lib.hid hits
  have HFq : Hid (formR (.mk k1 n1 s1 xs1) ⟨#[113, 117, 111, 116, 101]⟩ 1 = some [.mk yk yn yz yas]) := formR_hit hits rfl htl (.inr hq)
  have HOKY := Lib.hid (its_ok hok1 (.mk yk yn yz yas) (by rw [hits]; simp))
  have HCL := Lib.hid hcl; have HQ := Lib.hid hq
  clear htl hits hq hcl hc hd
  have HNquote : Hid (((⟨#[113, 117, 111, 116, 101]⟩ : ByteArray)).size = 0 ∨ (((⟨#[113, 117, 111, 116, 101]⟩ : ByteArray)).toList.isEmpty = false ∧ (Tm.sym ⟨#[113, 117, 111, 116, 101]⟩).wf = true)) := .inr (by decide +kernel)
  have HNlam : Hid (((⟨#[108, 97, 109, 98, 100, 97]⟩ : ByteArray)).size = 0 ∨ (((⟨#[108, 97, 109, 98, 100, 97]⟩ : ByteArray)).toList.isEmpty = false ∧ (Tm.sym ⟨#[108, 97, 109, 98, 100, 97]⟩).wf = true)) := .inr (by decide +kernel)
  have HNcons : Hid (((⟨#[99, 111, 110, 115]⟩ : ByteArray)).size = 0 ∨ (((⟨#[99, 111, 110, 115]⟩ : ByteArray)).toList.isEmpty = false ∧ (Tm.sym ⟨#[99, 111, 110, 115]⟩).wf = true)) := .inr (by decide +kernel)
  have HNcar : Hid (((⟨#[99, 97, 114]⟩ : ByteArray)).size = 0 ∨ (((⟨#[99, 97, 114]⟩ : ByteArray)).toList.isEmpty = false ∧ (Tm.sym ⟨#[99, 97, 114]⟩).wf = true)) := .inr (by decide +kernel)
  have HNcdr : Hid (((⟨#[99, 100, 114]⟩ : ByteArray)).size = 0 ∨ (((⟨#[99, 100, 114]⟩ : ByteArray)).toList.isEmpty = false ∧ (Tm.sym ⟨#[99, 100, 114]⟩).wf = true)) := .inr (by decide +kernel)
  have HNiff : Hid (((⟨#[105, 102]⟩ : ByteArray)).size = 0 ∨ (((⟨#[105, 102]⟩ : ByteArray)).toList.isEmpty = false ∧ (Tm.sym ⟨#[105, 102]⟩).wf = true)) := .inr (by decide +kernel)
  have HNempty : Hid (((⟨#[]⟩ : ByteArray)).size = 0 ∨ (((⟨#[]⟩ : ByteArray)).toList.isEmpty = false ∧ (Tm.sym ⟨#[]⟩).wf = true)) := .inl rfl
  obtain ⟨m0, m1, mf, hBl⟩ := walk_cells hw
  have hBw1 : B < w.heap.size + 1 := by omega
  have hBw2 : B < w.heap.size + 1 + 1 := by omega
  have hBw3 : B < w.heap.size + 1 + 1 + 1 := by omega
  obtain ⟨lf, hlfe⟩ : ∃ lf : Int, lf = ((left + 1 : Nat) : Int) := ⟨_, rfl⟩
  rw [← hlfe] at m0
  have hz0 : (lf == 0) = false := by simp; omega
  have hlf1 : 1 ≤ lf := by omega
  have hlf2 : lf ≤ 1000 := by omega
  have m1' : w.cell? ⟨B, 1, none⟩ = some (.int .i64 0) := m1
  have HW := Lib.hid hw; have HF1 := Lib.hid (RdS_lt h1); have HF2 := Lib.hid (RdS_lt h2); have IH := Lib.hid ih
  have HH1 := Lib.hid h1; have HH2 := Lib.hid h2; have HOK1 := Lib.hid hok1; have HOK2 := Lib.hid hok2; have HB1 := Lib.hid hB1; have HB2 := Lib.hid hB2; have HLF := Lib.hid hlfe
  clear hlfe hw m1 ih h1 h2 hok1 hok2 hB1 hB2
  go_enter Try.func89, Try.ntmps89
  go_wp2_with fail
  have hFs : Fs w ((((w.setCell ⟨B, 0, none⟩ (.int .i64 (lf - 1))).alloc (.cells #[.int .i64 k1, .int .i64 n1, .string s1, .slice a1 l1 c1] 26)).alloc (.cells #[.int .i64 k2, .int .i64 n2, .string s2, .slice a2 l2 c2] 26)).alloc (.cells #[.int .i64 0, .int .i64 0, .string ⟨#[]⟩, .slice none 0 0] 26)) B left 0 k1 n1 s1 a1 l1 c1 k2 n2 s2 a2 l2 c2 := by
    have hs : (w.setCell ⟨B, 0, none⟩ (.int .i64 (lf - 1))).heap.size = w.heap.size := by simp [World.setCell]
    refine ⟨?_, ?_, ?_, ?_, ?_, ?_⟩
    · rw [heap_old (by simp [World.setCell]; omega), heap_old (by simp [World.setCell])]; exact heap_new hs.symm
    · rw [heap_old (by simp [World.setCell])]; exact heap_new (by simp [World.setCell])
    · exact heap_new (by simp [World.setCell])
    · show _ = _
      rw [heap_old (by simp [World.setCell]; omega), heap_old (by simp [World.setCell]; omega), heap_old (by rw [hs]; exact hBl)]
      have h0 := heap_set (o := 0) (.int .i64 (lf - 1)) HW.out
      rw [h0, HLF.out]
      have he : ((left + 1 : Nat) : Int) - 1 = (left : Int) := by omega
      rw [he]; rfl
    · exact ⟨rfl, rfl, rfl, by simp [World.setCell]; omega, fun x hx hr => by
        rw [heap_old (by simp [World.setCell]; omega), heap_old (by simp [World.setCell]; omega), heap_old (by rw [hs]; exact hx)]
        exact heap_set_other _ (by simpa using hr)⟩
    · simp [World.setCell]
  generalize ((((w.setCell ⟨B, 0, none⟩ (.int .i64 (lf - 1))).alloc (.cells #[.int .i64 k1, .int .i64 n1, .string s1, .slice a1 l1 c1] 26)).alloc (.cells #[.int .i64 k2, .int .i64 n2, .string s2, .slice a2 l2 c2] 26)).alloc (.cells #[.int .i64 0, .int .i64 0, .string ⟨#[]⟩, .slice none 0 0] 26)) = V at *
  have hrdE : RdS V xs1 a1 l1 c1 F1 := RdS_grown HH1.out hFs.ext (fun x hx hh => HB1.out (hh ▸ hx))
  have hrdN : RdS V xs2 a2 l2 c2 F2 := RdS_grown HH2.out hFs.ext (fun x hx hh => HB2.out (hh ▸ hx))
  clear m0 m1' mf
  obtain ⟨p0, p1, p2, p3, pl⟩ := hFs.exp
  have hsVh := hFs.sz
  go_wp2_with fail
  refine (l40Form_any k1 n1 s1 xs1 a1 l1 c1 F1 ⟨#[113, 117, 111, 116, 101]⟩ 1 V hrdE HOK1.out (by omega) HNquote.out).mono ?_
  rintro e V1 ⟨hb, hor⟩
  rw [HFq.out] at hor
  obtain ⟨ia, il, ic, iF, rfl, hird, hiF⟩ : ∃ a l c F, e = .returned (.tuple #[.slice a l c, .bool true]) ∧ RdS V1 [.mk yk yn yz yas] a l c F ∧ ∀ x ∈ F, V.heap.size ≤ x := by
    rcases hor with ⟨h', _⟩ | ⟨rest, a', l', c', F', h', h2', h3', h4'⟩
    · cases h'
    · cases h'; exact ⟨a', l', c', F', h2', h3', h4'⟩
  have hGi : Gd w F1 F2 iF := fun x hx => .inr (.inr (by have := hiF x hx; omega))
  obtain rfl : il = 1 := hird.1
  obtain ⟨ib, io, rfl⟩ := RdS_addr hird (by simp)
  replace hFs := hFs.below hBl hb
  replace hrdE := RdS_ext hrdE hb
  replace hrdN := RdS_ext hrdN hb
  have hBi : B ∉ iF := hGi.ne HB1.out HB2.out hBl
  have hibm : ib ∈ iF := by
    obtain ⟨_, _, h3⟩ := hird
    rcases h3 with ⟨h4, _⟩ | ⟨_, b', o', F', ha, hF', _⟩
    · simp at h4
    · simp at ha; rw [hF', ha.1]; simp
  have hibB : ib ≠ B := fun hh => hBi (hh ▸ hibm)
  have hib6 : ib ≠ w.heap.size + 1 + 1 := hGi.ne6 HF1.out HF2.out ib hibm
  clear p0 p1 p2 p3 pl hb hor hiF hibm hsVh
  obtain ⟨ya, yl, yc, yF, ⟨y0, y1, y2, y3⟩, hry, hyF, hbly⟩ := RdS_el0 hird rfl
  go_wp2_with fail
  refine (ContainsSymbol_spec yk yn yz yas ya yl yc yF ⟨#[99, 108, 111, 115, 117, 114, 101]⟩ V1 hry HOKY.out).mono ?_
  rintro e V9 ⟨rfl, hb⟩
  rw [HCL.out]
  replace hFs := hFs.below hBl hb
  replace hrdE := RdS_ext hrdE hb
  replace hrdN := RdS_ext hrdN hb
  clear y0 y1 y2 y3 hry hyF hbly
  clear hb hird hGi hBi hibB hib6
  obtain ⟨p0, p1, p2, p3, pl⟩ := hFs.exp
  go_wp2_with fail
  refine (l40Form_any k1 n1 s1 xs1 a1 l1 c1 F1 ⟨#[108, 97, 109, 98, 100, 97]⟩ 2 V9 hrdE HOK1.out (by omega) HNlam.out).mono ?_
  rintro e V10 ⟨hb, hor⟩
  rw [HFlam.out] at hor
  obtain rfl : e = .returned (.tuple #[.slice none 0 0, .bool false]) := by
    rcases hor with ⟨_, h'⟩ | ⟨_, _, _, _, _, h', _⟩
    · exact h'
    · cases h'
  replace hFs := hFs.below hBl hb
  replace hrdE := RdS_ext hrdE hb
  replace hrdN := RdS_ext hrdN hb
  have hbQ := hb
  clear p0 p1 p2 p3 pl hb hor
  obtain ⟨p0, p1, p2, p3, pl⟩ := hFs.exp
  go_wp2_with fail
  refine (l40Form_any k1 n1 s1 xs1 a1 l1 c1 F1 ⟨#[99, 111, 110, 115]⟩ 2 V10 hrdE HOK1.out (by omega) HNcons.out).mono ?_
  rintro e V11 ⟨hb, hor⟩
  rw [HFcons.out] at hor
  obtain rfl : e = .returned (.tuple #[.slice none 0 0, .bool false]) := by
    rcases hor with ⟨_, h'⟩ | ⟨_, _, _, _, _, h', _⟩
    · exact h'
    · cases h'
  replace hFs := hFs.below hBl hb
  replace hrdE := RdS_ext hrdE hb
  replace hrdN := RdS_ext hrdN hb
  have hbQ := hb
  clear p0 p1 p2 p3 pl hb hor
  go_wp2_with fail
  have hbN : Below V11.heap.size V11 (V11.alloc (.cells #[.string ⟨#[99, 97, 114]⟩, .string ⟨#[99, 100, 114]⟩] 9)) := (Below.refl _ _).alloc (Nat.le_refl _) _
  have hNb : (V11.alloc (.cells #[.string ⟨#[99, 97, 114]⟩, .string ⟨#[99, 100, 114]⟩] 9)).heap[V11.heap.size]? = some (.cells #[.string ⟨#[99, 97, 114]⟩, .string ⟨#[99, 100, 114]⟩] 9 (0, 0)) := heap_new rfl
  generalize V11.alloc (.cells #[.string ⟨#[99, 97, 114]⟩, .string ⟨#[99, 100, 114]⟩] 9) = N at *
  replace hFs := hFs.below hBl hbN
  replace hrdE := RdS_ext hrdE hbN
  replace hrdN := RdS_ext hrdN hbN
  have HNB := Lib.hid hNb
  have hnbl := heap_lt hNb
  have HST := Lib.hid hFs; have HSE := Lib.hid hrdE; have HSN := Lib.hid hrdN
  clear hbN hNb hFs hrdE hrdN
  go_loopw [146] (fun iv wr => ∃ j : Nat, j ≤ 2 ∧ iv = .int .i64 j ∧ Below N.heap.size N wr) (fun iv _ => 2 - (intOf iv).toNat)
  case atStart => exact ⟨0, by omega, rfl, Below.refl _ _⟩
  case round =>
    obtain ⟨j, hj, rfl, hbr⟩ := hrel
    have hFs := HST.out.below hBl hbr
    have hrdE := RdS_ext HSE.out hbr
    have hrdN := RdS_ext HSN.out hbr
    have hnr := (hbr.block _ hnbl).trans HNB.out
    have n0 : wr.cell? ⟨V11.heap.size, 0, none⟩ = some (.string ⟨#[99, 97, 114]⟩) := by simpa using cell_of_block hnr 0
    have n1' : wr.cell? ⟨V11.heap.size, 1, none⟩ = some (.string ⟨#[99, 100, 114]⟩) := by simpa using cell_of_block hnr 1
    clear hnr
    rcases (show j = 0 ∨ j = 1 ∨ j = 2 by omega) with rfl | rfl | rfl
    · skip
      obtain ⟨p0, p1, p2, p3, pl⟩ := hFs.exp
      go_wp2_with fail
      refine (l40Form_any k1 n1 s1 xs1 a1 l1 c1 F1 ⟨#[99, 97, 114]⟩ 1 wr hrdE HOK1.out (by omega) HNcar.out).mono ?_
      rintro e V21 ⟨hb, hor⟩
      rw [HFcar.out] at hor
      obtain rfl : e = .returned (.tuple #[.slice none 0 0, .bool false]) := by
        rcases hor with ⟨_, h'⟩ | ⟨_, _, _, _, _, h', _⟩
        · exact h'
        · cases h'
      replace hFs := hFs.below hBl hb
      replace hrdE := RdS_ext hrdE hb
      replace hrdN := RdS_ext hrdN hb
      have hbQ := hb
      clear p0 p1 p2 p3 pl hb hor
      go_wp2
      go_roundw
      case rel => exact ⟨1, by omega, by go_num, hbr.trans (hbQ.mono hbr.size)⟩
      case measure => simp [intOf]
    · skip
      obtain ⟨p0, p1, p2, p3, pl⟩ := hFs.exp
      go_wp2_with fail
      refine (l40Form_any k1 n1 s1 xs1 a1 l1 c1 F1 ⟨#[99, 100, 114]⟩ 1 wr hrdE HOK1.out (by omega) HNcdr.out).mono ?_
      rintro e V21 ⟨hb, hor⟩
      rw [HFcdr.out] at hor
      obtain rfl : e = .returned (.tuple #[.slice none 0 0, .bool false]) := by
        rcases hor with ⟨_, h'⟩ | ⟨_, _, _, _, _, h', _⟩
        · exact h'
        · cases h'
      replace hFs := hFs.below hBl hb
      replace hrdE := RdS_ext hrdE hb
      replace hrdN := RdS_ext hrdN hb
      have hbQ := hb
      clear p0 p1 p2 p3 pl hb hor
      go_wp2
      go_roundw
      case rel => exact ⟨2, by omega, by go_num, hbr.trans (hbQ.mono hbr.size)⟩
      case measure => simp [intOf]
    · clear n0 n1'
      obtain ⟨p0, p1, p2, p3, pl⟩ := hFs.exp
      go_wp2_with fail
      refine (l40Form_any k1 n1 s1 xs1 a1 l1 c1 F1 ⟨#[105, 102]⟩ 3 wr hrdE HOK1.out (by omega) HNiff.out).mono ?_
      rintro e V31 ⟨hb, hor⟩
      rw [HFiff.out] at hor
      obtain rfl : e = .returned (.tuple #[.slice none 0 0, .bool false]) := by
        rcases hor with ⟨_, h'⟩ | ⟨_, _, _, _, _, h', _⟩
        · exact h'
        · cases h'
      replace hFs := hFs.below hBl hb
      replace hrdE := RdS_ext hrdE hb
      replace hrdN := RdS_ext hrdN hb
      have hbQ := hb
      clear p0 p1 p2 p3 pl hb hor
      obtain ⟨p0, p1, p2, p3, pl⟩ := hFs.exp
      have hsVh := hFs.sz
      go_wp2_with fail
      refine (l40Form_any k1 n1 s1 xs1 a1 l1 c1 F1 ⟨#[]⟩ 1 V31 hrdE HOK1.out (by omega) HNempty.out).mono ?_
      rintro e V32 ⟨hb, hor⟩
      rw [HFe.out] at hor
      obtain ⟨ia, il, ic, iF, rfl, hird, hiF⟩ : ∃ a l c F, e = .returned (.tuple #[.slice a l c, .bool true]) ∧ RdS V32 [.mk yk yn yz yas] a l c F ∧ ∀ x ∈ F, V31.heap.size ≤ x := by
        rcases hor with ⟨h', _⟩ | ⟨rest, a', l', c', F', h', h2', h3', h4'⟩
        · cases h'
        · cases h'; exact ⟨a', l', c', F', h2', h3', h4'⟩
      have hGi : Gd w F1 F2 iF := fun x hx => .inr (.inr (by have := hiF x hx; omega))
      obtain rfl : il = 1 := hird.1
      obtain ⟨ib, io, rfl⟩ := RdS_addr hird (by simp)
      replace hFs := hFs.below hBl hb
      replace hrdE := RdS_ext hrdE hb
      replace hrdN := RdS_ext hrdN hb
      have hBi : B ∉ iF := hGi.ne HB1.out HB2.out hBl
      have hibm : ib ∈ iF := by
        obtain ⟨_, _, h3⟩ := hird
        rcases h3 with ⟨h4, _⟩ | ⟨_, b', o', F', ha, hF', _⟩
        · simp at h4
        · simp at ha; rw [hF', ha.1]; simp
      have hibB : ib ≠ B := fun hh => hBi (hh ▸ hibm)
      have hib6 : ib ≠ w.heap.size + 1 + 1 := hGi.ne6 HF1.out HF2.out ib hibm
      clear p0 p1 p2 p3 pl hb hor hiF hibm hsVh
      obtain ⟨p0, p1, p2, p3, pl⟩ := hFs.exp
      obtain ⟨f0, f1, f2, f3, fl⟩ := hFs.env
      have CA := Lib.hid (ap_stuck fuel IH.out left B k1 n1 s1 xs1 a1 l1 c1 F1 k2 n2 s2 xs2 a2 l2 c2 F2 V32 hlf (by omega) hFs.wk hrdE hrdN HB1.out HB2.out HOK1.out HOK2.out xk xn xz xas yk yn yz yas HITS.out HQ.out)
      go_wp2_with fail
      refine CA.out.mono ?_
      rintro e V40 ⟨k9, n9, s9, xs9, a9, l9, c9, F9, hr9, rfl, hrd9, hF9, hg9, hw9⟩
      have hs3 := hFs.sz
      have hG9 : Gd w F1 F2 F9 := fun x hx => by
        rcases hF9 x hx with h' | h'
        · rcases List.mem_append.1 h' with h' | h'
          · exact .inl h'
          · exact .inr (.inl h')
        · exact .inr (.inr (by omega))
      replace hFs := hFs.grown hBl hg9 hw9
      have HR9 := Lib.hid hr9
      clear hr9 p0 p1 p2 p3 pl f0 f1 f2 f3 fl
      obtain ⟨r0, r1, r2, r3, rf, rl⟩ := hFs.res
      go_wp2
      exact bodyPost_ret (v := .agg #[.int .i64 k9, .int .i64 n9, .string s9, .slice a9 l9 c9]) (results_term rfl _ _ (w.heap.size + 1 + 1) rfl (heap_set4 hFs.b6)) rfl (hFs.out (r := stuck left) hBl HF1.out HF2.out HR9.out rfl rfl hrd9 hG9)
end Go.Proofs.Ytjkabbkaeioibaa
