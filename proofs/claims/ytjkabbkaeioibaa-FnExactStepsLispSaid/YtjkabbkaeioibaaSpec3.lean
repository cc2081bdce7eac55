/- Contract of the reference's l40Form: the elements behind the first of a list that begins with a symbol. -/
import Derived.Test.YtjkabbkaeioibaaSpec2
import Derived.Deep.RegionHeld3
namespace Go.Proofs.Ytjkabbkaeioibaa
open Go.RowKit

theorem isSym_eq {x : Tm} {s : ByteArray} (hx : x.wf = true) : tmEq x (Tm.sym s) = isSym x s := by
  obtain ⟨k, n, z, xs⟩ := x
  cases h : isSym (.mk k n z xs) s with
  | true =>
    rw [tmEq_iff]
    obtain ⟨rfl, hz⟩ := isSym_name h
    rw [beq_iff_eq, ByteArray.toList_eq, ByteArray.toList_eq] at hz
    obtain rfl := Go.WideShapes.bytes_inj hz
    rcases wf_split hx with ⟨_, rfl⟩ | ⟨h', _⟩
    · simp [Tm.wf, atomB] at hx; simp [Tm.sym, hx.1]
    · cases h'
  | false =>
    rw [tmEq_false]
    intro hh
    rw [hh] at h
    simp [isSym, Tm.sym, Tm.kind, Tm.name] at h
theorem RdS_tail {w : World} {x : Tm} {rest : List Tm} {b o l c : Nat} {F : List Nat} (h : RdS w (x :: rest) (some ⟨b, o, none⟩) l c F) : ∃ F', RdS w rest (some ⟨b, o + 4, none⟩) (l - 1) (c - 1) F' ∧ ∀ y ∈ F', y ∈ F := by
  obtain ⟨h1, h2, h3⟩ := h
  rcases h3 with ⟨h4, _⟩ | ⟨_, b', o', F', ha, rfl, h4⟩
  · simp at h4
  · obtain ⟨rfl, rfl⟩ : b = b' ∧ o = o' := by simpa using ha
    rw [RdL] at h4
    obtain ⟨G1, G2, rfl, _, h6⟩ := h4
    by_cases hr : rest = []
    · subst hr
      exact ⟨[], ⟨by simp at h1 ⊢; omega, by omega, .inl ⟨rfl, rfl⟩⟩, by simp⟩
    · exact ⟨b :: G2, ⟨by simp at h1; omega, by omega, .inr ⟨hr, b, o + 4, G2, rfl, rfl, h6⟩⟩, by intro y hy; simp at hy ⊢; rcases hy with hy | hy <;> simp [hy]⟩
theorem below_drewN {B : Nat} {a w : World} (h : Below B a w) (k : Nat) : Below B a (w.drewN k) := ⟨h.os, h.tape, h.output, h.size, h.block⟩

/-- the parts of a form -/
def formR (t : Tm) (name : ByteArray) (n : Nat) : Option (List Tm) := match t.its with
  | [] => none
  | x :: rest => if rest.length = n ∧ t.tl.kind = 0 ∧ (name.size = 0 ∨ isSym x name = true) then some rest else none
def FormP (w : World) (o : Option (List Tm)) (e : Ending) (w' : World) : Prop :=
  Below w.heap.size w w' ∧ ((o = none ∧ e = .returned (.tuple #[.slice none 0 0, .bool false])) ∨ ∃ rest a l c F, o = some rest ∧ e = .returned (.tuple #[.slice a l c, .bool true]) ∧ RdS w' rest a l c F ∧ ∀ x ∈ F, w.heap.size ≤ x)

set_option maxHeartbeats 4000000 in
set_option maxRecDepth 100000 in
theorem l40Form_any (k m : Int) (s : ByteArray) (xs : List Tm) (a : Option Addr) (l c : Nat) (F : List Nat) (name : ByteArray) (n : Nat) (w : World) (h : RdS w xs a l c F) (hok : (Tm.mk k m s xs).ok = true) (hn : n ≤ 1000) (hnm : name.size = 0 ∨ (name.toList.isEmpty = false ∧ (Tm.sym name).wf = true)) :
    Calls Try.prog 104 #[.agg #[.int .i64 k, .int .i64 m, .string s, .slice a l c], .string name, .int .i64 (n : Int)] w (FormP w (formR (.mk k m s xs) name n)) := by
  have IT := Lib.hid (ItemsOf_spec k m s xs a l c F)
  have hL := wf_lens (ok_wf hok).1
  have hcn : (Tm.mk k m s xs).cnt ≤ 10000000000 := by have := (ok_wf hok).2; omega
  have hR1 : (Tm.mk k m s xs).itsR = (Tm.mk k m s xs).its := by rw [Tm.itsR, if_pos hok]
  have hR2 : (Tm.mk k m s xs).tlR = (Tm.mk k m s xs).tl := by rw [Tm.tlR, if_pos hok]
  have hwI : Hid (∀ x ∈ (Tm.mk k m s xs).its, x.wf = true) := fun x hx => (its_wf (ok_wf hok).1).1 x hx
  have hlI : (Tm.mk k m s xs).its.length ≤ 5000 := by
    have h1 := its_cnt (Tm.mk k m s xs); have h2 := cntL_ge (Tm.mk k m s xs).its; have h3 := (ok_wf hok).2; omega
  rw [hR1, hR2] at IT
  have HFR : Hid (formR (.mk k m s xs) name n = match (Tm.mk k m s xs).its with | [] => none | x :: rest => if rest.length = n ∧ (Tm.mk k m s xs).tl.kind = 0 ∧ (name.size = 0 ∨ isSym x name = true) then some rest else none) := rfl
  obtain ⟨fr, hfr⟩ : ∃ f, f = formR (.mk k m s xs) name n := ⟨_, rfl⟩
  rw [← hfr] at HFR ⊢
  generalize (Tm.mk k m s xs).tl = tl at *
  generalize (Tm.mk k m s xs).its = its at *
  have HNM := Lib.hid hnm
  clear hR1 hR2 hok hfr hnm
  have hbA : ∀ o1, Below w.heap.size w (w.alloc o1) := fun o1 => (Below.refl _ _).alloc (Nat.le_refl _) o1
  have HBA := Lib.hid hbA; clear hbA
  go_enter Try.func104, Try.ntmps104
  go_wp2_with fail
  refine (IT.out _ (RdS_ext h (HBA.out _)) hL hcn).mono ?_
  rintro e w1 ⟨ia, il, ic, iF, tk, tn, tz, txs, ta, tll, tc, tF, htl, rfl, hird, htrd, hnew, hb1⟩
  have hbel := (HBA.out _).trans (hb1.mono (by simp))
  have HNEW : Hid (∀ x ∈ iF, w.heap.size ≤ x) := fun x hx => by have := hnew x (List.mem_append.2 (.inl hx)); simp at this; omega
  have HTL : Hid (tl.kind = tk) := by show _ = _; rw [htl]; rfl
  clear hb1 htl hnew
  go_wp2_with fail
  have hbT : Below w1.heap.size w1 (w1.alloc (.cells #[.int .i64 tk, .int .i64 tn, .string tz, .slice ta tll tc] 26)) := (Below.refl _ _).alloc (Nat.le_refl _) _
  have hTb : (w1.alloc (.cells #[.int .i64 tk, .int .i64 tn, .string tz, .slice ta tll tc] 26)).heap[w1.heap.size]? = some (.cells #[.int .i64 tk, .int .i64 tn, .string tz, .slice ta tll tc] 26 (0, 0)) := heap_new rfl
  generalize w1.alloc (.cells #[.int .i64 tk, .int .i64 tn, .string tz, .slice ta tll tc] 26) = V at *
  obtain ⟨t0, _, _, _, _⟩ := box4 hTb
  have htV := heap_lt hTb
  replace hird := RdS_ext hird hbT
  replace hbel := hbel.trans (hbT.mono hbel.size)
  have hil := hird.1
  have hil5 : il ≤ 5000 := by omega
  have HIL := Lib.hid hil
  clear hTb htrd hbT hil
  have hw1 : IntKind.i64.wrap ((n : Int) + 1) = (n : Int) + 1 := IntWalk.i64_in _ (by omega)
  by_cases hlen : il = n + 1
  case neg =>
    have hd : ((il : Int) != (n : Int) + 1) = true := by simp; omega
    have hfin : Hid (fr = none) := by
      show _ = _
      rw [HFR.out]
      have := HIL.out
      cases its with
      | nil => rfl
      | cons x rest => simp only; rw [if_neg]; rintro ⟨h1, _⟩; simp at this; omega
    clear hlen
    go_quiet (fail)
    clear hw1
    go_wp2
    go_ret2
    exact ⟨below_drewN hbel _, .inl ⟨hfin.out, rfl⟩⟩
  subst hlen
  have hd : (((n + 1 : Nat) : Int) != (n : Int) + 1) = false := by simp
  match its, HIL.out with
  | x :: rest, hlr =>
    have hrl : rest.length = n := by simp at hlr; omega
    have HFR2 : Hid (fr = if tl.kind = 0 ∧ (name.size = 0 ∨ isSym x name = true) then some rest else none) := by
      show _ = _
      rw [HFR.out]; simp [hrl]
    obtain ⟨b, o, rfl⟩ := RdS_addr hird (by simp)
    obtain ⟨xk, xn, xz, xas⟩ := x
    obtain ⟨xa, xl, xc, xF, ⟨x0, x1, x2, x3⟩, hrx, hxF, hblx⟩ := RdS_el0 hird rfl
    obtain ⟨F', hrest, hF'⟩ := RdS_tail hird
    have hicl := hird.2.1
    have hFnew : Hid (∀ x ∈ F', w.heap.size ≤ x) := fun x hx => HNEW.out x (hF' x hx)
    have HREST := Lib.hid hrest
    have HXW := Lib.hid (hwI.out (.mk xk xn xz xas) (by simp))
    have HRL := Lib.hid hrl
    clear hF' hrest hird hlr hrl HIL HFR
    by_cases htk : tk = 0
    case neg =>
      have dt : (tk != 0) = true := by simpa using htk
      have hfin : Hid (fr = none) := by show _ = _; rw [HFR2.out, if_neg]; rintro ⟨h1, _⟩; rw [HTL.out] at h1; exact htk h1
      clear htk x0 x1 x2 x3
      go_quiet (fail)
      clear hw1
      go_wp2
      go_ret2
      exact ⟨below_drewN hbel _, .inl ⟨hfin.out, rfl⟩⟩
    subst htk
    have hnc : ((n + 1 : Nat) : Int) = (n : Int) + 1 := by omega
    rcases HNM.out with hne | ⟨hne, hsw⟩
    · obtain rfl := ba_empty hne
      have hfin : Hid (fr = some rest) := by show _ = _; rw [HFR2.out, if_pos ⟨HTL.out, .inl rfl⟩]
      clear hne x0 x1 x2 x3 HNM
      by_cases hic : ic = 1
      · subst hic
        obtain rfl : n = 0 := by omega
        go_quiet (fail)
        clear hw1
        go_wp2
        go_ret2
        have hr0 : rest = [] := List.eq_nil_of_length_eq_zero HRL.out
        exact ⟨below_drewN hbel _, .inr ⟨rest, _, _, _, [], hfin.out, rfl, by rw [hr0]; exact ⟨rfl, by simp, .inl ⟨rfl, rfl⟩⟩, by simp⟩⟩
      · have hic2 : 1 < ic := by omega
        clear hic
        go_quiet (fail)
        clear hw1
        go_wp2
        go_ret2
        exact ⟨below_drewN hbel _, .inr ⟨rest, _, _, _, F', hfin.out, rfl, RdS_ext HREST.out (below_drewN (Below.refl _ _) _), hFnew.out⟩⟩
    · have hsv : Hid (tmEq (.mk xk xn xz xas) (.mk 2 0 name []) = isSym (.mk xk xn xz xas) name) := isSym_eq HXW.out
      have HSW : Hid ((Tm.mk 2 0 name []).wf = true) := hsw
      have hne2 : (name.toList == []) = false := by
        rw [beq_eq_false_iff_ne]; intro hh; rw [hh] at hne; simp at hne
      have hbW : Below V.heap.size V V.drew := (Below.refl _ _).drew
      have SS := Lib.hid (fun W => same_spec xk xn xz xas xa xl xc xF 2 0 name [] none 0 0 [] W)
      rw [hsv.out] at SS
      generalize hq : isSym (.mk xk xn xz xas) name = q at *
      have HS : Hid (V.cell? ⟨w1.heap.size, 0, none⟩ = some (.int .i64 0) ∧ V.cell? ⟨b, o, none⟩ = some (.int .i64 xk) ∧ V.cell? ⟨b, o + 1, none⟩ = some (.int .i64 xn) ∧ V.cell? ⟨b, o + 2, none⟩ = some (.string xz) ∧ V.cell? ⟨b, o + 3, none⟩ = some (.slice xa xl xc)) := ⟨t0, x0, x1, x2, x3⟩
      have keep : Hid (∀ w' : World, Below V.heap.size V w' → w'.cell? ⟨w1.heap.size, 0, none⟩ = some (.int .i64 0) ∧ w'.cell? ⟨b, o, none⟩ = some (.int .i64 xk) ∧ w'.cell? ⟨b, o + 1, none⟩ = some (.int .i64 xn) ∧ w'.cell? ⟨b, o + 2, none⟩ = some (.string xz) ∧ w'.cell? ⟨b, o + 3, none⟩ = some (.slice xa xl xc)) := by
        intro w' hb
        obtain ⟨y0, y1, y2, y3, y4⟩ := HS.out
        exact ⟨(hb.cell (p := ⟨w1.heap.size, 0, none⟩) htV).trans y0, (hb.cell (p := ⟨b, o, none⟩) hblx).trans y1, (hb.cell (p := ⟨b, o + 1, none⟩) hblx).trans y2, (hb.cell (p := ⟨b, o + 2, none⟩) hblx).trans y3, (hb.cell (p := ⟨b, o + 3, none⟩) hblx).trans y4⟩
      have HQ := Lib.hid hq
      clear hq hsw HNM
      go_region_held3 (fun w' => w'.cell? ⟨w1.heap.size, 0, none⟩ = some (.int .i64 0) ∧ w'.cell? ⟨b, o, none⟩ = some (.int .i64 xk) ∧ w'.cell? ⟨b, o + 1, none⟩ = some (.int .i64 xn) ∧ w'.cell? ⟨b, o + 2, none⟩ = some (.string xz) ∧ w'.cell? ⟨b, o + 3, none⟩ = some (.slice xa xl xc))
        (first | with_reducible exact keep.out _ hbW)
        (first | (go_at_call 82; (with_reducible refine (l02Sym_any name V.drew).mono ?_); rintro e w3 ⟨rfl, hb3⟩; replace hbW : Below V.heap.size V w3 := hbW.trans (hb3.mono hbW.size)) | (go_at_call 61; (with_reducible refine (SS.out w3 (RdS_ext hrx hbW) (RdS_nil _ _ _) HXW.out HSW.out).mono ?_); rintro e w4 ⟨rfl, hb4⟩; replace hbW : Below V.heap.size V w4 := hbW.trans (hb4.mono hbW.size)))
      have hbel4 := hbel.trans (hbW.mono hbel.size)
      clear x0 x1 x2 x3 t0 hw1
      cases q with
      | false =>
        have hfin : Hid (fr = none) := by
          show _ = _
          rw [HFR2.out, if_neg]
          rintro ⟨_, h1⟩
          rcases h1 with h1 | h1
          · exact ne_size hne h1
          · cases h1
        go_wp2
        go_ret2
        exact ⟨hbel4, .inl ⟨hfin.out, rfl⟩⟩
      | true =>
        have hfin : Hid (fr = some rest) := by show _ = _; rw [HFR2.out, if_pos ⟨HTL.out, .inr rfl⟩]
        by_cases hic : ic = 1
        · subst hic
          obtain rfl : n = 0 := by omega
          go_wp2
          go_ret2
          have hr0 : rest = [] := List.eq_nil_of_length_eq_zero HRL.out
          exact ⟨hbel4, .inr ⟨rest, _, _, _, [], hfin.out, rfl, by rw [hr0]; exact ⟨rfl, by simp, .inl ⟨rfl, rfl⟩⟩, by simp⟩⟩
        · have hic2 : 1 < ic := by omega
          clear hic
          go_wp2
          go_ret2
          exact ⟨hbel4, .inr ⟨rest, _, _, _, F', hfin.out, rfl, RdS_ext HREST.out hbW, hFnew.out⟩⟩
end Go.Proofs.Ytjkabbkaeioibaa
