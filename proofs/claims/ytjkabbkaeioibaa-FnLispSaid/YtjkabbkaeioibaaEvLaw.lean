/- What the plain evaluation obeys: a value that is found is found with any greater number of steps; with too few the code is 2. -/
import Derived.Test.YtjkabbkaeioibaaRun
namespace Go.Proofs.Ytjkabbkaeioibaa
open Go.RowKit
set_option linter.unusedVariables false

/-- 'g' gives v and takes n steps, whatever the number of steps that it may take -/
def Takes (g : (Nat → Tm → Tm → Res) → Nat → Res) (v : Tm) (n : Nat) : Prop :=
  ∀ f m, m ≤ f → (n ≤ m → g (ev f) m = (v, 0, m - n)) ∧ (m < n → (g (ev f) m).2.1 = 2)
abbrev St (e env v : Tm) (n : Nat) : Prop := Takes (fun rec m => rec m e env) v n

theorem ev_zero (f : Nat) (e env : Tm) : (ev f 0 e env).2.1 = 2 := by
  cases f with
  | zero => rw [ev]
  | succ f => rw [ev, if_pos rfl]
theorem St_step {e env v : Tm} {n : Nat} (h : Takes (fun rec m => evStep rec m e env) v n) : St e env v (n + 1) := by
  intro f m hm
  cases m with
  | zero => exact ⟨fun h => by omega, fun _ => ev_zero f e env⟩
  | succ m =>
    cases f with
    | zero => omega
    | succ f =>
      have h' := h f m (by omega)
      have he : ev (f + 1) (m + 1) e env = evStep (ev f) m e env := by rw [ev, if_neg (by omega), Nat.add_sub_cancel]
      refine ⟨fun hn => ?_, fun hn => ?_⟩
      · show ev (f + 1) (m + 1) e env = _
        rw [he, show evStep (ev f) m e env = _ from h'.1 (by omega)]
        have : m - n = m + 1 - (n + 1) := by omega
        rw [this]
      · show (ev (f + 1) (m + 1) e env).2.1 = 2
        rw [he]; exact h'.2 (by omega)
theorem Takes_bind {b env u v : Tm} {n1 n2 : Nat} {k : (Nat → Tm → Tm → Res) → Res → Res} (h1 : St b env u n1) (hk : ∀ rec r, r.2.1 ≠ 0 → (k rec r).2.1 = r.2.1) (h2 : Takes (fun rec m => k rec (u, 0, m)) v n2) :
    Takes (fun rec m => k rec (rec m b env)) v (n1 + n2) := by
  intro f m hm
  have h1' := h1 f m hm
  by_cases hc : n1 ≤ m
  · have h1'' : ev f m b env = (u, 0, m - n1) := h1'.1 hc
    have h2' := h2 f (m - n1) (by omega)
    refine ⟨fun hn => ?_, fun hn => ?_⟩
    · show k (ev f) (ev f m b env) = _
      rw [h1'', show k (ev f) (u, 0, m - n1) = _ from h2'.1 (by omega)]
      have : m - n1 - n2 = m - (n1 + n2) := by omega
      rw [this]
    · show (k (ev f) (ev f m b env)).2.1 = 2
      rw [h1'']; exact h2'.2 (by omega)
  · have h1'' : (ev f m b env).2.1 = 2 := h1'.2 (by omega)
    refine ⟨fun hn => by omega, fun _ => ?_⟩
    show (k (ev f) (ev f m b env)).2.1 = 2
    rw [hk _ _ (by omega)]; exact h1''
theorem Takes_ret (v : Tm) : Takes (fun _ m => (v, 0, m)) v 0 := fun _ _ _ => ⟨fun _ => rfl, fun h => by omega⟩
theorem Takes_congr {g g' : (Nat → Tm → Tm → Res) → Nat → Res} {v : Tm} {n : Nat} (h : Takes g v n) (he : ∀ rec m, g' rec m = g rec m) : Takes g' v n := by
  intro f m hm; rw [he]; exact h f m hm

theorem failV_code (r : Res) : (failV r).2.1 = r.2.1 := rfl
theorem stuck_code (l : Nat) : (stuck l).2.1 = 1 := rfl
theorem keepV_zero {t v : Tm} {l l' : Nat} (h : keepV t l = (v, 0, l')) : t.ok = true ∧ v = t ∧ l' = l := by
  unfold keepV at h; split at h
  · rename_i hk; cases h; exact ⟨hk, rfl, rfl⟩
  · simp [stuck] at h
theorem Takes_keep {t : Tm} (h : t.ok = true) : Takes (fun _ m => keepV t m) t 0 := Takes_congr (Takes_ret t) (fun _ m => by rw [keepV, if_pos h])

/-- the picked part of a pair -/
theorem evSel_zero {r : Res} {car : Bool} {v : Tm} {l : Nat} (h : evSel r car = (v, 0, l)) : r.2.1 = 0 ∧ l = r.2.2 ∧ ∀ m, evSel (r.1, 0, m) car = (v, 0, m) := by
  unfold evSel at h
  split at h
  · rename_i hc; rw [failV] at h; simp at h; exact absurd h.2.1 hc
  · rename_i hc
    have hc0 : r.2.1 = 0 := by simpa using hc
    obtain ⟨t, c, lf⟩ := r
    simp only at hc0 h
    subst hc0
    split at h
    · rename_i k n s a b heq
      split at h
      · rename_i hk
        cases h
        refine ⟨rfl, rfl, fun m => ?_⟩
        subst hk
        unfold evSel
        simp
      · simp [stuck] at h
    · simp [stuck] at h
theorem evSel_fail (rec : Nat → Tm → Tm → Res) (r : Res) (car : Bool) (h : r.2.1 ≠ 0) : (evSel r car).2.1 = r.2.1 := by unfold evSel; rw [if_pos h]; rfl
theorem res_eta {r : Res} {l : Nat} (h : r.2.1 = 0) (hl : l = r.2.2) : r = (r.1, 0, l) := by obtain ⟨t, c, m⟩ := r; simp only at h hl; subst h; subst hl; rfl

theorem evCons_fail (c env : Tm) (rec : Nat → Tm → Tm → Res) (r : Res) (h : r.2.1 ≠ 0) : (evCons rec r c env).2.1 = r.2.1 := by unfold evCons; rw [if_pos h]; rfl
theorem evIf_fail (c d env : Tm) (rec : Nat → Tm → Tm → Res) (r : Res) (h : r.2.1 ≠ 0) : (evIf rec r c d env).2.1 = r.2.1 := by unfold evIf; rw [if_pos h]; rfl
theorem evApp_fail (b env : Tm) (rec : Nat → Tm → Tm → Res) (r : Res) (h : r.2.1 ≠ 0) : (evApp rec r b env).2.1 = r.2.1 := by unfold evApp; rw [if_pos h]; rfl
theorem evBody_fail (x body cenv : Tm) (rec : Nat → Tm → Tm → Res) (r : Res) (h : r.2.1 ≠ 0) : (evBody rec r x body cenv).2.1 = r.2.1 := by unfold evBody; rw [if_pos h]; rfl

/-- an evaluation that gives a value takes a fixed number of steps -/
theorem ev_takes (fuel : Nat) : ∀ left e env v left', ev fuel left e env = (v, 0, left') → ∃ n, 1 ≤ n ∧ n ≤ left ∧ left' = left - n ∧ St e env v n := by
  induction fuel with
  | zero => intro left e env v left' h; rw [ev] at h; cases h
  | succ fuel ih =>
    intro left e env v left' h
    rw [ev] at h
    split at h
    · cases h
    rename_i hl0
    obtain ⟨L, rfl⟩ : ∃ L, left = L + 1 := ⟨left - 1, by omega⟩
    rw [Nat.add_sub_cancel] at h
    suffices hs : ∃ n, n ≤ L ∧ left' = L - n ∧ Takes (fun rec m => evStep rec m e env) v n by
      obtain ⟨n, h1, h2, h3⟩ := hs
      exact ⟨n + 1, by omega, by omega, by omega, St_step h3⟩
    have zero {g : (Nat → Tm → Tm → Res) → Nat → Res} (hg : left' = L) (ht : Takes g v 0) (he : ∀ rec m, evStep rec m e env = g rec m) : ∃ n, n ≤ L ∧ left' = L - n ∧ Takes (fun rec m => evStep rec m e env) v n :=
      ⟨0, by omega, by omega, Takes_congr ht he⟩
    unfold evStep at h
    by_cases hk : e.kind = 2
    · rw [if_pos hk] at h
      unfold evLook at h
      split at h
      · simp [stuck] at h
      · rename_i v' hv
        cases h
        exact zero rfl (Takes_ret _) (fun rec m => by unfold evStep; rw [if_pos hk, hv]; rfl)
    rw [if_neg hk] at h
    by_cases ht : e.tl.kind ≠ 0
    · rw [if_pos ht] at h; simp [stuck] at h
    rw [if_neg ht] at h
    have hstep : ∀ rec m, evStep rec m e env = evForm rec m e.its env := fun rec m => by unfold evStep; rw [if_neg hk, if_neg ht]
    suffices hs : ∃ n, n ≤ L ∧ left' = L - n ∧ Takes (fun rec m => evForm rec m e.its env) v n by
      obtain ⟨n, h1, h2, h3⟩ := hs
      exact ⟨n, h1, h2, Takes_congr h3 hstep⟩
    clear zero hstep
    generalize e.its = l at h
    have one {b u : Tm} {L1 : Nat} {k : (Nat → Tm → Tm → Res) → Res → Res} (hb : ev fuel L b env = (u, 0, L1)) (hk : ∀ rec r, r.2.1 ≠ 0 → (k rec r).2.1 = r.2.1) (h2 : ∃ n, n ≤ L1 ∧ left' = L1 - n ∧ Takes (fun rec m => k rec (u, 0, m)) v n) : ∃ n, n ≤ L ∧ left' = L - n ∧ Takes (fun rec m => k rec (rec m b env)) v n := by
      obtain ⟨n1, _, h3, h4, h5⟩ := ih _ _ _ _ _ hb
      obtain ⟨n2, h6, h7, h8⟩ := h2
      exact ⟨n1 + n2, by omega, by omega, Takes_bind h5 hk h8⟩
    have two {b w u : Tm} {L0 L1 : Nat} {k : (Nat → Tm → Tm → Res) → Res → Res} (hb : ev fuel L0 b w = (u, 0, L1)) (hk : ∀ rec r, r.2.1 ≠ 0 → (k rec r).2.1 = r.2.1) (h2 : ∃ n, n ≤ L1 ∧ left' = L1 - n ∧ Takes (fun rec m => k rec (u, 0, m)) v n) : ∃ n, n ≤ L0 ∧ left' = L0 - n ∧ Takes (fun rec m => k rec (rec m b w)) v n := by
      obtain ⟨n1, _, h3, h4, h5⟩ := ih _ _ _ _ _ hb
      obtain ⟨n2, h6, h7, h8⟩ := h2
      exact ⟨n1 + n2, by omega, by omega, Takes_bind h5 hk h8⟩
    have last {b w : Tm} {L0 : Nat} (hb : ev fuel L0 b w = (v, 0, left')) : ∃ n, n ≤ L0 ∧ left' = L0 - n ∧ Takes (fun rec m => rec m b w) v n := by
      obtain ⟨n1, _, h3, h4, h5⟩ := ih _ _ _ _ _ hb
      exact ⟨n1, h3, h4, h5⟩
    have conv {g g' : (Nat → Tm → Tm → Res) → Nat → Res} {L0 : Nat} (he : ∀ rec m, g rec m = g' rec m) (h : ∃ n, n ≤ L0 ∧ left' = L0 - n ∧ Takes g' v n) : ∃ n, n ≤ L0 ∧ left' = L0 - n ∧ Takes g v n := by
      obtain ⟨n, h1, h2, h3⟩ := h
      exact ⟨n, h1, h2, Takes_congr h3 he⟩
    have ret {t : Tm} {L0 : Nat} (hv : v = t) (hl : left' = L0) : ∃ n, n ≤ L0 ∧ left' = L0 - n ∧ Takes (fun _ m => (t, 0, m)) v n := ⟨0, by omega, by omega, by rw [hv]; exact Takes_ret t⟩
    have keep {t : Tm} {L0 : Nat} (h : keepV t L0 = (v, 0, left')) : ∃ n, n ≤ L0 ∧ left' = L0 - n ∧ Takes (fun _ m => keepV t m) v n := by
      obtain ⟨h1, h2, h3⟩ := keepV_zero h
      exact ⟨0, by omega, by omega, by rw [h2]; exact Takes_keep h1⟩
    unfold evForm at h ⊢
    split at h
    · rename_i a b
      by_cases hq : isSym a ⟨#[113, 117, 111, 116, 101]⟩ = true
      · rw [if_pos hq] at h
        split at h
        · simp [stuck] at h
        · rename_i hcl
          cases h
          exact conv (fun rec m => by rw [if_pos hq, if_neg hcl]) (ret rfl rfl)
      rw [if_neg hq] at h
      by_cases hcd : isSym a ⟨#[99, 97, 114]⟩ = true ∨ isSym a ⟨#[99, 100, 114]⟩ = true
      · rw [if_pos hcd] at h
        obtain ⟨h1, h2, h3⟩ := evSel_zero h
        refine conv (fun rec m => by rw [if_neg hq, if_pos hcd]) (one (k := fun _ r => evSel r (isSym a ⟨#[99, 97, 114]⟩)) (res_eta h1 rfl) (fun rec r hr => evSel_fail rec r _ hr) ?_)
        exact conv (fun rec m => h3 m) (ret rfl h2)
      · rw [if_neg hcd] at h
        refine conv (fun rec m => by rw [if_neg hq, if_neg hcd]) ?_
        obtain ⟨r, hr⟩ : ∃ r, r = ev fuel L a env := ⟨_, rfl⟩
        rw [← hr] at h
        have hc0 : r.2.1 = 0 := by
          by_cases hc : r.2.1 = 0
          · exact hc
          · rw [evApp, if_pos hc, failV] at h; simp at h; exact absurd h.2.1 hc
        have hra : ev fuel L a env = (r.1, 0, r.2.2) := by rw [← hr]; exact res_eta hc0 rfl
        refine one (k := fun rec r => evApp rec r b env) hra (fun rec r hr => evApp_fail b env rec r hr) ?_
        rw [evApp, if_neg (by simp [hc0])] at h
        split at h
        · rename_i p x body cenv hits
          split at h
          · rename_i hpc
            refine conv (g' := fun rec m => evBody rec (rec m b env) x body cenv) (fun rec m => ?_) ?_
            · rw [evApp, if_neg (by simp)]
              simp only
              rw [hits]
              simp only
              rw [if_pos hpc]
            obtain ⟨q, hq'⟩ : ∃ q, q = ev fuel r.2.2 b env := ⟨_, rfl⟩
            rw [← hq'] at h
            have hq0 : q.2.1 = 0 := by
              by_cases hc : q.2.1 = 0
              · exact hc
              · rw [evBody, if_pos hc, failV] at h; simp at h; exact absurd h.2.1 hc
            have hqa : ev fuel r.2.2 b env = (q.1, 0, q.2.2) := by rw [← hq']; exact res_eta hq0 rfl
            refine two (k := fun rec q => evBody rec q x body cenv) hqa (fun rec r hr => evBody_fail x body cenv rec r hr) ?_
            rw [evBody, if_neg (by simp [hq0])] at h
            split at h
            · rename_i hok
              refine conv (fun rec m => ?_) (last h)
              rw [evBody, if_neg (by simp)]
              simp only
              rw [if_pos hok]
            · simp [stuck] at h
          · simp [stuck] at h
        · simp [stuck] at h
    · rename_i a b c
      by_cases hq : isSym a ⟨#[108, 97, 109, 98, 100, 97]⟩ = true
      · rw [if_pos hq] at h
        refine conv (fun rec m => by rw [if_pos hq]) ?_
        unfold evLam at h ⊢
        split at h
        · rename_i x hx
          split at h
          · rename_i hc
            exact conv (fun rec m => by rw [if_pos hc]) (keep h)
          · simp [stuck] at h
        · simp [stuck] at h
      rw [if_neg hq] at h
      by_cases hc : isSym a ⟨#[99, 111, 110, 115]⟩ = true
      · rw [if_pos hc] at h
        refine conv (fun rec m => by rw [if_neg hq, if_pos hc]) ?_
        obtain ⟨r, hr⟩ : ∃ r, r = ev fuel L b env := ⟨_, rfl⟩
        rw [← hr] at h
        have hc0 : r.2.1 = 0 := by
          by_cases hc : r.2.1 = 0
          · exact hc
          · rw [evCons, if_pos hc, failV] at h; simp at h; exact absurd h.2.1 hc
        have hra : ev fuel L b env = (r.1, 0, r.2.2) := by rw [← hr]; exact res_eta hc0 rfl
        refine one (k := fun rec r => evCons rec r c env) hra (fun rec r hr => evCons_fail c env rec r hr) ?_
        rw [evCons, if_neg (by simp [hc0])] at h
        simp only at h
        obtain ⟨q, hq'⟩ : ∃ q, q = ev fuel r.2.2 c env := ⟨_, rfl⟩
        rw [← hq'] at h
        have hq0 : q.2.1 = 0 := by
          by_cases hc : q.2.1 = 0
          · exact hc
          · rw [if_pos hc, failV] at h; simp at h; exact absurd h.2.1 hc
        have hqa : ev fuel r.2.2 c env = (q.1, 0, q.2.2) := by rw [← hq']; exact res_eta hq0 rfl
        rw [if_neg (by simp [hq0])] at h
        refine conv (g' := fun rec m => (fun (_ : Nat → Tm → Tm → Res) (q : Res) => if q.2.1 ≠ 0 then failV q else keepV (Tm.pair r.1 q.1) q.2.2) rec (rec m c env)) (fun rec m => ?_) (two (k := fun _ q => if q.2.1 ≠ 0 then failV q else keepV (Tm.pair r.1 q.1) q.2.2) hqa (fun rec r hr => by rw [if_pos hr]; rfl) ?_)
        · rw [evCons, if_neg (by simp)]
        · exact conv (fun rec m => by rw [if_neg (by simp)]) (keep h)
      · rw [if_neg hc] at h; simp [stuck] at h
    · rename_i a b c d
      by_cases hq : isSym a ⟨#[105, 102]⟩ = true
      · rw [if_pos hq] at h
        refine conv (fun rec m => by rw [if_pos hq]) ?_
        obtain ⟨r, hr⟩ : ∃ r, r = ev fuel L b env := ⟨_, rfl⟩
        rw [← hr] at h
        have hc0 : r.2.1 = 0 := by
          by_cases hc : r.2.1 = 0
          · exact hc
          · rw [evIf, if_pos hc, failV] at h; simp at h; exact absurd h.2.1 hc
        have hra : ev fuel L b env = (r.1, 0, r.2.2) := by rw [← hr]; exact res_eta hc0 rfl
        refine one (k := fun rec r => evIf rec r c d env) hra (fun rec r hr => evIf_fail c d env rec r hr) ?_
        rw [evIf, if_neg (by simp [hc0])] at h
        by_cases hz : r.1.kind ≠ 0
        · rw [if_pos hz] at h
          exact conv (fun rec m => by rw [evIf, if_neg (by simp)]; simp only; rw [if_pos hz]) (last h)
        · rw [if_neg hz] at h
          exact conv (fun rec m => by rw [evIf, if_neg (by simp)]; simp only; rw [if_neg hz]) (last h)
      · rw [if_neg hq] at h; simp [stuck] at h
    · simp [stuck] at h

theorem list_its (l : List Tm) : (Tm.list l Tm.nil).its = l ∧ (Tm.list l Tm.nil).tl = Tm.nil := by
  induction l with
  | nil => exact ⟨rfl, rfl⟩
  | cons x l ih =>
    have h := its_pair (m := 0) (s := ByteArray.empty) (d := x) (r := Tm.list l Tm.nil)
    exact ⟨h.1.trans (by rw [ih.1]), h.2.trans ih.2⟩
theorem St_form {x : Tm} {l : List Tm} {env v : Tm} {n : Nat} (h : Takes (fun rec m => evForm rec m (x :: l) env) v n) : St (Tm.list (x :: l) Tm.nil) env v (n + 1) := by
  refine St_step (Takes_congr h (fun rec m => ?_))
  have hk : (Tm.list (x :: l) Tm.nil).kind ≠ 2 := by simp [Tm.list, Tm.pair, Tm.kind]
  have ht : (Tm.list (x :: l) Tm.nil).tl.kind = 0 := by rw [(list_its _).2]; rfl
  rw [evStep_list hk ht, (list_its _).1]
abbrev sCons : Tm := Tm.sym ⟨#[99, 111, 110, 115]⟩
abbrev sCar : Tm := Tm.sym ⟨#[99, 97, 114]⟩
abbrev sCdr : Tm := Tm.sym ⟨#[99, 100, 114]⟩
abbrev sQuote : Tm := Tm.sym ⟨#[113, 117, 111, 116, 101]⟩
abbrev sIf : Tm := Tm.sym ⟨#[105, 102]⟩
theorem St_cons {a b env v w : Tm} {na nb : Nat} (ha : St a env v na) (hb : St b env w nb) (hok : (Tm.pair v w).ok = true) : St (Tm.list [sCons, a, b] Tm.nil) env (Tm.pair v w) (na + nb + 1) := by
  refine St_form ?_
  refine Takes_congr (Takes_bind (k := fun rec r => evCons rec r b env) ha (fun rec r hr => evCons_fail b env rec r hr) (n2 := nb) ?_) (fun rec m => ?_)
  · refine Takes_congr (Takes_bind (n2 := 0) (k := fun _ q => if q.2.1 ≠ 0 then failV q else keepV (Tm.pair v q.1) q.2.2) hb (fun rec r hr => by rw [if_pos hr]; rfl) (Takes_congr (Takes_keep hok) (fun rec m => by rw [if_neg (by simp)]))) (fun rec m => ?_)
    rw [evCons, if_neg (by simp)]
  · rw [evForm, if_neg (by decide +kernel), if_pos (by decide +kernel)]
theorem St_sel {p env v w : Tm} {n : Nat} (hp : St p env (Tm.pair v w) n) : St (Tm.list [sCar, p] Tm.nil) env v (n + 1) ∧ St (Tm.list [sCdr, p] Tm.nil) env w (n + 1) := by
  refine ⟨St_form ?_, St_form ?_⟩
  · refine Takes_congr (Takes_bind (n2 := 0) (k := fun _ r => evSel r true) hp (fun rec r hr => evSel_fail rec r _ hr) (Takes_congr (Takes_ret v) (fun rec m => by rfl))) (fun rec m => ?_)
    rw [evForm, if_neg (by decide +kernel), if_pos (by decide +kernel), show isSym sCar ⟨#[99, 97, 114]⟩ = true by decide +kernel]
  · refine Takes_congr (Takes_bind (n2 := 0) (k := fun _ r => evSel r false) hp (fun rec r hr => evSel_fail rec r _ hr) (Takes_congr (Takes_ret w) (fun rec m => by rfl))) (fun rec m => ?_)
    rw [evForm, if_neg (by decide +kernel), if_pos (by decide +kernel), show isSym sCdr ⟨#[99, 97, 114]⟩ = false by decide +kernel]
theorem St_none (env : Tm) : St (Tm.list [sQuote, Tm.nil] Tm.nil) env Tm.nil 1 := by
  refine St_form (Takes_congr (Takes_ret Tm.nil) (fun rec m => ?_))
  rw [evForm, if_pos (by decide +kernel), if_neg (by decide +kernel)]
theorem St_pick {q a b env w : Tm} {n nb : Nat} (hq : St q env Tm.nil n) (hb : St b env w nb) : St (Tm.list [sIf, q, a, b] Tm.nil) env w (n + nb + 1) := by
  refine St_form ?_
  refine Takes_congr (Takes_bind (k := fun rec r => evIf rec r a b env) hq (fun rec r hr => evIf_fail a b env rec r hr) (n2 := nb) ?_) (fun rec m => ?_)
  · refine Takes_congr hb (fun rec m => ?_)
    rw [evIf, if_neg (by simp)]
    simp only
    rw [if_neg (by decide)]
  · rw [evForm, if_pos (by decide +kernel)]

theorem runL_ok' (e env : Tm) (st : Int) : (runL e env st).1.ok = true := by
  unfold runL
  split
  · rename_i h
    split
    · split
      · exact (ev_good _ _ _ _ (gnd_ok h.1) (gnd_ok h.2)).ok
      · exact nil_ok
    · exact nil_ok
  · exact nil_ok
theorem runL_code (e env : Tm) (st : Int) : (runL e env st).2.2 ≤ 2 := by
  unfold runL
  split
  · rename_i h
    split
    · split
      · simp
      · exact (ev_good _ _ _ _ (gnd_ok h.1) (gnd_ok h.2)).code
    · simp
  · simp
theorem runL_takes {e env : Tm} {st : Int} (h : (runL e env st).2.2 = 0) : e.gnd = true ∧ env.gnd = true ∧ ∃ n : Nat, 1 ≤ n ∧ (n : Int) ≤ st ∧ (runL e env st).2.1 = n ∧ St e env (runL e env st).1 n := by
  unfold runL at h ⊢
  split at h
  · rename_i hg
    rw [if_pos hg]
    split at h
    · rename_i hst
      rw [if_pos hst]
      split at h
      · rename_i hc
        rw [if_pos hc]
        obtain ⟨n, h1, h2, h3, h4⟩ := ev_takes st.toNat st.toNat e env _ _ (res_eta hc rfl)
        refine ⟨hg.1, hg.2, n, h1, by omega, ?_, h4⟩
        simp only; omega
      · rename_i hc; exact absurd h hc
    · simp at h
  · simp at h
theorem runL_of {e env v : Tm} {n : Nat} {st : Int} (he : e.gnd = true) (hv : env.gnd = true) (h : St e env v n) (h2 : st ≤ 1000) (h1 : 1 ≤ n) : ((n : Int) ≤ st → runL e env st = (v, n, 0)) ∧ (st < n → (runL e env st).2.2 = 2) := by
  have h' := h st.toNat st.toNat (Nat.le_refl _)
  refine ⟨fun hn => ?_, fun hn => ?_⟩
  · have hst : 1 ≤ st ∧ st ≤ 1000 := ⟨by omega, h2⟩
    have h3 : ev st.toNat st.toNat e env = (v, 0, st.toNat - n) := h'.1 (by omega)
    unfold runL
    rw [if_pos ⟨he, hv⟩, if_pos hst, h3]
    simp only
    rw [if_pos trivial]
    have : st.toNat - (st.toNat - n) = n := by omega
    rw [this]
  · unfold runL
    rw [if_pos ⟨he, hv⟩]
    by_cases hst : 1 ≤ st ∧ st ≤ 1000
    · rw [if_pos hst]
      have h3 : (ev st.toNat st.toNat e env).2.1 = 2 := h'.2 (by omega)
      rw [if_neg (by omega)]
      exact h3
    · rw [if_neg hst]
theorem gnd_parts {t : Tm} (h : t.gnd = true) : t.wf = true ∧ t.cnt ≤ 5000 ∧ t.ground = true := by
  simp only [Tm.gnd, Bool.and_eq_true] at h
  exact ⟨(ok_wf h.1).1, (ok_wf h.1).2, h.2⟩
theorem gnd_pair {a b : Tm} (ha : a.gnd = true) (hb : b.gnd = true) (hc : a.cnt + b.cnt ≤ 4999) : (Tm.pair a b).gnd = true := by
  obtain ⟨h1, h2, h3⟩ := gnd_parts ha
  obtain ⟨k1, k2, k3⟩ := gnd_parts hb
  have hc' : (Tm.pair a b).cnt ≤ 5000 := by rw [Tm.pair, cnt_pair]; omega
  have hw : (Tm.pair a b).wf = true := by rw [Tm.pair, wf_pair rfl rfl rfl, h1, k1]; rfl
  have hg : (Tm.pair a b).ground = true := by rw [Tm.pair, ground_pair, h3, k3]; rfl
  simp [Tm.gnd, Tm.ok, hw, hc', hg]
theorem nil_gnd : Tm.nil.gnd = true := by decide +kernel
theorem gnd_list2 {a b : Tm} (ha : a.gnd = true) (hb : b.gnd = true) (hc : a.cnt + b.cnt ≤ 4990) : (Tm.list [a, b] Tm.nil).gnd = true := by
  have hn : (Tm.pair b Tm.nil).cnt = 1 + b.cnt + 1 := by rw [Tm.pair, cnt_pair]; rfl
  have h1 : Tm.nil.cnt = 1 := rfl
  show (Tm.pair a (Tm.pair b Tm.nil)).gnd = true
  exact gnd_pair ha (gnd_pair hb nil_gnd (by omega)) (by omega)
theorem gnd_list3 {a b c : Tm} (ha : a.gnd = true) (hb : b.gnd = true) (hc : c.gnd = true) (hn : a.cnt + b.cnt + c.cnt ≤ 4980) : (Tm.list [a, b, c] Tm.nil).gnd = true := by
  have h1 : (Tm.list [b, c] Tm.nil).cnt = 1 + b.cnt + (1 + c.cnt + 1) := by
    show (Tm.mk 4 0 ByteArray.empty [b, .mk 4 0 ByteArray.empty [c, Tm.nil]]).cnt = _
    rw [cnt_pair, cnt_pair]; rfl
  show (Tm.pair a (Tm.list [b, c] Tm.nil)).gnd = true
  exact gnd_pair ha (gnd_list2 hb hc (by omega)) (by omega)
theorem cnt_list2 {a b : Tm} : (Tm.list [a, b] Tm.nil).cnt = a.cnt + b.cnt + 3 := by
  show (Tm.mk 4 0 ByteArray.empty [a, .mk 4 0 ByteArray.empty [b, Tm.nil]]).cnt = _
  rw [cnt_pair, cnt_pair]
  have h1 : Tm.nil.cnt = 1 := rfl
  omega
theorem cnt_list3 {a b c : Tm} : (Tm.list [a, b, c] Tm.nil).cnt = a.cnt + b.cnt + c.cnt + 4 := by
  have : (Tm.list [a, b, c] Tm.nil) = Tm.mk 4 0 ByteArray.empty [a, Tm.list [b, c] Tm.nil] := rfl
  rw [this, cnt_pair, cnt_list2]; omega
theorem cnt_list4 {a b c d : Tm} : (Tm.list [a, b, c, d] Tm.nil).cnt = a.cnt + b.cnt + c.cnt + d.cnt + 5 := by
  have : (Tm.list [a, b, c, d] Tm.nil) = Tm.mk 4 0 ByteArray.empty [a, Tm.list [b, c, d] Tm.nil] := rfl
  rw [this, cnt_pair, cnt_list3]; omega
theorem gnd_list4 {a b c d : Tm} (ha : a.gnd = true) (hb : b.gnd = true) (hc : c.gnd = true) (hd : d.gnd = true) (hn : a.cnt + b.cnt + c.cnt + d.cnt ≤ 4970) : (Tm.list [a, b, c, d] Tm.nil).gnd = true := by
  show (Tm.pair a (Tm.list [b, c, d] Tm.nil)).gnd = true
  exact gnd_pair ha (gnd_list3 hb hc hd (by omega)) (by rw [cnt_list3]; omega)
abbrev pairT (a b : Tm) : Tm := Tm.list [sCons, a, b] Tm.nil
abbrev headT (a b : Tm) : Tm := Tm.list [sCar, pairT a b] Tm.nil
abbrev tailT (a b : Tm) : Tm := Tm.list [sCdr, pairT a b] Tm.nil
abbrev noneT : Tm := Tm.list [sQuote, Tm.nil] Tm.nil
abbrev pickT (a b : Tm) : Tm := Tm.list [sIf, noneT, a, b] Tm.nil
structure LispLaw (a b env : Tm) (v w : Tm) (n : Int) : Prop where
  n1 : 1 ≤ n
  n2 : n ≤ 60
  pg : (pairT a b).gnd = true
  hg : (headT a b).gnd = true
  tg : (tailT a b).gnd = true
  kg : (pickT a b).gnd = true
  head : (runL (headT a b) env 200).2.2 = 0 ∧ (runL (headT a b) env 200).1 = v
  tail : (runL (tailT a b) env 200).2.2 = 0 ∧ (runL (tailT a b) env 200).1 = w
  pick : (runL (pickT a b) env 200).2.2 = 0 ∧ (runL (pickT a b) env 200).1 = w
  same : (runL a env n).2.2 = 0 ∧ (runL a env n).1 = v
  short : (runL a env (n - 1)).2.2 = 2
theorem lisp_law {a b env : Tm} (h1 : (runL a env 60).2.2 = 0) (h2 : (runL b env 60).2.2 = 0) (hs : (runL a env 60).1.cnt + (runL b env 60).1.cnt ≤ 60) (hca : a.cnt ≤ 2000) (hcb : b.cnt ≤ 2000) :
    LispLaw a b env (runL a env 60).1 (runL b env 60).1 ((runL a env 60).2.1 : Int) := by
  obtain ⟨ga, ge, n, hn1, hn2, hn3, hta⟩ := runL_takes h1
  obtain ⟨gb, _, k, hk1, hk2, hk3, htb⟩ := runL_takes h2
  have okv := runL_ok' a env 60
  have okw := runL_ok' b env 60
  rw [hn3]
  generalize (runL a env 60).1 = v at *
  generalize (runL b env 60).1 = w at *
  have hok : (Tm.pair v w).ok = true := by
    have hw : (Tm.pair v w).wf = true := by rw [Tm.pair, wf_pair rfl rfl rfl, (ok_wf okv).1, (ok_wf okw).1]; rfl
    have hc : (Tm.pair v w).cnt ≤ 5000 := by rw [Tm.pair, cnt_pair]; omega
    simp [Tm.ok, hw, hc]
  have c1 : sCons.cnt = 1 := rfl
  have c2 : sCar.cnt = 1 := rfl
  have c3 : sCdr.cnt = 1 := rfl
  have c4 : sIf.cnt = 1 := rfl
  have c5 : sQuote.cnt = 1 := rfl
  have c6 : Tm.nil.cnt = 1 := rfl
  have pc : (pairT a b).cnt = 1 + a.cnt + b.cnt + 4 := by rw [cnt_list3, c1]
  have nc : noneT.cnt = 5 := by rw [cnt_list2, c5, c6]
  have gp : (pairT a b).gnd = true := gnd_list3 (by decide +kernel) ga gb (by omega)
  have gh : (headT a b).gnd = true := gnd_list2 (by decide +kernel) gp (by omega)
  have gt : (tailT a b).gnd = true := gnd_list2 (by decide +kernel) gp (by omega)
  have gn : noneT.gnd = true := gnd_list2 (by decide +kernel) nil_gnd (by omega)
  have gk : (pickT a b).gnd = true := gnd_list4 (by decide +kernel) gn ga gb (by omega)
  have sp := St_cons hta htb hok
  have ssel := St_sel sp
  have spick := St_pick (a := a) (St_none env) htb
  have rh := (runL_of gh ge ssel.1 (st := 200) (by omega) (by omega)).1 (by omega)
  have rt := (runL_of gt ge ssel.2 (st := 200) (by omega) (by omega)).1 (by omega)
  have rk := (runL_of gk ge spick (st := 200) (by omega) (by omega)).1 (by omega)
  have ra := (runL_of ga ge hta (st := (n : Int)) (by omega) hn1).1 (by omega)
  have rs := (runL_of ga ge hta (st := (n : Int) - 1) (by omega) hn1).2 (by omega)
  exact ⟨by omega, by omega, gp, gh, gt, gk, by rw [rh]; exact ⟨rfl, rfl⟩, by rw [rt]; exact ⟨rfl, rfl⟩, by rw [rk]; exact ⟨rfl, rfl⟩, by rw [ra]; exact ⟨rfl, rfl⟩, rs⟩
end Go.Proofs.Ytjkabbkaeioibaa
