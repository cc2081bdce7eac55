/- Evaluation as a plain function; what it hands back is of the right form and size. -/
import Derived.Test.YtjkabbkaeioibaaLook3
namespace Go.Proofs.Ytjkabbkaeioibaa
open Go.RowKit

/-- is the term this symbol? -/
def isSym (t : Tm) (s : ByteArray) : Bool := t.kind == 2 && t.name.toList == s.toList
mutual
def Tm.hasSym : Tm → ByteArray → Bool
  | .mk k n s xs, b => if k = 4 then hasSymL xs b else isSym (.mk k n s xs) b
def hasSymL : List Tm → ByteArray → Bool
  | [], _ => false
  | t :: ts, b => t.hasSym b || hasSymL ts b
end
abbrev Res := Tm × Nat × Nat
def stuck (left : Nat) : Res := (Tm.nil, 1, left)
/-- a value, if it is of a size that is taken -/
def keepV (t : Tm) (left : Nat) : Res := if t.ok = true then (t, 0, left) else stuck left
def failV (r : Res) : Res := (Tm.nil, r.2.1, r.2.2)
def evSel (r : Res) (car : Bool) : Res :=
  if r.2.1 ≠ 0 then failV r else match r.1 with
    | .mk k _ _ [a, b] => if k = 4 then ((if car = true then a else b), 0, r.2.2) else stuck r.2.2
    | _ => stuck r.2.2
def cloT (x body env : Tm) : Tm := Tm.list [Tm.sym ⟨#[99, 108, 111, 115, 117, 114, 101]⟩, x, body, env] Tm.nil
def evLam (left : Nat) (b c env : Tm) : Res := match b.its with
  | [x] => if b.tl.kind = 0 ∧ x.kind = 2 then keepV (cloT x c env) left else stuck left
  | _ => stuck left
def evCons (rec : Nat → Tm → Tm → Res) (r : Res) (c env : Tm) : Res :=
  if r.2.1 ≠ 0 then failV r else
    let q := rec r.2.2 c env
    if q.2.1 ≠ 0 then failV q else keepV (Tm.pair r.1 q.1) q.2.2
def evIf (rec : Nat → Tm → Tm → Res) (r : Res) (c d env : Tm) : Res :=
  if r.2.1 ≠ 0 then failV r else if r.1.kind ≠ 0 then rec r.2.2 c env else rec r.2.2 d env
def evBody (rec : Nat → Tm → Tm → Res) (q : Res) (x body cenv : Tm) : Res :=
  if q.2.1 ≠ 0 then failV q else
    if (Tm.pair (Tm.pair x q.1) cenv).ok = true then rec q.2.2 body (Tm.pair (Tm.pair x q.1) cenv) else stuck q.2.2
def evApp (rec : Nat → Tm → Tm → Res) (r : Res) (b env : Tm) : Res :=
  if r.2.1 ≠ 0 then failV r else match r.1.its with
    | [p, x, body, cenv] => if r.1.tl.kind = 0 ∧ isSym p ⟨#[99, 108, 111, 115, 117, 114, 101]⟩ = true then evBody rec (rec r.2.2 b env) x body cenv else stuck r.2.2
    | _ => stuck r.2.2
def evForm (rec : Nat → Tm → Tm → Res) (left : Nat) (l : List Tm) (env : Tm) : Res := match l with
  | [a, b] => if isSym a ⟨#[113, 117, 111, 116, 101]⟩ = true then (if b.hasSym ⟨#[99, 108, 111, 115, 117, 114, 101]⟩ = true then stuck left else (b, 0, left))
      else if isSym a ⟨#[99, 97, 114]⟩ = true ∨ isSym a ⟨#[99, 100, 114]⟩ = true then evSel (rec left b env) (isSym a ⟨#[99, 97, 114]⟩)
      else evApp rec (rec left a env) b env
  | [a, b, c] => if isSym a ⟨#[108, 97, 109, 98, 100, 97]⟩ = true then evLam left b c env
      else if isSym a ⟨#[99, 111, 110, 115]⟩ = true then evCons rec (rec left b env) c env else stuck left
  | [a, b, c, d] => if isSym a ⟨#[105, 102]⟩ = true then evIf rec (rec left b env) c d env else stuck left
  | _ => stuck left
def evLook (o : Option Tm) (left : Nat) : Res := match o with | none => stuck left | some v => (v, 0, left)
noncomputable def evStep (rec : Nat → Tm → Tm → Res) (left : Nat) (e env : Tm) : Res :=
  if e.kind = 2 then evLook (lookL e env.its) left
  else if e.tl.kind ≠ 0 then stuck left else evForm rec left e.its env
/-- at most 'left' steps -/
noncomputable def ev : Nat → Nat → Tm → Tm → Res
  | 0, left, _, _ => (Tm.nil, 2, left)
  | fuel + 1, left, e, env => if left = 0 then (Tm.nil, 2, left) else evStep (ev fuel) (left - 1) e env

/-- what an evaluation hands back: a good value and 0, or nothing and another code; no more steps than before -/
structure GoodR (r : Res) (left : Nat) : Prop where
  ok : r.1.ok = true
  code : r.2.1 ≤ 2
  bad : r.2.1 ≠ 0 → r.1 = Tm.nil
  left : r.2.2 ≤ left
theorem nil_ok : Tm.nil.ok = true := by simp [Tm.ok, Tm.nil, Tm.wf, atomB, Tm.cnt, cntL]
theorem stuck_good (left : Nat) : GoodR (stuck left) left := ⟨nil_ok, by simp [stuck], fun _ => rfl, Nat.le_refl _⟩
theorem keepV_good (t : Tm) (left : Nat) : GoodR (keepV t left) left := by
  unfold keepV; split
  · rename_i h; exact ⟨h, by simp, fun h => absurd rfl h, Nat.le_refl _⟩
  · exact stuck_good left
theorem GoodR.mono {r : Res} {a b : Nat} (h : GoodR r a) (hab : a ≤ b) : GoodR r b := ⟨h.ok, h.code, h.bad, Nat.le_trans h.left hab⟩
theorem GoodR.fail {r : Res} {a : Nat} (h : GoodR r a) : GoodR (failV r) a := ⟨nil_ok, h.code, fun _ => rfl, h.left⟩
theorem ok_parts {n : Int} {s : ByteArray} {x y : Tm} (h : (Tm.mk 4 n s [x, y]).ok = true) : x.ok = true ∧ y.ok = true := by
  obtain ⟨h1, h2⟩ := ok_wf h
  obtain ⟨_, _, x', y', hxy, hx, hy⟩ := wf_four h1
  cases hxy
  rw [cnt_pair] at h2
  simp [Tm.ok, hx, hy]; omega
theorem its_ok {t : Tm} (h : t.ok = true) : ∀ x ∈ t.its, x.ok = true := by
  obtain ⟨h1, h2⟩ := ok_wf h
  intro x hx
  have h3 := (its_wf h1).1 x hx
  have h4 := its_cnt t
  have h5 := cnt_mem hx
  simp [Tm.ok, h3]; omega
theorem lookL_ok {x e b : Tm} (h : e.ok = true) (hb : lookL x e.its = some b) : b.ok = true := by
  obtain ⟨h1, h2⟩ := ok_wf h
  have h3 := lookL_wf (its_wf h1).1 hb
  have h4 := lookL_cnt hb
  have h5 := its_cnt e
  simp [Tm.ok, h3]; omega
def GoodRec (rec : Nat → Tm → Tm → Res) : Prop := ∀ left e env, e.ok = true → env.ok = true → GoodR (rec left e env) left
theorem evSel_good {r : Res} {left : Nat} (h : GoodR r left) (car : Bool) : GoodR (evSel r car) left := by
  unfold evSel
  split
  · exact h.fail
  · obtain ⟨v, c, lf⟩ := r
    rename_i hc
    have hok := h.ok
    have hl := h.left
    simp at hc; subst hc
    split
    · rename_i k n s a b heq
      simp only at heq; subst heq
      split
      · rename_i hk; subst hk
        obtain ⟨ha, hb⟩ := ok_parts hok
        exact ⟨by cases car <;> simp [ha, hb], by simp, fun h => absurd rfl h, hl⟩
      · exact (stuck_good _).mono hl
    · exact (stuck_good _).mono hl
theorem ev_good (fuel : Nat) : GoodRec (ev fuel) := by
  induction fuel with
  | zero => intro left e env _ _; exact ⟨nil_ok, by simp [ev], fun _ => rfl, Nat.le_refl _⟩
  | succ fuel ih =>
    intro left e env he henv
    rw [ev]
    split
    · exact ⟨nil_ok, by simp, fun _ => rfl, Nat.le_refl _⟩
    · refine GoodR.mono (a := left - 1) ?_ (by omega)
      generalize left - 1 = left
      unfold evStep
      split
      · unfold evLook
        split
        · exact stuck_good _
        · rename_i v hv; exact ⟨lookL_ok henv hv, by simp, fun h => absurd rfl h, Nat.le_refl _⟩
      · split
        · exact stuck_good _
        · have hit := its_ok he
          generalize e.its = l at *
          unfold evForm
          split
          · rename_i a b
            have ha := hit a (by simp); have hb := hit b (by simp)
            split
            · split
              · exact stuck_good _
              · exact ⟨hb, by simp, fun h => absurd rfl h, Nat.le_refl _⟩
            · split
              · exact evSel_good (ih left b env hb henv) _
              · have h1 := ih left a env ha henv
                unfold evApp
                split
                · exact h1.fail
                · have hr := its_ok h1.ok
                  split
                  · rename_i p x body cenv heq
                    rw [heq] at hr
                    have hbody := hr body (by simp)
                    split
                    · have h2 := ih (ev fuel left a env).2.2 b env hb henv
                      unfold evBody
                      split
                      · exact h2.fail.mono h1.left
                      · split
                        · rename_i hin
                          exact (ih _ body _ hbody hin).mono (Nat.le_trans h2.left h1.left)
                        · exact (stuck_good _).mono (Nat.le_trans h2.left h1.left)
                    · exact (stuck_good _).mono h1.left
                  · exact (stuck_good _).mono h1.left
          · rename_i a b c
            have hb := hit b (by simp); have hc := hit c (by simp)
            split
            · unfold evLam
              split
              · split
                · exact keepV_good _ _
                · exact stuck_good _
              · exact stuck_good _
            · split
              · have h1 := ih left b env hb henv
                unfold evCons
                split
                · exact h1.fail
                · have h2 := ih (ev fuel left b env).2.2 c env hc henv
                  simp only
                  split
                  · exact h2.fail.mono h1.left
                  · exact (keepV_good _ _).mono (Nat.le_trans h2.left h1.left)
              · exact stuck_good _
          · rename_i a b c d
            have hb := hit b (by simp); have hc := hit c (by simp); have hd := hit d (by simp)
            split
            · have h1 := ih left b env hb henv
              unfold evIf
              split
              · exact h1.fail
              · split
                · exact (ih _ c env hc henv).mono h1.left
                · exact (ih _ d env hd henv).mono h1.left
            · exact stuck_good _
          · exact stuck_good _
end Go.Proofs.Ytjkabbkaeioibaa
