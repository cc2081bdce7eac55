/- equalBindings, NewBindings, rest, equations, JoinSubst. orderBindings, moreGeneral. sort.SliceStable at no more than two substitutions. MinimalDisequalities. States: how they stand in cells; kinds and marks that are empty; copyState, NewState. settle, at states with no kinds and no marks. Goals: plain data and how they stand in cells. Parts of slices; require. What goes through a goal: eachGoal, goalVars, varsBelow, hasKind, negative; programs: relation, callsFit. IsName, IsRelName. Programs: relation, callsFit, goalNodes, GoalOk, ProgramOk, positive, canStart. -/
import Derived.Test.YtljpfnjpifhdlaaGreatDoorZ3
import Derived.Test.YtljpfnjpifhdlaaGreatDoorZ2
import Derived.WalkSpells
import Derived.WalkLawsBesides
import Derived.BigQuiet
import Derived.Lib.Hide
namespace Go.Proofs.YtljpfnjpifhdlaaGreatDoor
open Go
def eqI : Int → Int → Bool
  | .ofNat a, .ofNat b => Nat.beq a b
  | .negSucc a, .negSucc b => Nat.beq a b
  | _, _ => false
theorem eqI_iff : ∀ {a b : Int}, eqI a b = true ↔ a = b
  | .ofNat a, .ofNat b => by simp only [eqI]; exact ⟨fun h => congrArg _ (Nat.eq_of_beq_eq_true h), fun h => by cases h; simp⟩
  | .negSucc a, .negSucc b => by simp only [eqI]; exact ⟨fun h => congrArg _ (Nat.eq_of_beq_eq_true h), fun h => by cases h; simp⟩
  | .ofNat a, .negSucc b => by simp [eqI]
  | .negSucc a, .ofNat b => by simp [eqI]
def eqT : T → T → Bool
  | .nil, .nil => true
  | .var a, .var b => Nat.beq a b
  | .num a, .num b => eqI a b
  | .pair a b, .pair c d => eqT a c && eqT b d
  | _, _ => false
theorem ordI_zero {a b : Int} : ordI a b = 0 ↔ a = b := by
  unfold ordI
  by_cases h1 : a < b
  · rw [if_pos h1]; constructor
    · intro h; cases h
    · intro h; omega
  · rw [if_neg h1]
    by_cases h2 : b < a
    · rw [if_pos h2]; constructor
      · intro h; cases h
      · intro h; omega
    · rw [if_neg h2]; constructor
      · intro _; omega
      · intro _; rfl
theorem eqT_iff : ∀ {t t' : T}, t.fit = true → t'.fit = true → (t.cmp t' = 0 ↔ eqT t t' = true)
  | .pair a b, .pair c d, h, h' => by
    simp only [T.fit, Bool.and_eq_true] at h h'
    simp only [T.cmp, eqT, Bool.and_eq_true]
    rw [← eqT_iff h.1 h'.1, ← eqT_iff h.2 h'.2]
    by_cases hc : a.cmp c = 0
    · simp [hc]
    · simp [hc]
  | .nil, t', _, h' => by cases t' <;> first | (simp [T.fit] at h'; done) | (simp [T.cmp, T.kind, T.int, eqT, ordI])
  | .var n, t', _, h' => by
    cases t' with
    | var m => simp only [T.cmp, T.kind, if_true, T.int, ordI_zero, eqT]; exact ⟨fun h => by simp; omega, fun h => by have := Nat.eq_of_beq_eq_true h; omega⟩
    | sym _ => cases h'
    | _ => simp [T.cmp, T.kind, eqT, ordI]
  | .num n, t', _, h' => by
    cases t' with
    | num m => simp only [T.cmp, T.kind, if_true, T.int, ordI_zero, eqT, eqI_iff]
    | sym _ => cases h'
    | _ => simp [T.cmp, T.kind, eqT, ordI]
  | .sym _, _, h, _ => by cases h
  | .pair a b, .nil, _, _ => by simp [T.cmp, T.kind, eqT, ordI]
  | .pair a b, .var _, _, _ => by simp [T.cmp, T.kind, eqT, ordI]
  | .pair a b, .num _, _, _ => by simp [T.cmp, T.kind, eqT, ordI]
def eqSb : Sb → Sb → Bool
  | [], [] => true
  | (v, t) :: s, (v', t') :: s' => Nat.beq v v' && (eqT t t' && eqSb s s')
  | _, _ => false
theorem eqSb_len : ∀ {s s' : Sb}, s.length ≠ s'.length → eqSb s s' = false
  | [], [], h => absurd rfl h
  | [], _ :: _, _ => rfl
  | _ :: _, [], _ => rfl
  | (v, t) :: s, (v', t') :: s', h => by
    simp only [eqSb, eqSb_len (s := s) (s' := s') (fun e => h (by simp [e])), Bool.and_false]
theorem equalTerms_e {t t' : T} {us vs : List Value} {M M' : Nat → Prop} {w : World} (h : rdT M w t us) (h' : rdT M' w t' vs) (hf : t.fit = true) (hf' : t'.fit = true) : Calls Tryz.prog 138 #[.agg us.toArray, .agg vs.toArray] w (Ret fun v w' => v = .bool (eqT t t') ∧ Mod [] w w') := by
  refine (equalTerms_c h h' hf hf').mono ?_
  rintro e w' ⟨v, rfl, rfl, hm⟩
  refine ⟨_, rfl, ?_, hm⟩
  congr 1
  have := eqT_iff hf hf'
  by_cases hc : t.cmp t' = 0
  · rw [this.1 hc, hc]; rfl
  · cases he : eqT t t' with
    | false => simp [hc]
    | true => exact absurd (this.2 he) hc
def Fits (s : Sb) : Prop := ∀ x ∈ s, x.2.fit = true
theorem SubOk.fits {s : Sb} (h : SubOk s) : Fits s := fun x hx => by
  have := (h.ok x hx).2
  simp only [T.ok, Bool.and_eq_true] at this
  exact this.1
theorem ValOk.fits {s : Sb} (h : ValOk s) : Fits s := fun x hx => by
  have := (h.ok x hx).2
  simp only [T.ok, Bool.and_eq_true] at this
  exact this.1
theorem drop_at {α : Type} {l : List α} {k : Nat} {x : α} (h : l[k]? = some x) : l.drop k = x :: l.drop (k + 1) := by
  obtain ⟨hk, rfl⟩ := List.getElem?_eq_some_iff.1 h
  exact List.drop_eq_getElem_cons hk

set_option maxRecDepth 100000 in
theorem equalBindings_c {s s' : Sb} {v v' : Value} {M : Nat → Prop} {w : World} (h : (LSl LB).rd M w s [v]) (h' : (LSl LB).rd M w s' [v']) (hf : Fits s) (hf' : Fits s') (hl : s.length ≤ 100000) :
    Calls Tryz.prog 110 #[v, v'] w (Ret fun v w' => v = .bool (eqSb s s') ∧ Mod [] w w') := by
  obtain ⟨a, c, rfl⟩ := rdSl_val h
  obtain ⟨a', c', rfl⟩ := rdSl_val h'
  refine enter1 Tryz.func110 rfl Tryz.ntmps110 rfl (by simp) ?_
  have H := ((Holds.start w []).arg (L := LSl LB) h).arg (L := LSl LB) h'
  by_cases hll : s.length = s'.length
  · (repeat (first | refine qq ?_ | (refine qds H ?_; intro H) | (refine qrb H ?_; intro _ w H) | (refine qrs H ?_; intro w H) | (refine qdr H ?_; intro H)))
    refine W_loop (fun m f w' => ∃ k g, m = s.length - k ∧ k ≤ s.length ∧ f = sl g [(0, .slice a s.length c), (1, .slice a' s'.length c'), (12, .int .i64 s.length), (13, .int .i64 k)] ∧ eqSb s s' = eqSb (s.drop k) (s'.drop k) ∧
      Holds _ [] [] [(LSl LB).dat M s [.slice a s.length c], (LSl LB).dat M s' [.slice a' s'.length c']] w') s.length
      ⟨0, _, rfl, Nat.zero_le _, sl_back ⟨rfl, rfl, rfl, rfl, trivial⟩, rfl, H.sub (.refl _) (by simp)⟩ ?_
    clear H
    rintro m f w ⟨k, g, rfl, hk', rfl, he, H⟩
    by_cases hlt : k < s.length
    · obtain ⟨⟨u, t⟩, hx⟩ : ∃ x, s[k]? = some x := ⟨_, List.getElem?_eq_getElem hlt⟩
      obtain ⟨⟨u', t'⟩, hx'⟩ : ∃ x, s'[k]? = some x := ⟨_, List.getElem?_eq_getElem (by omega)⟩
      have hft := hf _ (List.mem_of_getElem? hx)
      have hft' := hf' _ (List.mem_of_getElem? hx')
      rw [drop_at hx, drop_at hx'] at he
      simp only [eqSb] at he
      obtain ⟨b, o, vs, rfl, _, _, hr, H⟩ := H.elem (L := LB) (M := M) (l := s) (a := a) (n := s.length) (c := c) (by simp) k hx
      obtain ⟨a1, c1, rfl, ht⟩ := LB_at hr
      have H := (H.tl (List.Mem.head _)).add (d := LT.dat M t _) ht
      obtain ⟨b', o', vs', rfl, _, _, hr', H⟩ := H.elem (L := LB) (M := M) (l := s') (a := a') (n := s'.length) (c := c') (by simp) k hx'
      obtain ⟨a2, c2, rfl, ht'⟩ := LB_at hr'
      have H := (H.tl (List.Mem.head _)).add (d := LT.dat M t' _) ht'
      (repeat (first | refine qq ?_ | (refine qds H ?_; intro H) | (refine qrb H ?_; intro _ w H) | (refine qrs H ?_; intro w H) | (refine qdr H ?_; intro H)))
      by_cases huu : u = u'
      · subst huu
        cases hq : eqT t t' with
        | true =>
          refine WD_any 25 [[], [], [0, 1], [0, 1, 2], [0, 1, 2, 3], [], [], [5, 6], [5, 6, 7], [5, 6, 7, 8], [0, 1, 2, 3, 4, 5, 6, 7, 8, 9], [0, 1, 2, 3, 4, 5, 6, 7, 8, 9, 10], [0, 1, 2, 3, 4, 5, 6, 7, 8, 9, 10, 11], [0, 1, 2, 3, 4, 5, 6, 7, 8, 9, 10, 11], [0, 1, 2, 3, 4, 5, 6, 7, 8, 9, 10, 11, 12, 13], [0, 1, 2, 3, 4, 5, 6, 7, 8, 9, 10, 11, 12, 13, 14], [0, 1, 2, 3, 4, 5, 6, 7, 8, 9, 10, 11, 12, 13, 14, 15], [0, 1, 2, 3, 4, 5, 6, 7, 8, 9, 10, 11], [0, 1, 2, 3, 4, 5, 6, 7, 8, 9, 10, 11], [0, 1, 2, 3, 4, 5, 6, 7, 8, 9, 10, 11, 17, 18], [0, 1, 2, 3, 4, 5, 6, 7, 8, 9, 10, 11, 17, 18, 19], [0, 1, 2, 3, 4, 5, 6, 7, 8, 9, 10, 11, 17, 18, 19, 20], [0, 1, 2, 3, 4, 5, 6, 7, 8, 9, 10, 11, 12, 13, 14, 15, 16, 17, 18, 19, 20, 21], [0, 1, 2, 3, 4, 5, 6, 7, 8, 9, 10, 11, 12, 13, 14, 15, 16, 17, 18, 19, 20, 21, 22], [0, 1, 2, 3, 4, 5, 6, 7, 8, 9, 10, 11, 12, 13, 14, 15, 16, 17, 18, 19, 20, 21, 22, 23]] [(22, PV (.bool true))] (by kernel_rfl) ?_ ?_ _ (by exact rfl) ?_
          · exact ⟨PV_stab, trivial⟩
          · refine ⟨?_, ?_, ?_, ?_, ?_, ?_, ?_, ?_, ?_, ?_, ?_, ?_, ?_, ?_, ?_, ?_, ?_, ?_, ?_, ?_, ?_, ?_, ?_, ?_, ?_, trivial⟩
            iterate 10 (· exact qob)
            · intro w hm
              have H := H.call hm
              iterate 10 refine qwr ?_
              exact OA_rd rfl (by exact rfl) (X_neqF _ _ (by exact rfl) (by exact rfl) (by exact rfl))
            · intro w hm
              have H := H.call hm
              iterate 10 refine qwr ?_
              refine WR_rd rfl (by exact rfl) (X_neqF _ _ (by exact rfl) (by exact rfl) (by exact rfl)) ?_
              exact qoa
            · intro w hm
              have H := H.call hm
              iterate 10 refine qwr ?_
              refine WR_rd rfl (by exact rfl) (X_neqF _ _ (by exact rfl) (by exact rfl) (by exact rfl)) ?_
              refine qwr ?_
              first | exact qon | exact qoa
            · intro w hm
              have H := H.call hm
              iterate 10 refine qwr ?_
              refine WR_rd rfl (by exact rfl) (X_neqF _ _ (by exact rfl) (by exact rfl) (by exact rfl)) ?_
              refine qwr ?_
              first | exact qon | exact qoa
            · intro w hm
              have H := H.call hm
              iterate 10 refine qwr ?_
              refine WR_rd rfl (by exact rfl) (X_neqF _ _ (by exact rfl) (by exact rfl) (by exact rfl)) ?_
              refine qwr ?_
              (first | refine qwn ?_ | refine qwg ?_)
              (first | refine qwn ?_ | refine qwg ?_)
              first | exact qon | exact qoa
            · intro w hm
              have H := H.call hm
              iterate 10 refine qwr ?_
              refine WR_rd rfl (by exact rfl) (X_neqF _ _ (by exact rfl) (by exact rfl) (by exact rfl)) ?_
              refine qwr ?_
              iterate 3 (first | refine qwn ?_ | refine qwg ?_)
              first | exact qon | exact qoa
            · intro w hm
              have H := H.call hm
              iterate 10 refine qwr ?_
              refine WR_rd rfl (by exact rfl) (X_neqF _ _ (by exact rfl) (by exact rfl) (by exact rfl)) ?_
              refine qwr ?_
              iterate 4 (first | refine qwn ?_ | refine qwg ?_)
              first | exact qon | exact qoa
            · intro w hm
              have H := H.call hm
              iterate 10 refine qwr ?_
              refine WR_rd rfl (by exact rfl) (X_neqF _ _ (by exact rfl) (by exact rfl) (by exact rfl)) ?_
              refine qwr ?_
              first | exact qon | exact qoa
            · intro w hm
              have H := H.call hm
              iterate 10 refine qwr ?_
              refine WR_rd rfl (by exact rfl) (X_neqF _ _ (by exact rfl) (by exact rfl) (by exact rfl)) ?_
              refine qwr ?_
              first | exact qon | exact qoa
            · intro w hm
              have H := H.call hm
              iterate 10 refine qwr ?_
              refine WR_rd rfl (by exact rfl) (X_neqF _ _ (by exact rfl) (by exact rfl) (by exact rfl)) ?_
              refine qwr ?_
              (first | refine qwn ?_ | refine qwg ?_)
              (first | refine qwn ?_ | refine qwg ?_)
              first | exact qon | exact qoa
            · intro w hm
              have H := H.call hm
              iterate 10 refine qwr ?_
              refine WR_rd rfl (by exact rfl) (X_neqF _ _ (by exact rfl) (by exact rfl) (by exact rfl)) ?_
              refine qwr ?_
              iterate 3 (first | refine qwn ?_ | refine qwg ?_)
              first | exact qon | exact qoa
            · intro w hm
              have H := H.call hm
              iterate 10 refine qwr ?_
              refine WR_rd rfl (by exact rfl) (X_neqF _ _ (by exact rfl) (by exact rfl) (by exact rfl)) ?_
              refine qwr ?_
              iterate 4 (first | refine qwn ?_ | refine qwg ?_)
              first | exact qon | exact qoa
            · intro w hm
              have H := H.call hm
              iterate 10 refine qwr ?_
              refine WR_rd rfl (by exact rfl) (X_neqF _ _ (by exact rfl) (by exact rfl) (by exact rfl)) ?_
              refine qwr ?_
              iterate 10 (first | refine qwn ?_ | refine qwg ?_)
              first | exact qon | skip
              all_goals
                refine qol ?_
                exact S_call2 _ _ (by exact rfl) (by exact rfl) (by exact rfl) (equalTerms_e (H.dat (d := LT.dat M t _) (by simp)) (H.dat (d := LT.dat M t' _) (by simp)) hft hft') fun v w' h => by rw [hq] at h; exact h
            · intro w hm
              have H := H.call hm
              iterate 10 refine qwr ?_
              refine WR_rd rfl (by exact rfl) (X_neqF _ _ (by exact rfl) (by exact rfl) (by exact rfl)) ?_
              refine qwr ?_
              iterate 10 (first | refine qwn ?_ | refine qwg ?_)
              (first | refine qwn ?_ | (refine qwlg ?_; rintro _ rfl))
              first | exact qon | exact qoa
            · intro w hm
              have H := H.call hm
              iterate 10 refine qwr ?_
              refine WR_rd rfl (by exact rfl) (X_neqF _ _ (by exact rfl) (by exact rfl) (by exact rfl)) ?_
              refine qwr ?_
              iterate 10 (first | refine qwn ?_ | refine qwg ?_)
              (first | refine qwn ?_ | (refine qwlg ?_; rintro _ rfl))
              (first | refine qwn ?_ | refine qwg ?_)
              exact qoa
          intro w hm
          have H := H.call hm
          iterate 10 refine qwr ?_
          refine WR_rd rfl (by exact rfl) (X_neqF _ _ (by exact rfl) (by exact rfl) (by exact rfl)) ?_
          refine qwr ?_
          iterate 10 (first | refine qwn ?_ | refine qwg ?_)
          (first | refine qwn ?_ | (refine qwlg ?_; rintro _ rfl))
          (first | refine qwn ?_ | refine qwg ?_)
          refine qwr ?_
          refine WR_nil ?_
          refine WD_end (by decide) ?_
          (repeat (first | refine qq ?_ | (refine qds H ?_; intro H) | (refine qrb H ?_; intro _ w H) | (refine qrs H ?_; intro w H) | (refine qdr H ?_; intro H)))
          exact ⟨s.length - (k + 1), by omega, k + 1, _, rfl, by omega, sl_back ⟨rfl, rfl, rfl, rfl, trivial⟩, by rw [he, hq]; simp, H.sub (.refl _) (by simp)⟩
        | false =>
          refine WD_any 25 [[], [], [0, 1], [0, 1, 2], [0, 1, 2, 3], [], [], [5, 6], [5, 6, 7], [5, 6, 7, 8], [0, 1, 2, 3, 4, 5, 6, 7, 8, 9], [0, 1, 2, 3, 4, 5, 6, 7, 8, 9, 10], [0, 1, 2, 3, 4, 5, 6, 7, 8, 9, 10, 11], [0, 1, 2, 3, 4, 5, 6, 7, 8, 9, 10, 11], [0, 1, 2, 3, 4, 5, 6, 7, 8, 9, 10, 11, 12, 13], [0, 1, 2, 3, 4, 5, 6, 7, 8, 9, 10, 11, 12, 13, 14], [0, 1, 2, 3, 4, 5, 6, 7, 8, 9, 10, 11, 12, 13, 14, 15], [0, 1, 2, 3, 4, 5, 6, 7, 8, 9, 10, 11], [0, 1, 2, 3, 4, 5, 6, 7, 8, 9, 10, 11], [0, 1, 2, 3, 4, 5, 6, 7, 8, 9, 10, 11, 17, 18], [0, 1, 2, 3, 4, 5, 6, 7, 8, 9, 10, 11, 17, 18, 19], [0, 1, 2, 3, 4, 5, 6, 7, 8, 9, 10, 11, 17, 18, 19, 20], [0, 1, 2, 3, 4, 5, 6, 7, 8, 9, 10, 11, 12, 13, 14, 15, 16, 17, 18, 19, 20, 21], [0, 1, 2, 3, 4, 5, 6, 7, 8, 9, 10, 11, 12, 13, 14, 15, 16, 17, 18, 19, 20, 21, 22], [0, 1, 2, 3, 4, 5, 6, 7, 8, 9, 10, 11, 12, 13, 14, 15, 16, 17, 18, 19, 20, 21, 22, 23]] [(22, PV (.bool false))] (by kernel_rfl) ?_ ?_ _ (by exact rfl) ?_
          · exact ⟨PV_stab, trivial⟩
          · refine ⟨?_, ?_, ?_, ?_, ?_, ?_, ?_, ?_, ?_, ?_, ?_, ?_, ?_, ?_, ?_, ?_, ?_, ?_, ?_, ?_, ?_, ?_, ?_, ?_, ?_, trivial⟩
            iterate 10 (· exact qob)
            · intro w hm
              have H := H.call hm
              iterate 10 refine qwr ?_
              exact OA_rd rfl (by exact rfl) (X_neqF _ _ (by exact rfl) (by exact rfl) (by exact rfl))
            · intro w hm
              have H := H.call hm
              iterate 10 refine qwr ?_
              refine WR_rd rfl (by exact rfl) (X_neqF _ _ (by exact rfl) (by exact rfl) (by exact rfl)) ?_
              exact qoa
            · intro w hm
              have H := H.call hm
              iterate 10 refine qwr ?_
              refine WR_rd rfl (by exact rfl) (X_neqF _ _ (by exact rfl) (by exact rfl) (by exact rfl)) ?_
              refine qwr ?_
              first | exact qon | exact qoa
            · intro w hm
              have H := H.call hm
              iterate 10 refine qwr ?_
              refine WR_rd rfl (by exact rfl) (X_neqF _ _ (by exact rfl) (by exact rfl) (by exact rfl)) ?_
              refine qwr ?_
              first | exact qon | exact qoa
            · intro w hm
              have H := H.call hm
              iterate 10 refine qwr ?_
              refine WR_rd rfl (by exact rfl) (X_neqF _ _ (by exact rfl) (by exact rfl) (by exact rfl)) ?_
              refine qwr ?_
              (first | refine qwn ?_ | refine qwg ?_)
              (first | refine qwn ?_ | refine qwg ?_)
              first | exact qon | exact qoa
            · intro w hm
              have H := H.call hm
              iterate 10 refine qwr ?_
              refine WR_rd rfl (by exact rfl) (X_neqF _ _ (by exact rfl) (by exact rfl) (by exact rfl)) ?_
              refine qwr ?_
              iterate 3 (first | refine qwn ?_ | refine qwg ?_)
              first | exact qon | exact qoa
            · intro w hm
              have H := H.call hm
              iterate 10 refine qwr ?_
              refine WR_rd rfl (by exact rfl) (X_neqF _ _ (by exact rfl) (by exact rfl) (by exact rfl)) ?_
              refine qwr ?_
              iterate 4 (first | refine qwn ?_ | refine qwg ?_)
              first | exact qon | exact qoa
            · intro w hm
              have H := H.call hm
              iterate 10 refine qwr ?_
              refine WR_rd rfl (by exact rfl) (X_neqF _ _ (by exact rfl) (by exact rfl) (by exact rfl)) ?_
              refine qwr ?_
              first | exact qon | exact qoa
            · intro w hm
              have H := H.call hm
              iterate 10 refine qwr ?_
              refine WR_rd rfl (by exact rfl) (X_neqF _ _ (by exact rfl) (by exact rfl) (by exact rfl)) ?_
              refine qwr ?_
              first | exact qon | exact qoa
            · intro w hm
              have H := H.call hm
              iterate 10 refine qwr ?_
              refine WR_rd rfl (by exact rfl) (X_neqF _ _ (by exact rfl) (by exact rfl) (by exact rfl)) ?_
              refine qwr ?_
              (first | refine qwn ?_ | refine qwg ?_)
              (first | refine qwn ?_ | refine qwg ?_)
              first | exact qon | exact qoa
            · intro w hm
              have H := H.call hm
              iterate 10 refine qwr ?_
              refine WR_rd rfl (by exact rfl) (X_neqF _ _ (by exact rfl) (by exact rfl) (by exact rfl)) ?_
              refine qwr ?_
              iterate 3 (first | refine qwn ?_ | refine qwg ?_)
              first | exact qon | exact qoa
            · intro w hm
              have H := H.call hm
              iterate 10 refine qwr ?_
              refine WR_rd rfl (by exact rfl) (X_neqF _ _ (by exact rfl) (by exact rfl) (by exact rfl)) ?_
              refine qwr ?_
              iterate 4 (first | refine qwn ?_ | refine qwg ?_)
              first | exact qon | exact qoa
            · intro w hm
              have H := H.call hm
              iterate 10 refine qwr ?_
              refine WR_rd rfl (by exact rfl) (X_neqF _ _ (by exact rfl) (by exact rfl) (by exact rfl)) ?_
              refine qwr ?_
              iterate 10 (first | refine qwn ?_ | refine qwg ?_)
              first | exact qon | skip
              all_goals
                refine qol ?_
                exact S_call2 _ _ (by exact rfl) (by exact rfl) (by exact rfl) (equalTerms_e (H.dat (d := LT.dat M t _) (by simp)) (H.dat (d := LT.dat M t' _) (by simp)) hft hft') fun v w' h => by rw [hq] at h; exact h
            · intro w hm
              have H := H.call hm
              iterate 10 refine qwr ?_
              refine WR_rd rfl (by exact rfl) (X_neqF _ _ (by exact rfl) (by exact rfl) (by exact rfl)) ?_
              refine qwr ?_
              iterate 10 (first | refine qwn ?_ | refine qwg ?_)
              (first | refine qwn ?_ | (refine qwlg ?_; rintro _ rfl))
              first | exact qon | exact qoa
            · intro w hm
              have H := H.call hm
              iterate 10 refine qwr ?_
              refine WR_rd rfl (by exact rfl) (X_neqF _ _ (by exact rfl) (by exact rfl) (by exact rfl)) ?_
              refine qwr ?_
              iterate 10 (first | refine qwn ?_ | refine qwg ?_)
              (first | refine qwn ?_ | (refine qwlg ?_; rintro _ rfl))
              (first | refine qwn ?_ | refine qwg ?_)
              exact qoa
          intro w hm
          have H := H.call hm
          iterate 10 refine qwr ?_
          refine WR_rd rfl (by exact rfl) (X_neqF _ _ (by exact rfl) (by exact rfl) (by exact rfl)) ?_
          refine qwr ?_
          iterate 10 (first | refine qwn ?_ | refine qwg ?_)
          (first | refine qwn ?_ | (refine qwlg ?_; rintro _ rfl))
          (first | refine qwn ?_ | refine qwg ?_)
          refine qwr ?_
          refine WR_nil ?_
          refine WD_end (by decide) ?_
          (repeat (first | refine qq ?_ | (refine qds H ?_; intro H) | (refine qrb H ?_; intro _ w H) | (refine qrs H ?_; intro w H) | (refine qdr H ?_; intro H)))
          exact ⟨by rw [he, hq]; simp; rfl, H.mod⟩
      · skip
        refine WD_any 25 [[], [], [0, 1], [0, 1, 2], [0, 1, 2, 3], [], [], [5, 6], [5, 6, 7], [5, 6, 7, 8], [0, 1, 2, 3, 4, 5, 6, 7, 8, 9], [0, 1, 2, 3, 4, 5, 6, 7, 8, 9, 10], [0, 1, 2, 3, 4, 5, 6, 7, 8, 9, 10, 11], [0, 1, 2, 3, 4, 5, 6, 7, 8, 9, 10, 11], [0, 1, 2, 3, 4, 5, 6, 7, 8, 9, 10, 11, 12, 13], [0, 1, 2, 3, 4, 5, 6, 7, 8, 9, 10, 11, 12, 13, 14], [0, 1, 2, 3, 4, 5, 6, 7, 8, 9, 10, 11, 12, 13, 14, 15], [0, 1, 2, 3, 4, 5, 6, 7, 8, 9, 10, 11], [0, 1, 2, 3, 4, 5, 6, 7, 8, 9, 10, 11], [0, 1, 2, 3, 4, 5, 6, 7, 8, 9, 10, 11, 17, 18], [0, 1, 2, 3, 4, 5, 6, 7, 8, 9, 10, 11, 17, 18, 19], [0, 1, 2, 3, 4, 5, 6, 7, 8, 9, 10, 11, 17, 18, 19, 20], [0, 1, 2, 3, 4, 5, 6, 7, 8, 9, 10, 11, 12, 13, 14, 15, 16, 17, 18, 19, 20, 21], [0, 1, 2, 3, 4, 5, 6, 7, 8, 9, 10, 11, 12, 13, 14, 15, 16, 17, 18, 19, 20, 21, 22], [0, 1, 2, 3, 4, 5, 6, 7, 8, 9, 10, 11, 12, 13, 14, 15, 16, 17, 18, 19, 20, 21, 22, 23]] [(22, PV (.bool true))] (by kernel_rfl) ?_ ?_ _ (by exact rfl) ?_
        · exact ⟨PV_stab, trivial⟩
        · refine ⟨?_, ?_, ?_, ?_, ?_, ?_, ?_, ?_, ?_, ?_, ?_, ?_, ?_, ?_, ?_, ?_, ?_, ?_, ?_, ?_, ?_, ?_, ?_, ?_, ?_, trivial⟩
          iterate 10 (· exact qob)
          · intro w hm
            have H := H.call hm
            iterate 10 refine qwr ?_
            exact OA_rd rfl (by exact rfl) (X_neqT _ _ (by exact rfl) (by exact rfl) (by show (u : Int) ≠ (u' : Nat); omega))
          · intro w hm
            have H := H.call hm
            iterate 10 refine qwr ?_
            refine WR_rd rfl (by exact rfl) (X_neqT _ _ (by exact rfl) (by exact rfl) (by show (u : Int) ≠ (u' : Nat); omega)) ?_
            exact qoa
          · intro w hm
            have H := H.call hm
            iterate 10 refine qwr ?_
            refine WR_rd rfl (by exact rfl) (X_neqT _ _ (by exact rfl) (by exact rfl) (by show (u : Int) ≠ (u' : Nat); omega)) ?_
            refine qwr ?_
            first | exact qon | exact qoa
          · intro w hm
            have H := H.call hm
            iterate 10 refine qwr ?_
            refine WR_rd rfl (by exact rfl) (X_neqT _ _ (by exact rfl) (by exact rfl) (by show (u : Int) ≠ (u' : Nat); omega)) ?_
            refine qwr ?_
            first | exact qon | exact qoa
          · intro w hm
            have H := H.call hm
            iterate 10 refine qwr ?_
            refine WR_rd rfl (by exact rfl) (X_neqT _ _ (by exact rfl) (by exact rfl) (by show (u : Int) ≠ (u' : Nat); omega)) ?_
            refine qwr ?_
            (first | refine qwn ?_ | refine qwg ?_)
            (first | refine qwn ?_ | refine qwg ?_)
            first | exact qon | exact qoa
          · intro w hm
            have H := H.call hm
            iterate 10 refine qwr ?_
            refine WR_rd rfl (by exact rfl) (X_neqT _ _ (by exact rfl) (by exact rfl) (by show (u : Int) ≠ (u' : Nat); omega)) ?_
            refine qwr ?_
            iterate 3 (first | refine qwn ?_ | refine qwg ?_)
            first | exact qon | exact qoa
          · intro w hm
            have H := H.call hm
            iterate 10 refine qwr ?_
            refine WR_rd rfl (by exact rfl) (X_neqT _ _ (by exact rfl) (by exact rfl) (by show (u : Int) ≠ (u' : Nat); omega)) ?_
            refine qwr ?_
            iterate 4 (first | refine qwn ?_ | refine qwg ?_)
            first | exact qon | exact qoa
          · intro w hm
            have H := H.call hm
            iterate 10 refine qwr ?_
            refine WR_rd rfl (by exact rfl) (X_neqT _ _ (by exact rfl) (by exact rfl) (by show (u : Int) ≠ (u' : Nat); omega)) ?_
            refine qwr ?_
            first | exact qon | exact qoa
          · intro w hm
            have H := H.call hm
            iterate 10 refine qwr ?_
            refine WR_rd rfl (by exact rfl) (X_neqT _ _ (by exact rfl) (by exact rfl) (by show (u : Int) ≠ (u' : Nat); omega)) ?_
            refine qwr ?_
            first | exact qon | exact qoa
          · intro w hm
            have H := H.call hm
            iterate 10 refine qwr ?_
            refine WR_rd rfl (by exact rfl) (X_neqT _ _ (by exact rfl) (by exact rfl) (by show (u : Int) ≠ (u' : Nat); omega)) ?_
            refine qwr ?_
            (first | refine qwn ?_ | refine qwg ?_)
            (first | refine qwn ?_ | refine qwg ?_)
            first | exact qon | exact qoa
          · intro w hm
            have H := H.call hm
            iterate 10 refine qwr ?_
            refine WR_rd rfl (by exact rfl) (X_neqT _ _ (by exact rfl) (by exact rfl) (by show (u : Int) ≠ (u' : Nat); omega)) ?_
            refine qwr ?_
            iterate 3 (first | refine qwn ?_ | refine qwg ?_)
            first | exact qon | exact qoa
          · intro w hm
            have H := H.call hm
            iterate 10 refine qwr ?_
            refine WR_rd rfl (by exact rfl) (X_neqT _ _ (by exact rfl) (by exact rfl) (by show (u : Int) ≠ (u' : Nat); omega)) ?_
            refine qwr ?_
            iterate 4 (first | refine qwn ?_ | refine qwg ?_)
            first | exact qon | exact qoa
          · intro w hm
            have H := H.call hm
            iterate 10 refine qwr ?_
            refine WR_rd rfl (by exact rfl) (X_neqT _ _ (by exact rfl) (by exact rfl) (by show (u : Int) ≠ (u' : Nat); omega)) ?_
            refine qwr ?_
            iterate 10 (first | refine qwn ?_ | refine qwg ?_)
            first | exact qon | skip
            all_goals
              refine qol ?_
              skip
          · intro w hm
            have H := H.call hm
            iterate 10 refine qwr ?_
            refine WR_rd rfl (by exact rfl) (X_neqT _ _ (by exact rfl) (by exact rfl) (by show (u : Int) ≠ (u' : Nat); omega)) ?_
            refine qwr ?_
            iterate 10 (first | refine qwn ?_ | refine qwg ?_)
            (first | refine qwn ?_ | (refine qwlg ?_; rintro _ rfl))
            first | exact qon | exact qoa
          · intro w hm
            have H := H.call hm
            iterate 10 refine qwr ?_
            refine WR_rd rfl (by exact rfl) (X_neqT _ _ (by exact rfl) (by exact rfl) (by show (u : Int) ≠ (u' : Nat); omega)) ?_
            refine qwr ?_
            iterate 10 (first | refine qwn ?_ | refine qwg ?_)
            (first | refine qwn ?_ | (refine qwlg ?_; rintro _ rfl))
            (first | refine qwn ?_ | refine qwg ?_)
            exact qoa
        intro w hm
        have H := H.call hm
        iterate 10 refine qwr ?_
        refine WR_rd rfl (by exact rfl) (X_neqT _ _ (by exact rfl) (by exact rfl) (by show (u : Int) ≠ (u' : Nat); omega)) ?_
        refine qwr ?_
        iterate 10 (first | refine qwn ?_ | refine qwg ?_)
        (first | refine qwn ?_ | (refine qwlg ?_; rintro _ rfl))
        (first | refine qwn ?_ | refine qwg ?_)
        refine qwr ?_
        refine WR_nil ?_
        refine WD_end (by decide) ?_
        (repeat (first | refine qq ?_ | (refine qds H ?_; intro H) | (refine qrb H ?_; intro _ w H) | (refine qrs H ?_; intro w H) | (refine qdr H ?_; intro H)))
        refine ⟨?_, H.mod⟩
        have hb : Nat.beq u u' = false := by cases hb : Nat.beq u u' with | false => rfl | true => exact absurd (Nat.eq_of_beq_eq_true hb) huu
        rw [he, hb]; rfl
    · (repeat (first | refine qq ?_ | (refine qds H ?_; intro H) | (refine qrb H ?_; intro _ w H) | (refine qrs H ?_; intro w H) | (refine qdr H ?_; intro H)))
      refine ⟨?_, H.mod⟩
      rw [he, List.drop_eq_nil_of_le (by omega), List.drop_eq_nil_of_le (by omega)]; rfl
  · rw [eqSb_len hll]
    (repeat (first | refine qq ?_ | (refine qds H ?_; intro H) | (refine qrb H ?_; intro _ w H) | (refine qrs H ?_; intro w H) | (refine qdr H ?_; intro H)))
    exact ⟨rfl, H.mod⟩

def newB (s : Sb) : Sb → Sb
  | [] => []
  | (v, t) :: x => match getS s v with
    | none => (v, t) :: newB s x
    | some _ => newB s x
theorem newB_sub {s : Sb} : ∀ {x : Sb}, (newB s x).Sublist x
  | [] => .refl _
  | (v, t) :: x => by
    unfold newB
    cases getS s v with
    | none => exact .cons_cons _ newB_sub
    | some _ => exact .cons _ newB_sub
theorem newB_len {s x : Sb} : (newB s x).length ≤ x.length := newB_sub.length_le

set_option maxRecDepth 100000 in
theorem NewBindings_c {s x : Sb} {v v' : Value} {M : Nat → Prop} {w : World} (hM : ∀ b, M b → b < w.heap.size) (h : (LSl LB).rd M w s [v]) (h' : (LSl LB).rd M w x [v']) (hs : SubOk s) (hx : SubOk x) :
    Calls Tryz.prog 111 #[v, v'] w (Ret fun v w' => P1 (LSl LB) M (newB s x) v w' ∧ Mod [] w w') := by
  obtain ⟨a, c, rfl⟩ := rdSl_val h
  obtain ⟨a', c', rfl⟩ := rdSl_val h'
  have hsl := hs.len
  have hxl := hx.len
  refine enter1 Tryz.func111 rfl Tryz.ntmps111 rfl (by simp) ?_
  have H := ((Holds.start w []).arg (L := LSl LB) h).arg (L := LSl LB) h'
  (repeat (first | refine qq ?_ | (refine qds H ?_; intro H) | (refine qrb H ?_; intro _ w H) | (refine qrs H ?_; intro w H) | (refine qdr H ?_; intro H)))
  refine qa1 (hc := SubstOk_c (H.dat (d := (LSl LB).dat M s [.slice a s.length c]) (by simp)) hs (H.wr_lt hM)) (k := ?_)
  rintro _ w ⟨rfl, hm⟩
  have H := H.call hm
  (repeat (first | refine qq ?_ | (refine qds H ?_; intro H) | (refine qrb H ?_; intro _ w H) | (refine qrs H ?_; intro w H) | (refine qdr H ?_; intro H)))
  refine WO_g rfl rfl (by exact rfl) (S_call1 _ (by exact rfl) (by exact rfl) (SubstOk_c (H.dat (d := (LSl LB).dat M x [.slice a' x.length c']) (by simp)) hx (H.wr_lt hM)) ?_)
  rintro _ w ⟨rfl, hm⟩
  have H := H.call hm
  (repeat (first | refine qq ?_ | (refine qds H ?_; intro H) | (refine qrb H ?_; intro _ w H) | (refine qrs H ?_; intro w H) | (refine qdr H ?_; intro H)))
  refine WO_s rfl (S_bslice0 H ?_); intro b0 w H
  have H := (H.toRow 0 5 rfl).dnil (L := LB) (M := M)
  (repeat (first | refine qq ?_ | (refine qds H ?_; intro H) | (refine qrb H ?_; intro _ w H) | (refine qrs H ?_; intro w H) | (refine qdr H ?_; intro H)))
  refine W_loop (fun m f w' => ∃ k g v' vss acc, m = x.length - k ∧ k ≤ x.length ∧ acc.length ≤ k ∧ f = sl g [(17, .slice a' x.length c'), (18, .int .i64 x.length), (19, .int .i64 k), (5, v'), (0, .slice a s.length c)] ∧ newB s x = acc ++ newB s (x.drop k) ∧
    Holds _ [] [orow 119 5 v' vss] [dall LB M acc vss, (LSl LB).dat M s [.slice a s.length c], (LSl LB).dat M x [.slice a' x.length c']] w') x.length ⟨0, _, _, [], [], rfl, Nat.zero_le _, Nat.zero_le _, sl_back ⟨rfl, rfl, rfl, rfl, rfl, trivial⟩, rfl, H.sub (.refl _) (by simp)⟩ ?_
  clear H
  rintro m f w ⟨k, g, v', vss, acc, rfl, hk, hacc, rfl, hnew, H⟩
  by_cases hlt : k < x.length
  · obtain ⟨⟨n, t⟩, hxk⟩ : ∃ y, x[k]? = some y := ⟨_, List.getElem?_eq_getElem hlt⟩
    obtain ⟨b, o, vs, rfl, _, _, hr, H⟩ := H.elem (L := LB) (M := M) (l := x) (a := a') (n := x.length) (c := c') (by simp) k hxk
    obtain ⟨a1, c1, rfl, ht⟩ := LB_at hr
    have H := H.add (d := LT.dat M t _) ht
    rw [drop_at hxk] at hnew
    simp only [newB] at hnew
    (repeat (first | refine qq ?_ | (refine qds H ?_; intro H) | (refine qrb H ?_; intro _ w H) | (refine qrs H ?_; intro w H) | (refine qdr H ?_; intro H)))
    refine qa2 (hc := find_c (H.dat (d := (LSl LB).dat M s [.slice a s.length c]) (by simp)) hs.asc (by omega)) (k := ?_)
    rintro u w ⟨hu, hm⟩
    have H := H.call hm
    rcases hu with ⟨hg, rfl⟩ | ⟨i, t2, hg, _, rfl⟩
    · rw [hg] at hnew
      (repeat (first | refine qq ?_ | (refine qds H ?_; intro H) | (refine qrb H ?_; intro _ w H) | (refine qrs H ?_; intro w H) | (refine qdr H ?_; intro H)))
      obtain ⟨M', hM', _, hof⟩ := H.off hM
      refine WD_any 8 [[], [], [1], [], [3], [3, 4], [1, 2, 3, 4, 5], [1, 2, 3, 4, 5, 6]] [(5, PN LT M' (t)), (7, P1 (LSl LB) M' ([(n, t)]))] (by kernel_rfl) ?_ ?_ _ (by exact rfl) ?_
      · exact ⟨PN_stab, P1_stab, trivial⟩
      · refine ⟨?_, ?_, ?_, ?_, ?_, ?_, ?_, ?_, trivial⟩
        iterate 5 (· exact qob)
        · intro w hm
          have H := H.call hm
          refine qwr ?_
          refine qwr ?_
          refine qol ?_
          exact S_call1 _ (by exact rfl) (by exact rfl) (copyTerm_c t (hM' _ hm.size) (H.dat (d := LT.dat M t [.int .i64 t.kind, .int .i64 t.int, .string t.name, .slice a1 t.args.length c1]) (by simp))) fun v w' ⟨vs, h1, h2, h3⟩ => ⟨⟨vs, h1, h2⟩, h3⟩
        · intro w hm
          have H := H.call hm
          iterate 4 refine qwr ?_
          refine qwl ?_; rintro _ ⟨us5, rfl, h5⟩; obtain ⟨a5, c5, rfl⟩ := rdT_four h5
          exact OA_rd rfl (by exact rfl) (X_build (by exact rfl) [(0, [.int .i64 n]), (1, _)] (by exact rfl) (by exact rfl))
        · intro w hm
          have H := H.call hm
          iterate 4 refine qwr ?_
          refine qwl ?_; rintro _ ⟨us5, rfl, h5⟩; obtain ⟨a5, c5, rfl⟩ := rdT_four h5
          refine WR_rd rfl (by exact rfl) (X_build (by exact rfl) [(0, [.int .i64 n]), (1, _)] (by exact rfl) (by exact rfl)) ?_
          refine qol ?_
          have H' := (Holds.start w []).arg (L := LT) h5
          refine S_bslice1N H' _ (by exact rfl) (by exact rfl) (by exact rfl) (by exact rfl) (by exact rfl) ?_
          intro b3 w' H'
          exact ⟨rdSl_one (Nat.le_refl _) (H'.own (hM' _ hm.size) 0 rfl) (LB_mk (H'.out 0 rfl)) (H'.bcells 0 5 rfl rfl), H'.mod⟩
      intro w hm
      have H := H.call hm
      iterate 5 refine qwr ?_
      refine qwl ?_; rintro _ ⟨us5, rfl, h5⟩; obtain ⟨a5, c5, rfl⟩ := rdT_four h5
      refine WR_rd rfl (by exact rfl) (X_build (by exact rfl) [(0, [.int .i64 n]), (1, _)] (by exact rfl) (by exact rfl)) ?_
      refine qwl ?_; intro v7 h7
      refine WR_nil ?_
      obtain ⟨b7, o7, c7, vs7, rfl, hr7, hc7⟩ := rdSl_at h7
      have H := H.add (hof hr7)
      have hvl := (Alls.get (H.dat (d := dall LB M acc vss) (by simp))).1
      refine WD_s (by kernel_rfl) rfl rfl (S_append H 1 _ _ (by exact rfl) (by exact rfl) (by exact rfl) hc7 (LB.len _ _ _ _ hr7) (LB.one _ _ _ _ hr7) (by decide) (by exact rfl) ?_ ?_)
      · omega
      intro v'' w H
      refine WD_rd (by kernel_rfl) rfl rfl (X_assign _) (WD_end (by decide) ?_)
      (repeat (first | refine qq ?_ | (refine qds H ?_; intro H) | (refine qrb H ?_; intro _ w H) | (refine qrs H ?_; intro w H) | (refine qdr H ?_; intro H)))
      refine ⟨x.length - (k + 1), by omega, k + 1, _, v'', vss ++ [vs7], acc ++ [(n, t)], rfl, by omega, by simp; omega, sl_back ⟨rfl, rfl, rfl, rfl, rfl, trivial⟩, by rw [hnew]; simp, ?_⟩
      exact (H.snoc (L := LB) (M := M) (x := (n, t)) (by repeat (first | exact List.Mem.head _ | apply List.Mem.tail)) (H.dat (d := LB.dat M (n, t) _) (by repeat (first | exact List.Mem.head _ | apply List.Mem.tail)))).sub (.cons _ (.refl _)) (by simp)
    · rw [hg] at hnew
      (repeat (first | refine qq ?_ | (refine qds H ?_; intro H) | (refine qrb H ?_; intro _ w H) | (refine qrs H ?_; intro w H) | (refine qdr H ?_; intro H)))
      exact ⟨x.length - (k + 1), by omega, k + 1, _, v', vss, acc, rfl, by omega, by omega, sl_back ⟨rfl, rfl, rfl, rfl, rfl, trivial⟩, hnew, H.sub (.cons _ (.refl _)) (by simp)⟩
  · obtain rfl : k = x.length := by omega
    rw [List.drop_length] at hnew
    simp only [newB, List.append_nil] at hnew
    (repeat (first | refine qq ?_ | (refine qds H ?_; intro H) | (refine qrb H ?_; intro _ w H) | (refine qrs H ?_; intro w H) | (refine qdr H ?_; intro H)))
    have H := Holds.freeze (A1 := []) (A2 := []) (M := M) (L := LB) (l := acc) H hM (H.dat (by repeat (first | exact List.Mem.head _ | apply List.Mem.tail))) (by simp)
    rw [hnew]
    exact ⟨H.out 0 rfl, H.mod⟩

/-- what rest says -/
def RestR (M : Nat → Prop) (s : Sb) (o : Option Sb) : Value → World → Prop := fun v w => match o with
  | none => v = .tuple #[.slice none 0 0, .int .i64 1]
  | some x => bif eqSb s x then v = .tuple #[.slice none 0 0, .int .i64 2] else ∃ u, v = .tuple #[u, .int .i64 0] ∧ (LSl LB).rd M w (newB s x) [u]
set_option maxRecDepth 100000 in
theorem rest_c {s : Sb} {o : Option Sb} {v u : Value} {b : Bool} {M : Nat → Prop} {w : World} (hM : ∀ b, M b → b < w.heap.size) (h : (LSl LB).rd M w s [v]) (h' : SubR M o (.tuple #[u, .bool b]) w) (hs : SubOk s) (hx : ∀ x, o = some x → SubOk x) :
    Calls Tryz.prog 81 #[v, u, .bool b] w (Ret fun v w' => RestR M s o v w' ∧ Mod [] w w') := by
  obtain ⟨a, c, rfl⟩ := rdSl_val h
  have hsl := hs.len
  refine enter2 Tryz.func81 rfl Tryz.ntmps81 rfl (by simp) ?_
  have H := (Holds.start w []).arg (L := LSl LB) h
  cases o with
  | none =>
    cases h'
    (repeat (first | refine qq ?_ | (refine qds H ?_; intro H) | (refine qrb H ?_; intro _ w H) | (refine qrs H ?_; intro w H) | (refine qdr H ?_; intro H)))
    exact ⟨rfl, H.mod⟩
  | some x =>
    obtain ⟨u', hu, hrd⟩ := h'
    cases hu
    have hx := hx x rfl
    have hxl := hx.len
    obtain ⟨a', c', rfl⟩ := rdSl_val hrd
    have H := H.arg (L := LSl LB) hrd
    (repeat (first | refine qq ?_ | (refine qds H ?_; intro H) | (refine qrb H ?_; intro _ w H) | (refine qrs H ?_; intro w H) | (refine qdr H ?_; intro H)))
    refine qa2 (hc := equalBindings_c (H.dat (d := (LSl LB).dat M s [.slice a s.length c]) (by simp)) (H.dat (d := (LSl LB).dat M x [.slice a' x.length c']) (by simp)) hs.fits hx.fits (by omega)) (k := ?_)
    rintro _ w ⟨rfl, hm⟩
    have H := H.call hm
    cases he : eqSb s x with
    | true =>
      (repeat (first | refine qq ?_ | (refine qds H ?_; intro H) | (refine qrb H ?_; intro _ w H) | (refine qrs H ?_; intro w H) | (refine qdr H ?_; intro H)))
      exact ⟨by simp only [RestR, he, cond_true]; rfl, H.mod⟩
    | false =>
      (repeat (first | refine qq ?_ | (refine qds H ?_; intro H) | (refine qrb H ?_; intro _ w H) | (refine qrs H ?_; intro w H) | (refine qdr H ?_; intro H)))
      refine qa2 (hc := NewBindings_c (M := H.wr M) (H.wr_lt hM) (H.dat (d := (LSl LB).dat M s [.slice a s.length c]) (by simp)) (H.dat (d := (LSl LB).dat M x [.slice a' x.length c']) (by simp)) hs hx) (k := ?_)
      rintro u w ⟨hu, hm⟩
      have H := H.call hm
      (repeat (first | refine qq ?_ | (refine qds H ?_; intro H) | (refine qrb H ?_; intro _ w H) | (refine qrs H ?_; intro w H) | (refine qdr H ?_; intro H)))
      exact ⟨by simp only [RestR, he, cond_false]; exact ⟨_, rfl, (LSl LB).grow _ _ _ _ _ (fun _ _ h => .inl h) hu⟩, H.mod⟩

def eqs (s : Sb) : List (T × T) := s.map fun x => (.var x.1, x.2)
theorem eqs_fst {s : Sb} : (eqs s).map (·.1) = s.map fun x => T.var x.1 := by simp [eqs, Function.comp_def]
theorem eqs_snd {s : Sb} : (eqs s).map (·.2) = s.map (·.2) := by simp [eqs, Function.comp_def]
set_option maxRecDepth 100000 in
theorem equations_c {s : Sb} {v : Value} {M : Nat → Prop} {w : World} (hM : ∀ b, M b → b < w.heap.size) (h : (LSl LB).rd M w s [v]) (hl : s.length ≤ 100000) :
    Calls Tryz.prog 144 #[v] w (Ret fun u w' => (∃ u1 u2, u = .tuple #[u1, u2] ∧ (LSl LT).rd M w' ((eqs s).map (·.1)) [u1] ∧ (LSl LT).rd M w' ((eqs s).map (·.2)) [u2]) ∧ Mod [] w w') := by
  obtain ⟨a, c, rfl⟩ := rdSl_val h
  rw [eqs_fst, eqs_snd]
  refine enter2 Tryz.func144 rfl Tryz.ntmps144 rfl (by simp) ?_
  have H := (Holds.start w []).arg (L := LSl LB) h
  (repeat (first | refine qq ?_ | (refine qds H ?_; intro H) | (refine qrb H ?_; intro _ w H) | (refine qrs H ?_; intro w H) | (refine qdr H ?_; intro H)))
  refine WO_s rfl (S_bslice0 H ?_); intro b0 w H
  have H := (H.toRow 0 4 rfl).dnil (L := LT) (M := M)
  (repeat (first | refine qq ?_ | (refine qds H ?_; intro H) | (refine qrb H ?_; intro _ w H) | (refine qrs H ?_; intro w H) | (refine qdr H ?_; intro H)))
  refine WO_s rfl (S_bslice0 H ?_); intro b1 w H
  have H := H.toRow 0 4 rfl
  (repeat (first | refine qq ?_ | (refine qds H ?_; intro H) | (refine qrb H ?_; intro _ w H) | (refine qrs H ?_; intro w H) | (refine qdr H ?_; intro H)))
  refine W_loop (fun m f w' => ∃ k g v1 v2 vs1 vs2, m = s.length - k ∧ k ≤ s.length ∧ f = sl g [(10, .slice a s.length c), (11, .int .i64 s.length), (12, .int .i64 k), (4, v1), (5, v2)] ∧
    Holds _ [] [orow 32 4 v2 vs2, orow 32 4 v1 vs1] [dall LT M ((s.take k).map fun x => T.var x.1) vs1, dall LT M ((s.take k).map (·.2)) vs2, (LSl LB).dat M s [.slice a s.length c]] w') s.length ⟨0, _, _, _, [], [], rfl, Nat.zero_le _, sl_back ⟨rfl, rfl, rfl, rfl, rfl, trivial⟩, H.sub (.refl _) (by simp)⟩ ?_
  clear H
  rintro m f w ⟨k, g, v1, v2, vs1, vs2, rfl, hk, rfl, H⟩
  by_cases hlt : k < s.length
  · obtain ⟨⟨n, t⟩, hx⟩ : ∃ y, s[k]? = some y := ⟨_, List.getElem?_eq_getElem hlt⟩
    have hv1 := (Alls.get (H.dat (d := dall LT M ((s.take k).map fun x => T.var x.1) vs1) (by simp))).1
    have hv2 := (Alls.get (H.dat (d := dall LT M ((s.take k).map (·.2)) vs2) (by simp))).1
    simp only [List.length_map, List.length_take] at hv1 hv2
    obtain ⟨b, o, vs, rfl, _, _, hr, H⟩ := H.elem (L := LB) (M := M) (l := s) (a := a) (n := s.length) (c := c) (by simp) k hx
    obtain ⟨a1, c1, rfl, ht⟩ := LB_at hr
    have H := H.add (d := LT.dat M t _) ht
    (repeat (first | refine qq ?_ | (refine qds H ?_; intro H) | (refine qrb H ?_; intro _ w H) | (refine qrs H ?_; intro w H) | (refine qdr H ?_; intro H)))
    refine qa1 (hc := variable_c n (H.wr M) _) (k := ?_)
    rintro _ w ⟨vs, rfl, hx1, hm⟩
    obtain ⟨a3, c3, rfl⟩ := rdT_four hx1
    have H := (H.call hm).add (d := LT.dat M (.var n) _) hx1
    (repeat (first | refine qq ?_ | (refine qds H ?_; intro H) | (refine qrb H ?_; intro _ w H) | (refine qrs H ?_; intro w H) | (refine qdr H ?_; intro H)))
    refine WO_s rfl (S_bslice1N H _ (us := [.int .i64 (T.var n).kind, .int .i64 (T.var n).int, .string (T.var n).name, .slice a3 (T.var n).args.length c3]) (by exact rfl) (by exact rfl) (by exact rfl) (by exact rfl) (by exact rfl) ?_); intro b3 w H
    refine WO_s rfl (S_append H 3 _ _ (vs := [.int .i64 (T.var n).kind, .int .i64 (T.var n).int, .string (T.var n).name, .slice a3 (T.var n).args.length c3]) (by exact rfl) (by exact rfl) (by exact rfl) (H.bcells 0 4 rfl rfl) rfl (by simp [Value.oneCell']) (Nat.succ_pos 3) (by exact rfl) ?_ ?_)
    · omega
    intro v1' w H
    (repeat (first | refine qq ?_ | (refine qds H ?_; intro H) | (refine qrb H ?_; intro _ w H) | (refine qrs H ?_; intro w H) | (refine qdr H ?_; intro H)))
    refine WO_s rfl (S_bslice1N H _ (us := [.int .i64 t.kind, .int .i64 t.int, .string t.name, .slice a1 t.args.length c1]) (by exact rfl) (by exact rfl) (by exact rfl) (by exact rfl) (by exact rfl) ?_); intro b4 w H
    refine WO_s rfl (S_append H 3 _ _ (vs := [.int .i64 t.kind, .int .i64 t.int, .string t.name, .slice a1 t.args.length c1]) (by exact rfl) (by exact rfl) (by exact rfl) (H.bcells 0 4 rfl rfl) rfl (by simp [Value.oneCell']) (Nat.succ_pos 3) (by exact rfl) ?_ ?_)
    · omega
    intro v2' w H
    (repeat (first | refine qq ?_ | (refine qds H ?_; intro H) | (refine qrb H ?_; intro _ w H) | (refine qrs H ?_; intro w H) | (refine qdr H ?_; intro H)))
    refine ⟨s.length - (k + 1), by omega, k + 1, _, v1', v2', vs1 ++ [[.int .i64 (T.var n).kind, .int .i64 (T.var n).int, .string (T.var n).name, .slice a3 (T.var n).args.length c3]], vs2 ++ [[.int .i64 t.kind, .int .i64 t.int, .string t.name, .slice a1 t.args.length c1]], rfl, by omega, sl_back ⟨rfl, rfl, rfl, rfl, rfl, trivial⟩, ?_⟩
    rw [take_snoc hx]
    simp only [List.map_append, List.map_cons, List.map_nil]
    have H2 := (H.snoc (L := LT) (M := M) (l := (s.take k).map fun x => T.var x.1) (vss := vs1) (x := .var n) (by simp) (H.dat (d := LT.dat M (.var n) [.int .i64 (T.var n).kind, .int .i64 (T.var n).int, .string (T.var n).name, .slice a3 (T.var n).args.length c3]) (by simp)))
    have H3 := (H2.snoc (L := LT) (M := M) (l := (s.take k).map (·.2)) (vss := vs2) (x := t) (by simp) (H2.dat (d := LT.dat M t [.int .i64 t.kind, .int .i64 t.int, .string t.name, .slice a1 t.args.length c1]) (by simp)))
    exact H3.sub (.cons _ (.cons _ (.cons _ (.refl _)))) (by simp)
  · obtain rfl : k = s.length := by omega
    rw [List.take_length] at H
    (repeat (first | refine qq ?_ | (refine qds H ?_; intro H) | (refine qrb H ?_; intro _ w H) | (refine qrs H ?_; intro w H) | (refine qdr H ?_; intro H)))
    have H := Holds.freeze (A1 := []) (M := M) (L := LT) (l := s.map (·.2)) H hM (H.dat (by simp)) (by simp)
    have H := Holds.freeze (A1 := []) (A2 := []) (M := M) (L := LT) (l := s.map fun x => T.var x.1) H hM (H.dat (by simp)) (by simp)
    exact ⟨⟨_, _, rfl, H.out 0 rfl, H.out 1 rfl⟩, H.mod⟩
set_option maxRecDepth 100000 in
theorem JoinSubst_c {s d : Sb} {o : Option Sb} {v v' : Value} {M : Nat → Prop} {w : World} (ho : solutionV s (eqs d) = some o) (hM : ∀ b, M b → b < w.heap.size) (h : (LSl LB).rd M w s [v]) (h' : (LSl LB).rd M w d [v']) (hs : SubOk s) (hd : SubOk d) :
    Calls Tryz.prog 122 #[v, v'] w (Ret fun v w' => SubR M o v w' ∧ Mod [] w w') := by
  obtain ⟨a, c, rfl⟩ := rdSl_val h
  obtain ⟨a', c', rfl⟩ := rdSl_val h'
  have hsl := hs.len
  have hdl := hd.len
  refine enter2 Tryz.func122 rfl Tryz.ntmps122 rfl (by simp) ?_
  have H := ((Holds.start w []).arg (L := LSl LB) h).arg (L := LSl LB) h'
  (repeat (first | refine qq ?_ | (refine qds H ?_; intro H) | (refine qrb H ?_; intro _ w H) | (refine qrs H ?_; intro w H) | (refine qdr H ?_; intro H)))
  refine qa1 (hc := SubstOk_c (H.dat (d := (LSl LB).dat M s [.slice a s.length c]) (by simp)) hs (H.wr_lt hM)) (k := ?_)
  rintro _ w ⟨rfl, hm⟩
  have H := H.call hm
  (repeat (first | refine qq ?_ | (refine qds H ?_; intro H) | (refine qrb H ?_; intro _ w H) | (refine qrs H ?_; intro w H) | (refine qdr H ?_; intro H)))
  refine WO_g rfl rfl (by exact rfl) (S_call1 _ (by exact rfl) (by exact rfl) (SubstOk_c (H.dat (d := (LSl LB).dat M d [.slice a' d.length c']) (by simp)) hd (H.wr_lt hM)) ?_)
  rintro _ w ⟨rfl, hm⟩
  have H := H.call hm
  (repeat (first | refine qq ?_ | (refine qds H ?_; intro H) | (refine qrb H ?_; intro _ w H) | (refine qrs H ?_; intro w H) | (refine qdr H ?_; intro H)))
  refine qa1 (hc := equations_c (M := H.wr M) (H.wr_lt hM) (H.dat (d := (LSl LB).dat M d [.slice a' d.length c']) (by simp)) (by omega)) (k := ?_)
  rintro _ w ⟨⟨u1, u2, rfl, h1, h2⟩, hm⟩
  have H := ((H.call hm).add (d := (LSl LT).dat M _ [u1]) h1).add (d := (LSl LT).dat M _ [u2]) h2
  (repeat (first | refine qq ?_ | (refine qds H ?_; intro H) | (refine qrb H ?_; intro _ w H) | (refine qrs H ?_; intro w H) | (refine qdr H ?_; intro H)))
  refine qa3 (hc := solution_c (M := H.wr M) ho (H.wr_lt hM) (H.dat (d := (LSl LB).dat M s [.slice a s.length c]) (by simp)) (H.dat (d := (LSl LT).dat M _ [u1]) (by simp)) (H.dat (d := (LSl LT).dat M _ [u2]) (by simp)) (by omega) (by simp [eqs]; omega)) (k := ?_)
  rintro u w ⟨hu, hm⟩
  have H := H.call hm
  have hu := hu.grow (M' := M) (fun _ h => .inl h)
  cases o with
  | none =>
    cases hu
    (repeat (first | refine qq ?_ | (refine qds H ?_; intro H) | (refine qrb H ?_; intro _ w H) | (refine qrs H ?_; intro w H) | (refine qdr H ?_; intro H)))
    exact ⟨rfl, H.mod⟩
  | some s2 =>
    obtain ⟨u3, rfl, hrd⟩ := hu
    (repeat (first | refine qq ?_ | (refine qds H ?_; intro H) | (refine qrb H ?_; intro _ w H) | (refine qrs H ?_; intro w H) | (refine qdr H ?_; intro H)))
    exact ⟨⟨_, rfl, hrd⟩, H.mod⟩
end Go.Proofs.YtljpfnjpifhdlaaGreatDoor
namespace Go.Proofs.YtljpfnjpifhdlaaGreatDoor
open Go
def cmpSb : Sb → Sb → Int
  | [], [] => 0
  | [], _ :: _ => -1
  | _ :: _, [] => 1
  | (v, t) :: s, (v', t') :: s' => if ordI (v : Nat) (v' : Nat) = 0 then (if t.cmp t' = 0 then cmpSb s s' else t.cmp t') else ordI (v : Nat) (v' : Nat)
theorem cmpSb_end : ∀ {s s' : Sb} {n m : Nat}, s = [] ∨ s' = [] → ∀ k : Nat, n = k + s.length → m = k + s'.length → cmpSb s s' = ordI (n : Nat) (m : Nat)
  | [], [], n, m, _, k, h1, h2 => by simp at h1 h2; subst h1 h2; rw [ordI_self]; rfl
  | [], _ :: _, n, m, _, k, h1, h2 => by simp at h1 h2; simp only [cmpSb, ordI]; rw [if_pos (by omega)]
  | _ :: _, [], n, m, _, k, h1, h2 => by simp at h1 h2; simp only [cmpSb, ordI]; rw [if_neg (by omega), if_pos (by omega)]
  | _ :: _, _ :: _, _, _, h, _, _, _ => by simp at h

set_option maxRecDepth 100000 in
theorem orderBindings_c {s s' : Sb} {v v' : Value} {M M' : Nat → Prop} {w : World} (h : (LSl LB).rd M w s [v]) (h' : (LSl LB).rd M' w s' [v']) (hf : Fits s) (hf' : Fits s') (hl : s.length ≤ 100000) :
    Calls Tryz.prog 147 #[v, v'] w (Ret fun v w' => v = .int .i64 (cmpSb s s') ∧ Mod [] w w') := by
  obtain ⟨a, c, rfl⟩ := rdSl_val h
  obtain ⟨a', c', rfl⟩ := rdSl_val h'
  refine enter1 Tryz.func147 rfl Tryz.ntmps147 rfl (by simp) ?_
  have H := ((Holds.start w []).arg (L := LSl LB) h).arg (L := LSl LB) h'
  (repeat (first | refine qq ?_ | (refine qds H ?_; intro H) | (refine qrb H ?_; intro _ w H) | (refine qrs H ?_; intro w H) | (refine qdr H ?_; intro H)))
  refine W_loop (fun m f w' => ∃ k g, m = s.length - k ∧ k ≤ s.length ∧ k ≤ s'.length ∧ f = sl g [(0, .slice a s.length c), (1, .slice a' s'.length c'), (5, .int .i64 k)] ∧ cmpSb s s' = cmpSb (s.drop k) (s'.drop k) ∧
    Holds _ [] [] [(LSl LB).dat M s [.slice a s.length c], (LSl LB).dat M' s' [.slice a' s'.length c']] w') s.length
    ⟨0, _, rfl, Nat.zero_le _, Nat.zero_le _, sl_back ⟨rfl, rfl, rfl, trivial⟩, rfl, H.sub (.refl _) (by simp)⟩ ?_
  clear H
  rintro m f w ⟨k, g, rfl, hk', hk2, rfl, he, H⟩
  by_cases hlt : k < s.length
  · by_cases hlt' : k < s'.length
    · obtain ⟨⟨u, t⟩, hx⟩ : ∃ x, s[k]? = some x := ⟨_, List.getElem?_eq_getElem hlt⟩
      obtain ⟨⟨u', t'⟩, hx'⟩ : ∃ x, s'[k]? = some x := ⟨_, List.getElem?_eq_getElem hlt'⟩
      have hft := hf _ (List.mem_of_getElem? hx)
      have hft' := hf' _ (List.mem_of_getElem? hx')
      rw [drop_at hx, drop_at hx'] at he
      simp only [cmpSb] at he
      obtain ⟨b, o, vs, rfl, _, _, hr, H⟩ := H.elem (L := LB) (M := M) (l := s) (a := a) (n := s.length) (c := c) (by simp) k hx
      obtain ⟨a1, c1, rfl, ht⟩ := LB_at hr
      have H := (H.tl (List.Mem.head _)).add (d := LT.dat M t _) ht
      obtain ⟨b', o', vs', rfl, _, _, hr', H⟩ := H.elem (L := LB) (M := M') (l := s') (a := a') (n := s'.length) (c := c') (by simp) k hx'
      obtain ⟨a2, c2, rfl, ht'⟩ := LB_at hr'
      have H := (H.tl (List.Mem.head _)).add (d := LT.dat M' t' _) ht'
      (repeat (first | refine qq ?_ | (refine qds H ?_; intro H) | (refine qrb H ?_; intro _ w H) | (refine qrs H ?_; intro w H) | (refine qdr H ?_; intro H)))
      refine WD_any 11 [[], [], [0, 1], [0, 1, 2], [0, 1, 2, 3], [], [], [5, 6], [5, 6, 7], [5, 6, 7, 8], [0, 1, 2, 3, 4, 5, 6, 7, 8, 9]] [(10, PV (.int .i64 (ordI (u : Nat) (u' : Nat))))] (by kernel_rfl) ?_ ?_ _ (by exact rfl) ?_
      · exact ⟨PV_stab, trivial⟩
      · refine ⟨?_, ?_, ?_, ?_, ?_, ?_, ?_, ?_, ?_, ?_, ?_, trivial⟩
        iterate 10 (· exact qob)
        · intro w hm
          have H := H.call hm
          iterate 10 refine qwr ?_
          refine qol ?_
          exact S_call2 _ _ (by exact rfl) (by exact rfl) (by exact rfl) (orderInts_c _ _ _) fun v w' h => h
      intro w hm
      have H := H.call hm
      iterate 10 refine qwr ?_
      refine qwl ?_; rintro _ rfl
      refine WR_nil ?_
      refine WD_rd (by kernel_rfl) rfl rfl (X_assign _) (WD_end (by decide) ?_)
      by_cases ho : ordI (u : Nat) (u' : Nat) = 0
      · rw [if_pos ho] at he
        (repeat (first | refine qq ?_ | (refine qds H ?_; intro H) | (refine qrb H ?_; intro _ w H) | (refine qrs H ?_; intro w H) | (refine qdr H ?_; intro H)))
        refine WD_any 11 [[], [], [0, 1], [0, 1, 2], [0, 1, 2, 3], [], [], [5, 6], [5, 6, 7], [5, 6, 7, 8], [0, 1, 2, 3, 4, 5, 6, 7, 8, 9]] [(10, PV (.int .i64 (t.cmp t')))] (by kernel_rfl) ?_ ?_ _ (by exact rfl) ?_
        · exact ⟨PV_stab, trivial⟩
        · refine ⟨?_, ?_, ?_, ?_, ?_, ?_, ?_, ?_, ?_, ?_, ?_, trivial⟩
          iterate 10 (· exact qob)
          · intro w hm
            have H := H.call hm
            iterate 10 refine qwr ?_
            refine qol ?_
            exact S_call2 _ _ (by exact rfl) (by exact rfl) (by exact rfl) (orderTerms_c t t' (H.dat (d := LT.dat M t _) (by simp)) (H.dat (d := LT.dat M' t' _) (by simp)) hft hft') fun v w' h => h
        intro w hm
        have H := H.call hm
        iterate 10 refine qwr ?_
        refine qwl ?_; rintro _ rfl
        refine WR_nil ?_
        refine WD_rd (by kernel_rfl) rfl rfl (X_assign _) (WD_end (by decide) ?_)
        by_cases hc : t.cmp t' = 0
        · rw [if_pos hc] at he
          (repeat (first | refine qq ?_ | (refine qds H ?_; intro H) | (refine qrb H ?_; intro _ w H) | (refine qrs H ?_; intro w H) | (refine qdr H ?_; intro H)))
          exact ⟨s.length - (k + 1), by omega, k + 1, _, rfl, by omega, by omega, sl_back ⟨rfl, rfl, rfl, trivial⟩, he, H.sub (.refl _) (by simp)⟩
        · rw [if_neg hc] at he
          (repeat (first | refine qq ?_ | (refine qds H ?_; intro H) | (refine qrb H ?_; intro _ w H) | (refine qrs H ?_; intro w H) | (refine qdr H ?_; intro H)))
          exact ⟨by rw [he]; rfl, H.mod⟩
      · rw [if_neg ho] at he
        (repeat (first | refine qq ?_ | (refine qds H ?_; intro H) | (refine qrb H ?_; intro _ w H) | (refine qrs H ?_; intro w H) | (refine qdr H ?_; intro H)))
        exact ⟨by rw [he]; rfl, H.mod⟩
    · (repeat (first | refine qq ?_ | (refine qds H ?_; intro H) | (refine qrb H ?_; intro _ w H) | (refine qrs H ?_; intro w H) | (refine qdr H ?_; intro H)))
      refine qa2 (hc := orderInts_c _ _ _) (k := ?_)
      rintro _ w ⟨rfl, hm⟩
      have H := H.call hm
      (repeat (first | refine qq ?_ | (refine qds H ?_; intro H) | (refine qrb H ?_; intro _ w H) | (refine qrs H ?_; intro w H) | (refine qdr H ?_; intro H)))
      exact ⟨by rw [he, cmpSb_end (n := s.length) (m := s'.length) (.inr (List.drop_eq_nil_of_le (by omega))) k (by simp; omega) (by simp; omega)]; rfl, H.mod⟩
  · (repeat (first | refine qq ?_ | (refine qds H ?_; intro H) | (refine qrb H ?_; intro _ w H) | (refine qrs H ?_; intro w H) | (refine qdr H ?_; intro H)))
    refine qa2 (hc := orderInts_c _ _ _) (k := ?_)
    rintro _ w ⟨rfl, hm⟩
    have H := H.call hm
    (repeat (first | refine qq ?_ | (refine qds H ?_; intro H) | (refine qrb H ?_; intro _ w H) | (refine qrs H ?_; intro w H) | (refine qdr H ?_; intro H)))
    exact ⟨by rw [he, cmpSb_end (n := s.length) (m := s'.length) (.inl (List.drop_eq_nil_of_le (by omega))) k (by simp; omega) (by simp; omega)]; rfl, H.mod⟩

theorem mapV_fit {s : Sb} (hs : Fits s) : ∀ {t t' : T}, t.fit = true → mapV (stepP s) t () = some (t', ()) → t'.fit = true
  | .var n, t', h, hm => by
    simp only [mapV, stepP] at hm
    cases hg : getS s n with
    | none => rw [hg] at hm; cases hm; exact h
    | some t => rw [hg] at hm; cases hm; exact hs _ (getS_mem hg)
  | .pair a b, t', h, hm => by
    simp only [T.fit, Bool.and_eq_true] at h
    simp only [mapV] at hm
    cases ha : mapV (stepP s) a () with
    | none => rw [ha] at hm; cases hm
    | some p =>
      obtain ⟨a', ⟨⟩⟩ := p
      rw [ha] at hm
      simp only [] at hm
      cases hb : mapV (stepP s) b () with
      | none => rw [hb] at hm; cases hm
      | some p =>
        obtain ⟨b', ⟨⟩⟩ := p
        rw [hb] at hm
        cases hm
        simp only [T.fit, mapV_fit hs h.1 ha, mapV_fit hs h.2 hb, Bool.and_self]
  | .nil, _, h, hm => by cases hm; exact h
  | .num _, _, h, hm => by cases hm; exact h
  | .sym _, _, h, _ => by cases h
theorem putV_fit {s : Sb} (hs : Fits s) {t t' : T} (h : t.fit = true) (hp : putV s t = some t') : t'.fit = true := by
  unfold putV at hp
  cases hz : sizeV (stepZ s) t () with
  | none => rw [hz] at hp; cases hp
  | some q =>
    rw [hz] at hp
    simp only [] at hp
    cases hk : Nat.ble q.1 5000 with
    | false => rw [hk] at hp; cases hp
    | true =>
      rw [hk] at hp
      simp only [cond_true] at hp
      cases hm : mapV (stepP s) t () with
      | none => rw [hm] at hp; cases hp
      | some q =>
        obtain ⟨t2, ⟨⟩⟩ := q
        rw [hm] at hp
        cases hp
        exact mapV_fit hs h hm
def moreGenV (e : Sb) : Sb → Option Bool
  | [] => some true
  | (v, t) :: d => match putV e (.var v) with
    | none => none
    | some x => match putV e t with
      | none => none
      | some y => bif eqT x y then moreGenV e d else some false
set_option maxRecDepth 100000 in
theorem moreGeneral_c {s s' : Sb} {v v' : Value} {M : Nat → Prop} {w : World} {r : Bool} (hr : moreGenV s' s = some r) (hM : ∀ b, M b → b < w.heap.size) (h : (LSl LB).rd M w s [v]) (h' : (LSl LB).rd M w s' [v']) (hs : ValOk s) (hs' : ValOk s') :
    Calls Tryz.prog 148 #[v, v'] w (Ret fun v w' => v = .bool r ∧ Mod [] w w') := by
  obtain ⟨a, c, rfl⟩ := rdSl_val h
  obtain ⟨a', c', rfl⟩ := rdSl_val h'
  have hl := hs.len
  refine enter1 Tryz.func148 rfl Tryz.ntmps148 rfl (by simp) ?_
  have H := ((Holds.start w []).arg (L := LSl LB) h).arg (L := LSl LB) h'
  (repeat (first | refine qq ?_ | (refine qds H ?_; intro H) | (refine qrb H ?_; intro _ w H) | (refine qrs H ?_; intro w H) | (refine qdr H ?_; intro H)))
  refine W_loop (fun m f w' => ∃ k g, m = s.length - k ∧ k ≤ s.length ∧ f = sl g [(11, .slice a s.length c), (1, .slice a' s'.length c'), (12, .int .i64 s.length), (13, .int .i64 k)] ∧ moreGenV s' (s.drop k) = some r ∧
    Holds _ [] [] [(LSl LB).dat M s [.slice a s.length c], (LSl LB).dat M s' [.slice a' s'.length c']] w') s.length
    ⟨0, _, rfl, Nat.zero_le _, sl_back ⟨rfl, rfl, rfl, rfl, trivial⟩, hr, H.sub (.refl _) (by simp)⟩ ?_
  clear H hr
  rintro m f w ⟨k, g, rfl, hk', rfl, he, H⟩
  by_cases hlt : k < s.length
  · obtain ⟨⟨u, t⟩, hx⟩ : ∃ x, s[k]? = some x := ⟨_, List.getElem?_eq_getElem hlt⟩
    have hft := hs.fits _ (List.mem_of_getElem? hx)
    have hu := (hs.ok _ (List.mem_of_getElem? hx)).1
    rw [drop_at hx] at he
    simp only [moreGenV] at he
    cases hp1 : putV s' (.var u) with
    | none => rw [hp1] at he; cases he
    | some x =>
    rw [hp1] at he
    simp only [] at he
    cases hp2 : putV s' t with
    | none => rw [hp2] at he; cases he
    | some y =>
    rw [hp2] at he
    simp only [] at he
    have hfx := putV_fit hs'.fits (by simp only [T.fit]; exact Nat.ble_eq_true_of_le hu) hp1
    have hfy := putV_fit hs'.fits hft hp2
    obtain ⟨b, o, vs, rfl, _, _, hr, H⟩ := H.elem (L := LB) (M := M) (l := s) (a := a) (n := s.length) (c := c) (by simp) k hx
    obtain ⟨a1, c1, rfl, ht⟩ := LB_at hr
    have H := H.add (d := LT.dat M t _) ht
    (repeat (first | refine qq ?_ | (refine qds H ?_; intro H) | (refine qrb H ?_; intro _ w H) | (refine qrs H ?_; intro w H) | (refine qdr H ?_; intro H)))
    refine qa1 (hc := variable_c u (H.wr M) _) (k := ?_)
    rintro _ w ⟨vs, rfl, hx1, hm⟩
    obtain ⟨a3, c3, rfl⟩ := rdT_four hx1
    have H := (H.call hm).add (d := LT.dat M (.var u) _) hx1
    (repeat (first | refine qq ?_ | (refine qds H ?_; intro H) | (refine qrb H ?_; intro _ w H) | (refine qrs H ?_; intro w H) | (refine qdr H ?_; intro H)))
    refine qa2 (hc := put_c (M := H.wr M) hs' hp1 (H.wr_lt hM) (H.dat (d := (LSl LB).dat M s' [.slice a' s'.length c']) (by simp)) (H.dat (d := LT.dat M (.var u) _) (by simp))) (k := ?_)
    rintro _ w ⟨⟨vs, rfl, hx2⟩, hm⟩
    obtain ⟨a4, c4, rfl⟩ := rdT_four hx2
    have H := (H.call hm).add (d := LT.dat M x _) hx2
    (repeat (first | refine qq ?_ | (refine qds H ?_; intro H) | (refine qrb H ?_; intro _ w H) | (refine qrs H ?_; intro w H) | (refine qdr H ?_; intro H)))
    refine qa2 (hc := put_c (M := H.wr M) hs' hp2 (H.wr_lt hM) (H.dat (d := (LSl LB).dat M s' [.slice a' s'.length c']) (by simp)) (H.dat (d := LT.dat M t [.int .i64 t.kind, .int .i64 t.int, .string t.name, .slice a1 t.args.length c1]) (by simp))) (k := ?_)
    rintro _ w ⟨⟨vs, rfl, hx3⟩, hm⟩
    obtain ⟨a5, c5, rfl⟩ := rdT_four hx3
    have H := (H.call hm).add (d := LT.dat M y _) hx3
    (repeat (first | refine qq ?_ | (refine qds H ?_; intro H) | (refine qrb H ?_; intro _ w H) | (refine qrs H ?_; intro w H) | (refine qdr H ?_; intro H)))
    refine WO_g rfl rfl (by exact rfl) (S_call2 _ _ (by exact rfl) (by exact rfl) (by exact rfl) (equalTerms_e (H.dat (d := LT.dat M x [.int .i64 x.kind, .int .i64 x.int, .string x.name, .slice a4 x.args.length c4]) (by simp)) (H.dat (d := LT.dat M y [.int .i64 y.kind, .int .i64 y.int, .string y.name, .slice a5 y.args.length c5]) (by simp)) hfx hfy) ?_)
    rintro _ w ⟨rfl, hm⟩
    have H := H.call hm
    cases hq : eqT x y with
    | true =>
      rw [hq] at he
      (repeat (first | refine qq ?_ | (refine qds H ?_; intro H) | (refine qrb H ?_; intro _ w H) | (refine qrs H ?_; intro w H) | (refine qdr H ?_; intro H)))
      exact ⟨s.length - (k + 1), by omega, k + 1, _, rfl, by omega, sl_back ⟨rfl, rfl, rfl, rfl, trivial⟩, he, H.sub (List.nil_sublist _) (by simp)⟩
    | false =>
      rw [hq] at he
      cases he
      (repeat (first | refine qq ?_ | (refine qds H ?_; intro H) | (refine qrb H ?_; intro _ w H) | (refine qrs H ?_; intro w H) | (refine qdr H ?_; intro H)))
      exact ⟨rfl, H.mod⟩
  · rw [List.drop_eq_nil_of_le (by omega)] at he
    cases he
    (repeat (first | refine qq ?_ | (refine qds H ?_; intro H) | (refine qrb H ?_; intro _ w H) | (refine qrs H ?_; intro w H) | (refine qdr H ?_; intro H)))
    exact ⟨rfl, H.mod⟩
end Go.Proofs.YtljpfnjpifhdlaaGreatDoor
namespace Go.Proofs.YtljpfnjpifhdlaaGreatDoor
open Go
instance : TyF Tryz.prog 202 false 1 .nilFunc := ⟨fun _ => by kernel_rfl, fun _ => by kernel_rfl, fun _ => by kernel_rfl⟩
instance : TyF Tryz.prog 208 true 2 (.agg #[.nilFunc, .nilFunc]) := ⟨fun _ => by kernel_rfl, fun _ => by kernel_rfl, fun _ => by kernel_rfl⟩
instance : FldF Tryz.prog 208 0 0 := ⟨fun _ _ _ => by kernel_rfl⟩
instance : FldF Tryz.prog 208 1 1 := ⟨fun _ _ _ => by kernel_rfl⟩
noncomputable def siT : TypeInfo := (Tryz.prog.info? 44).get (by kernel_rfl)
noncomputable def siE : TypeInfo := (Tryz.prog.info? 43).get (by kernel_rfl)
theorem siK (n : Nat) (h2 : 2 ≤ n) : Lib.swapperK n siE 23 = 9 := by
  have a : siE.hasPointers = true := by kernel_rfl
  have b : siE.bytes = 24 := by kernel_rfl
  have c : (n == 0) = false := by simp; omega
  have d : (n == 1) = false := by simp; omega
  simp [Lib.swapperK, a, b, c, d]
theorem hke (w : World) : (Extern.Rtype.kind 43).run Tryz.prog w = .ok 23 w := by kernel_rfl
theorem swapX (args : Array Value) (W : World) : (callFunc 170 args).run Tryz.prog W = ((Extern.ReflectliteSwapper.swap false args).run Tryz.prog W).andThen fun v w' => .ok (.value v) w' :=
  run_callFunc_extern Tryz.func170 (by kernel_rfl) (by kernel_rfl) (by kernel_rfl) (e := Extern.ReflectliteSwapper.swap false) (by kernel_rfl) args W

section
variable {w0 w : World} {S : List Nat} {A : List Atom} {D : List Dat} {r : Operand → Value} {d : Option Tmp} {ty : TypeId} {pos : String} {aft : Array Edge} {g : Option (Nat × Bool)} {K : Value → World → Prop}
/-- the two elements of a row change places -/
theorem S_swap2 (H : Holds w0 S A D w) (i : Nat) {b cap : Nat} {x0 x1 th : Value} (hth : th = typeHandle Tryz.prog 43) (c y1 y0 : Operand) {tys : Array TypeId} (hi : A[i]? = some (orow 43 1 (.slice (some ⟨b, 0, none⟩) 2 cap) [[x0], [x1]])) (h0 : x0.oneCell' = true) (h1 : x1.oneCell' = true)
    (hc : r c = .func (.func 170) #[] #[.slice (some ⟨b, 0, none⟩) 2 cap, th]) (hy1 : r y1 = .int .i64 (1 : Nat)) (hy0 : r y0 = .int .i64 (0 : Nat))
    (kk : ∀ w', Holds w0 S (A.set i (orow 43 1 (.slice (some ⟨b, 0, none⟩) 2 cap) [[x1], [x0]])) D w' → K (.tuple #[]) w') :
    OS Tryz.prog ⟨d, .call { callee := .value c, args := #[y1, y0], argTypes := tys }, ty, pos, aft, g⟩ r w K := by
  subst hth
  have hat := H.atom (List.mem_of_getElem? hi)
  obtain ⟨hall, hlen, hr⟩ := hat
  rcases hr with ⟨he, _⟩ | ⟨b', cap', cur, he, _, hg, hnc, hcm, hcs, htake⟩
  · cases he
  simp only [Value.slice.injEq, Option.some.injEq, Addr.mk.injEq, and_true, List.length_cons, List.length_nil, Nat.zero_add, Nat.reduceAdd, true_and] at he
  obtain ⟨rfl, rfl⟩ := he
  simp only [List.length_cons, List.length_nil, Nat.zero_add, Nat.reduceAdd, Nat.mul_one] at hnc hcs htake
  have ht : cur.toList.take 2 = [x0, x1] := htake
  have hbl : b < w.heap.size := (Array.getElem?_eq_some_iff.1 hg).1
  have g0 : cur[0]? = some x0 := by
    have := congrArg (·[0]?) ht
    simpa [List.getElem?_take] using this
  have g1 : cur[1]? = some x1 := by
    have := congrArg (·[1]?) ht
    simpa [List.getElem?_take] using this
  have c0 : w.cell? ⟨b, 0 + 0, none⟩ = some x0 := by simp [World.cell?, hg, g0]
  have c1 : w.cell? ⟨b, 0 + 1, none⟩ = some x1 := by simp [World.cell?, hg, g1]
  have f0 : ∀ o, w.frozen? ⟨b, o, none⟩ = false := fun o => by simp [World.frozen?, hg]
  have hrun := Lib.run_swap_one (P := Tryz.prog) false 43 siE (by kernel_rfl) (by kernel_rfl) (fun _ => by kernel_rfl) b 0 2 cap 1 0 (by omega) (by omega) x1 x0 h1 h0 w c1 c0 (f0 _) (f0 _)
  refine S_run (v := .tuple #[]) (w' := (w.setCell ⟨b, 0 + 1, none⟩ x0).setCell ⟨b, 0 + 0, none⟩ x1) ?_ (kk _ (H.turnAt i hi (((Mod.refl _ _).set (.inl (by simp [orow, Value.ownBlock])) _).set (.inl (by simp [orow, Value.ownBlock])) _) ⟨?_, ?_⟩ (by simp [orow, Value.ownBlock]) (fun c hc => ?_)))
  · simp only [execOp, resolve, hc, List.map_toArray, List.map_cons, List.map_nil, hy1, hy0, Deferred.ofValue, pure_bind, invoke, Array.empty_append]
    rw [swapX, show (#[Value.int .i64 ((1 : Nat) : Int), Value.int .i64 ((0 : Nat) : Int)] ++ #[Value.slice (some ⟨b, 0, none⟩) 2 cap, typeHandle Tryz.prog 43]) = #[.int .i64 (1 : Nat), .int .i64 (0 : Nat), .slice (some ⟨b, 0, none⟩) 2 cap, typeHandle Tryz.prog 43] from rfl, hrun]
    rfl
  · intro vs hvs
    simp only [List.mem_cons, List.not_mem_nil, or_false] at hvs
    rcases hvs with rfl | rfl <;> rfl
  · refine ⟨rfl, .inr ⟨b, cap, (cur.setIfInBounds 1 x0).setIfInBounds 0 x1, rfl, Nat.zero_le _, ?_, by simpa using hnc, hcm, by simpa using hcs, ?_⟩⟩
    · simp [World.setCell, Array.getElem?_modify, hg]
    · obtain ⟨l, rfl⟩ : ∃ l, cur = (x0 :: x1 :: l).toArray := ⟨cur.toList.drop 2, by
        apply Array.ext'
        have := List.take_append_drop 2 cur.toList
        rw [ht] at this
        simpa using this.symm⟩
      rfl
  · simp only [orow, Value.ownBlock, Option.toList_some, List.mem_singleton] at hc
    subst hc
    refine ⟨?_, .inl (by simp [orow, Value.ownBlock])⟩
    simpa [World.setCell] using hbl
end

set_option maxRecDepth 100000 in
theorem less1_c {w : World} {M : Nat → Prop} {b5 b cap : Nat} {x0 x1 : Value} {s0 s1 : Sb} (c5 : b5 < w.heap.size ∧ Cells w b5 0 [.slice (some ⟨b, 0, none⟩) 2 cap]) (cb : b < w.heap.size ∧ Cells w b 0 [x0, x1])
    (h0 : (LSl LB).rd M w s0 [x0]) (h1 : (LSl LB).rd M w s1 [x1]) (f0 : Fits s0) (f1 : Fits s1) (l1 : s1.length ≤ 100000) :
    Calls Tryz.prog 146 (#[.int .i64 1, .int .i64 (1 - 1)] ++ #[.pointer (some ⟨b5, 0, none⟩)]) w (Ret fun v w' => v = .bool (decide (cmpSb s1 s0 < 0)) ∧ Mod [] w w') := by
  obtain ⟨a0, c0, rfl⟩ := rdSl_val h0
  obtain ⟨a1, c1, rfl⟩ := rdSl_val h1
  show Calls _ _ #[.int .i64 (1 : Nat), .int .i64 (0 : Nat), .pointer (some ⟨b5, 0, none⟩)] _ _
  refine enter1 Tryz.func146 rfl Tryz.ntmps146 rfl (by simp) ?_
  have H := ((((Holds.start w []).arg (L := LSl LB) h0).arg (L := LSl LB) h1).add (d := dcells b5 0 [.slice (some ⟨b, 0, none⟩) 2 cap]) ⟨by simp [owns], c5.1, c5.2⟩).add (d := dcells b 0 [.slice a0 s0.length c0, .slice a1 s1.length c1]) ⟨by simp [owns], cb.1, cb.2⟩
  (repeat (first | refine qq ?_ | (refine qds H ?_; intro H) | (refine qrb H ?_; intro _ w H) | (refine qrs H ?_; intro w H) | (refine qdr H ?_; intro H)))
  by_cases hc : cmpSb s1 s0 < 0
  · rw [decide_eq_true hc]
    refine WD_any 10 [[], [], [0, 1], [0, 1, 2], [], [], [4, 5], [4, 5, 6], [0, 1, 2, 3, 4, 5, 6, 7], [0, 1, 2, 3, 4, 5, 6, 7, 8]] [(8, PV (.int .i64 (cmpSb s1 s0)))] (by kernel_rfl) ?_ ?_ _ (by exact rfl) ?_
    · exact ⟨PV_stab, trivial⟩
    · refine ⟨?_, ?_, ?_, ?_, ?_, ?_, ?_, ?_, ?_, ?_, trivial⟩
      iterate 8 (· exact qob)
      · intro w hm
        have H := H.call hm
        iterate 8 refine qwr ?_
        refine qol ?_
        exact S_call2 _ _ (by exact rfl) (by exact rfl) (by exact rfl) (orderBindings_c (H.dat (d := (LSl LB).dat M s1 [.slice a1 s1.length c1]) (by simp)) (H.dat (d := (LSl LB).dat M s0 [.slice a0 s0.length c0]) (by simp)) f1 f0 l1) fun v w' h => h
      · intro w hm
        have H := H.call hm
        iterate 8 refine qwr ?_
        refine qwl ?_; rintro _ rfl
        exact OA_rd rfl (by exact rfl) (X_lssT _ _ (by exact rfl) (by exact rfl) hc)
    intro w hm
    have H := H.call hm
    iterate 8 refine qwr ?_
    refine qwl ?_; rintro _ rfl
    refine WR_rd rfl (by exact rfl) (X_lssT _ _ (by exact rfl) (by exact rfl) hc) ?_
    refine WR_nil ?_
    refine WD_rd (by kernel_rfl) rfl rfl (X_assign _) (WD_end (by decide) ?_)
    (repeat (first | refine qq ?_ | (refine qds H ?_; intro H) | (refine qrb H ?_; intro _ w H) | (refine qrs H ?_; intro w H) | (refine qdr H ?_; intro H)))
    exact ⟨rfl, H.mod⟩
  · rw [decide_eq_false hc]
    refine WD_any 10 [[], [], [0, 1], [0, 1, 2], [], [], [4, 5], [4, 5, 6], [0, 1, 2, 3, 4, 5, 6, 7], [0, 1, 2, 3, 4, 5, 6, 7, 8]] [(8, PV (.int .i64 (cmpSb s1 s0)))] (by kernel_rfl) ?_ ?_ _ (by exact rfl) ?_
    · exact ⟨PV_stab, trivial⟩
    · refine ⟨?_, ?_, ?_, ?_, ?_, ?_, ?_, ?_, ?_, ?_, trivial⟩
      iterate 8 (· exact qob)
      · intro w hm
        have H := H.call hm
        iterate 8 refine qwr ?_
        refine qol ?_
        exact S_call2 _ _ (by exact rfl) (by exact rfl) (by exact rfl) (orderBindings_c (H.dat (d := (LSl LB).dat M s1 [.slice a1 s1.length c1]) (by simp)) (H.dat (d := (LSl LB).dat M s0 [.slice a0 s0.length c0]) (by simp)) f1 f0 l1) fun v w' h => h
      · intro w hm
        have H := H.call hm
        iterate 8 refine qwr ?_
        refine qwl ?_; rintro _ rfl
        exact OA_rd rfl (by exact rfl) (X_lssF _ _ (by exact rfl) (by exact rfl) (Int.not_lt.1 hc))
    intro w hm
    have H := H.call hm
    iterate 8 refine qwr ?_
    refine qwl ?_; rintro _ rfl
    refine WR_rd rfl (by exact rfl) (X_lssF _ _ (by exact rfl) (by exact rfl) (Int.not_lt.1 hc)) ?_
    refine WR_nil ?_
    refine WD_rd (by kernel_rfl) rfl rfl (X_assign _) (WD_end (by decide) ?_)
    (repeat (first | refine qq ?_ | (refine qds H ?_; intro H) | (refine qrb H ?_; intro _ w H) | (refine qrs H ?_; intro w H) | (refine qdr H ?_; intro H)))
    exact ⟨rfl, H.mod⟩

section
variable {w0 w : World} {S : List Nat} {A : List Atom} {D : List Dat} {M : Nat → Prop} {b5 b cap : Nat} {x0 x1 : Value} {s0 s1 : Sb}
def sort2R (s0 s1 : Sb) (x0 x1 : Value) : List (List Value) := if cmpSb s1 s0 < 0 then [[x1], [x0]] else [[x0], [x1]]
abbrev swF (th : Value) (b cap : Nat) : Value := .func (.func 170) #[] #[.slice (some ⟨b, 0, none⟩) 2 cap, th]
abbrev lsF (b5 : Nat) : Value := .func (.func 146) #[] #[.pointer (some ⟨b5, 0, none⟩)]
abbrev rowA (b cap : Nat) (vss : List (List Value)) : Atom := orow 43 1 (.slice (some ⟨b, 0, none⟩) 2 cap) vss
set_option maxHeartbeats 1000000 in
set_option maxRecDepth 100000 in
theorem ins2_c {th : Value} (hth : th = typeHandle Tryz.prog 43) (H : Holds w0 S A D w) (i : Nat) (hi : A[i]? = some (rowA b cap [[x0], [x1]])) (h5 : dcells b5 0 [.slice (some ⟨b, 0, none⟩) 2 cap] ∈ D) (h0 : (LSl LB).dat M s0 [x0] ∈ D) (h1 : (LSl LB).dat M s1 [x1] ∈ D)
    (f0 : Fits s0) (f1 : Fits s1) (l1 : s1.length ≤ 100000) :
    Calls Tryz.prog 173 #[.agg #[lsF b5, swF th b cap], .int .i64 0, .int .i64 2] w (Ret fun _ w' => Holds w0 S (A.set i (rowA b cap (sort2R s0 s1 x0 x1))) D w') := by
  obtain ⟨a0, c0, rfl⟩ := rdSl_val (H.dat h0)
  obtain ⟨a1, c1, rfl⟩ := rdSl_val (H.dat h1)
  refine enter0 Tryz.func173 rfl Tryz.ntmps173 rfl (by simp) ?_
  refine W_rs ?_
  refine WO_s rfl (S_boxN H _ (xs := [lsF b5, swF th b cap]) (by exact rfl) ?_); intro b3 w H
  have hi' : (box b3 [lsF b5, swF th b cap] 208 :: A)[i + 1]? = some (rowA b cap [[.slice a0 s0.length c0], [.slice a1 s1.length c1]]) := by simpa using hi
  (repeat (first | refine qq ?_ | (refine qds H ?_; intro H) | (refine qrb H ?_; intro _ w H) | (refine qrs H ?_; intro w H) | (refine qdr H ?_; intro H)))
  refine W_loop (fun m f w' => ∃ g, (m = 1 ∧ f = sl g [(6, .int .i64 1), (1, .int .i64 0), (2, .int .i64 2), (3, .pointer (some ⟨b3, 0, none⟩))] ∧ Holds w0 S (box b3 [lsF b5, swF th b cap] 208 :: A) D w') ∨
      (m = 0 ∧ f = sl g [(6, .int .i64 2), (1, .int .i64 0), (2, .int .i64 2), (3, .pointer (some ⟨b3, 0, none⟩))] ∧ Holds w0 S (box b3 [lsF b5, swF th b cap] 208 :: A.set i (rowA b cap (sort2R s0 s1 (.slice a0 s0.length c0) (.slice a1 s1.length c1)))) D w')) 1
    ⟨_, .inl ⟨rfl, sl_back ⟨rfl, rfl, rfl, rfl, trivial⟩, H⟩⟩ ?_
  clear H
  rintro m f w ⟨g, ⟨rfl, rfl, H⟩ | ⟨rfl, rfl, H⟩⟩
  · (repeat (first | refine qq ?_ | (refine qds H ?_; intro H) | (refine qrb H ?_; intro _ w H) | (refine qrs H ?_; intro w H) | (refine qdr H ?_; intro H)))
    refine W_loop (fun m f w' => ∃ g, (m = 1 ∧ f = sl g [(7, .int .i64 1), (6, .int .i64 1), (1, .int .i64 0), (2, .int .i64 2), (3, .pointer (some ⟨b3, 0, none⟩))] ∧ Holds w0 S (box b3 [lsF b5, swF th b cap] 208 :: A) D w') ∨
        (m = 0 ∧ cmpSb s1 s0 < 0 ∧ f = sl g [(7, .int .i64 0), (6, .int .i64 1), (1, .int .i64 0), (2, .int .i64 2), (3, .pointer (some ⟨b3, 0, none⟩))] ∧ Holds w0 S (box b3 [lsF b5, swF th b cap] 208 :: A.set i (rowA b cap [[.slice a1 s1.length c1], [.slice a0 s0.length c0]])) D w')) 1
      ⟨_, .inl ⟨rfl, sl_back ⟨rfl, rfl, rfl, rfl, rfl, trivial⟩, H⟩⟩ ?_
    clear H
    rintro m f w ⟨g, ⟨rfl, rfl, H⟩ | ⟨rfl, hlt, rfl, H⟩⟩
    · have r0 := H.row (i + 1) hi' (k := 0) (vs := [.slice a0 s0.length c0]) rfl
      have r1 := H.row (i + 1) hi' (k := 1) (vs := [.slice a1 s1.length c1]) rfl
      have hbl : b < w.heap.size := H.lt b (mem_owns.2 ⟨_, List.mem_of_getElem? hi', by simp [rowA, orow, Value.ownBlock]⟩)
      have hcb : Cells w b 0 [.slice a0 s0.length c0, .slice a1 s1.length c1] := by
        obtain ⟨b', cap', he, hc0, _⟩ := r0
        obtain ⟨b'', cap'', he', hc1, _⟩ := r1
        simp only [Value.slice.injEq, Option.some.injEq, Addr.mk.injEq, and_true] at he he'
        obtain ⟨rfl, _⟩ := he
        obtain ⟨rfl, _⟩ := he'
        intro j u hj
        match j with
        | 0 => simp at hj; subst hj; simpa using hc0 0 _ rfl
        | 1 => simp at hj; subst hj; simpa using hc1 0 _ rfl
        | j + 2 => simp at hj
      have hd5 := H.dat h5
      (repeat (first | refine qq ?_ | (refine qds H ?_; intro H) | (refine qrb H ?_; intro _ w H) | (refine qrs H ?_; intro w H) | (refine qdr H ?_; intro H)))
      refine WO_g rfl rfl (by exact rfl) (S_clo2 _ _ (by exact rfl) (by exact rfl) (by exact rfl) (less1_c ⟨hd5.2.1, hd5.2.2⟩ ⟨hbl, hcb⟩ (H.dat h0) (H.dat h1) f0 f1 l1) ?_)
      rintro _ w ⟨rfl, hm⟩
      have H := H.call hm
      by_cases hlt : cmpSb s1 s0 < 0
      · rw [decide_eq_true hlt]
        (repeat (first | refine qq ?_ | (refine qds H ?_; intro H) | (refine qrb H ?_; intro _ w H) | (refine qrs H ?_; intro w H) | (refine qdr H ?_; intro H)))
        refine WO_s rfl (S_swap2 H (i + 1) hth _ _ _ hi' rfl rfl (by exact rfl) (by exact rfl) (by exact rfl) ?_); intro w H
        (repeat (first | refine qq ?_ | (refine qds H ?_; intro H) | (refine qrb H ?_; intro _ w H) | (refine qrs H ?_; intro w H) | (refine qdr H ?_; intro H)))
        exact ⟨0, by omega, _, .inr ⟨rfl, hlt, sl_back ⟨rfl, rfl, rfl, rfl, rfl, trivial⟩, H⟩⟩
      · rw [decide_eq_false hlt]
        (repeat (first | refine qq ?_ | (refine qds H ?_; intro H) | (refine qrb H ?_; intro _ w H) | (refine qrs H ?_; intro w H) | (refine qdr H ?_; intro H)))
        refine ⟨0, by omega, _, .inr ⟨rfl, sl_back ⟨rfl, rfl, rfl, rfl, trivial⟩, ?_⟩⟩
        rw [sort2R, if_neg hlt, set_self hi]
        exact H
    · (repeat (first | refine qq ?_ | (refine qds H ?_; intro H) | (refine qrb H ?_; intro _ w H) | (refine qrs H ?_; intro w H) | (refine qdr H ?_; intro H)))
      refine ⟨0, by omega, _, .inr ⟨rfl, sl_back ⟨rfl, rfl, rfl, rfl, trivial⟩, ?_⟩⟩
      rw [sort2R, if_pos hlt]
      exact H
  · (repeat (first | refine qq ?_ | (refine qds H ?_; intro H) | (refine qrb H ?_; intro _ w H) | (refine qrs H ?_; intro w H) | (refine qdr H ?_; intro H)))
    exact H.sub (.cons _ (.refl _)) (fun _ h => h)

set_option maxRecDepth 100000 in
theorem stable2_c {th : Value} (hth : th = typeHandle Tryz.prog 43) (H : Holds w0 S A D w) (i : Nat) (hi : A[i]? = some (rowA b cap [[x0], [x1]])) (h5 : dcells b5 0 [.slice (some ⟨b, 0, none⟩) 2 cap] ∈ D) (h0 : (LSl LB).dat M s0 [x0] ∈ D) (h1 : (LSl LB).dat M s1 [x1] ∈ D)
    (f0 : Fits s0) (f1 : Fits s1) (l1 : s1.length ≤ 100000) :
    Calls Tryz.prog 181 #[.agg #[lsF b5, swF th b cap], .int .i64 (2 : Nat)] w (Ret fun v w' => v = .tuple #[] ∧ Holds w0 S (A.set i (rowA b cap (sort2R s0 s1 x0 x1))) D w') := by
  refine enter0 Tryz.func181 rfl Tryz.ntmps181 rfl (by simp) ?_
  refine W_rs ?_
  refine WO_s rfl (S_boxN H _ (xs := [lsF b5, swF th b cap]) (by exact rfl) ?_); intro b3 w H
  have hi' : (box b3 [lsF b5, swF th b cap] 208 :: A)[i + 1]? = some (rowA b cap [[x0], [x1]]) := by simpa using hi
  (repeat (first | refine qq ?_ | (refine qds H ?_; intro H) | (refine qrb H ?_; intro _ w H) | (refine qrs H ?_; intro w H) | (refine qdr H ?_; intro H)))
  refine W_loop (fun m f w' => ∃ g, m = 0 ∧ f = sl g [(6, .int .i64 20), (1, .int .i64 (2 : Nat)), (2, .pointer (some ⟨b3, 0, none⟩)), (4, .int .i64 20), (5, .int .i64 0)] ∧ Holds w0 S (box b3 [lsF b5, swF th b cap] 208 :: A) D w') 0
    ⟨_, rfl, sl_back ⟨rfl, rfl, rfl, rfl, rfl, trivial⟩, H⟩ ?_
  clear H
  rintro m f w ⟨g, rfl, rfl, H⟩
  (repeat (first | refine qq ?_ | (refine qds H ?_; intro H) | (refine qrb H ?_; intro _ w H) | (refine qrs H ?_; intro w H) | (refine qdr H ?_; intro H)))
  refine qa3 (hc := ins2_c hth H (i + 1) hi' h5 h0 h1 f0 f1 l1) (k := ?_)
  rintro _ w H
  (repeat (first | refine qq ?_ | (refine qds H ?_; intro H) | (refine qrb H ?_; intro _ w H) | (refine qrs H ?_; intro w H) | (refine qdr H ?_; intro H)))
  refine W_loop (fun m f w' => ∃ g, m = 0 ∧ f = sl g [(1, .int .i64 (2 : Nat)), (4, .int .i64 20)] ∧ Holds w0 S (box b3 [lsF b5, swF th b cap] 208 :: A.set i (rowA b cap (sort2R s0 s1 x0 x1))) D w') 0
    ⟨_, rfl, sl_back ⟨rfl, rfl, trivial⟩, H⟩ ?_
  clear H
  rintro m f w ⟨g, rfl, rfl, H⟩
  (repeat (first | refine qq ?_ | (refine qds H ?_; intro H) | (refine qrb H ?_; intro _ w H) | (refine qrs H ?_; intro w H) | (refine qdr H ?_; intro H)))
  exact ⟨rfl, H.sub (.cons _ (.refl _)) (fun _ h => h)⟩
end

def sort2 : List Sb → List Sb
  | [a, b] => if cmpSb b a < 0 then [b, a] else [a, b]
  | l => l
theorem grow_mod {w : World} (os : Array Obj) : Mod [] w (Go.Sort.grow w os) :=
  ⟨rfl, rfl, rfl, by simp [Go.Sort.grow], fun k hk _ => by show (w.heap ++ os)[k]? = _; rw [Array.getElem?_append_left hk]⟩
theorem Alls.two {α β : Type} {R : α → β → Prop} {x y : α} {m : List β} (h : Alls R [x, y] m) : ∃ u v, m = [u, v] ∧ R x u ∧ R y v := by
  match m, h with
  | [u, v], ⟨h1, h2, _⟩ => exact ⟨u, v, rfl, h1, h2⟩
theorem LSl_one {α : Type} {L : Lay α} {M : Nat → Prop} {w : World} {l : List α} {vs : List Value} (h : (LSl L).rd M w l vs) : ∃ a c, vs = [.slice a l.length c] := by
  obtain ⟨a, n, c, rfl, h1, _⟩ := h
  exact ⟨a, c, by rw [h1]⟩
section
variable {w0 w : World} {S : List Nat} {A : List Atom} {D : List Dat} {M : Nat → Prop} {b5 : Nat}
theorem sortSt_c (H : Holds w0 S A D w) (i : Nat) {l : List Sb} {v : Value} {vss : List (List Value)} (hi : A[i]? = some (orow 43 1 v vss)) (hd : dall (LSl LB) M l vss ∈ D) (h5 : dcells b5 0 [v] ∈ D) (hl : l.length ≤ 2) (hf : ∀ s ∈ l, Fits s ∧ s.length ≤ 100000) :
    Calls Tryz.prog 145 #[.iface 44 v, lsF b5] w (Ret fun _ w' => ∃ vss', Holds w0 S (A.set i (orow 43 1 v vss')) (dall (LSl LB) M (sort2 l) vss' :: D) w') := by
  obtain ⟨a, cap, rfl⟩ := H.rowVal i hi
  have hvl := (H.dat hd).get.1
  match l, hl, hf, hd, hvl with
  | [], _, _, hd, hvl =>
    have hz : vss.length = 0 := hvl.symm
    rw [hz]
    refine (Any.sort_SliceStable_tiny Tryz.laysGt8 44 43 siT siE (by kernel_rfl) (by kernel_rfl) (by kernel_rfl) (by kernel_rfl) 23 hke a 0 cap (by omega) 162 (by kernel_rfl) (.func 146) #[] #[.pointer (some ⟨b5, 0, none⟩)] w).mono ?_
    rintro e w' ⟨rfl, os, rfl⟩
    refine ⟨_, rfl, vss, ?_⟩
    rw [hz] at hi
    rw [set_self hi]
    exact (H.call (grow_mod os)).sub (.refl _) (by simp only [sort2, List.mem_cons]; rintro x (rfl | hx); exact hd; exact hx)
  | [s0], _, _, hd, hvl =>
    have hz : vss.length = 1 := hvl.symm
    rw [hz]
    refine (Any.sort_SliceStable_tiny Tryz.laysGt8 44 43 siT siE (by kernel_rfl) (by kernel_rfl) (by kernel_rfl) (by kernel_rfl) 23 hke a 1 cap (by omega) 163 (by kernel_rfl) (.func 146) #[] #[.pointer (some ⟨b5, 0, none⟩)] w).mono ?_
    rintro e w' ⟨rfl, os, rfl⟩
    refine ⟨_, rfl, vss, ?_⟩
    rw [hz] at hi
    rw [set_self hi]
    exact (H.call (grow_mod os)).sub (.refl _) (by simp only [sort2, List.mem_cons]; rintro x (rfl | hx); exact hd; exact hx)
  | [s0, s1], _, hf, hd, hvl =>
    obtain ⟨u0, u1, rfl, h0, h1⟩ := (H.dat hd).two
    obtain ⟨a0, c0, rfl⟩ := LSl_one h0
    obtain ⟨a1, c1, rfl⟩ := LSl_one h1
    obtain ⟨b, cap', he, _, _⟩ := H.row i hi (k := 0) rfl
    simp only [Value.slice.injEq] at he
    obtain ⟨rfl, _, rfl⟩ := he
    have hd0 : (LSl LB).dat M s0 [.slice a0 s0.length c0] ∈ (LSl LB).dat M s0 [.slice a0 s0.length c0] :: (LSl LB).dat M s1 [.slice a1 s1.length c1] :: D := by simp
    have hd1 : (LSl LB).dat M s1 [.slice a1 s1.length c1] ∈ (LSl LB).dat M s0 [.slice a0 s0.length c0] :: (LSl LB).dat M s1 [.slice a1 s1.length c1] :: D := by simp
    have H := (H.add (d := (LSl LB).dat M s1 [.slice a1 s1.length c1]) h1).add (d := (LSl LB).dat M s0 [.slice a0 s0.length c0]) h0
    have H := H.call (((Mod.refl [] w).alloc (.cells #[.slice (some ⟨b, 0, none⟩) 2 cap] 44)).alloc (.cells #[.pointer (some ⟨Tryz.prog.globals.size, 44, none⟩), .pointer (some ⟨w.heap.size, 0, none⟩), .int .u64 151] (Tryz.laysGt8_ren.t 36)))
    obtain ⟨th, hth⟩ : ∃ th, th = typeHandle Tryz.prog 43 := ⟨_, rfl⟩
    have hS := stable2_c hth H i hi (List.Mem.tail _ (List.Mem.tail _ h5)) hd0 hd1 (hf s0 (by simp)).1 (hf s1 (by simp)).1 (hf s1 (by simp)).2
    refine Calls.mono (Any.sort_SliceStable_of_stable Tryz.laysGt8 44 43 siT siE (by kernel_rfl) (by kernel_rfl) (by kernel_rfl) (by kernel_rfl) 23 hke (some ⟨b, 0, none⟩) 2 cap (by omega) 170 (by rw [siK 2 (by omega)]; kernel_rfl) (.func 146) #[] #[.pointer (some ⟨b5, 0, none⟩)] w
      (fun w' => Holds w0 S (A.set i (rowA b cap (sort2R s0 s1 (.slice a0 s0.length c0) (.slice a1 s1.length c1)))) ((LSl LB).dat M s0 [.slice a0 s0.length c0] :: (LSl LB).dat M s1 [.slice a1 s1.length c1] :: D) w') ?_) ?_
    · have hB : sliceBound Tryz.prog 43 siE 23 (some ⟨b, 0, none⟩) 2 cap = #[.slice (some ⟨b, 0, none⟩) 2 cap, th] := by
        unfold sliceBound; rw [if_neg (swapperK_gt _ _ _ (Nat.le_refl 2)), hth]
      rw [hB]
      refine Calls.mono hS ?_
      rintro e w' ⟨v, rfl, rfl, h⟩
      exact ⟨rfl, h⟩
    · rintro e w' ⟨rfl, H⟩
      refine ⟨_, rfl, _, H.sub (.refl _) (fun _ h => by simp [h]) |>.add ?_⟩
      show Alls _ _ _
      have hs2 : sort2 [s0, s1] = if cmpSb s1 s0 < 0 then [s1, s0] else [s0, s1] := rfl
      rw [hs2]
      have e0 := H.dat hd0
      have e1 := H.dat hd1
      revert e0 e1
      generalize (fun x => x ∈ owns (A.set i (rowA b cap (sort2R s0 s1 (.slice a0 s0.length c0) (.slice a1 s1.length c1))))) = X
      intro e0 e1
      unfold sort2R
      by_cases hc : cmpSb s1 s0 < 0
      · rw [if_pos hc, if_pos hc]
        exact ⟨e1, e0, trivial⟩
      · rw [if_neg hc, if_neg hc]
        exact ⟨e0, e1, trivial⟩
end
end Go.Proofs.YtljpfnjpifhdlaaGreatDoor
namespace Go.Proofs.YtljpfnjpifhdlaaGreatDoor
open Go
def keepV (e : Sb) : List Sb → Option Bool
  | [] => some true
  | d :: s => if cmpSb d e = 0 then keepV e s else match moreGenV e d with
    | none => none
    | some b => match keepV e s with
      | none => none
      | some k => some (!b && k)
def dupV (e : Sb) : Option Sb → Bool
  | none => false
  | some p => decide (cmpSb p e = 0)
def minLoop (s : List Sb) : Option Sb → List Sb → Option (List Sb)
  | _, [] => some []
  | prev, e :: r => bif dupV e prev then minLoop s (some e) r else match keepV e s with
    | none => none
    | some k => match minLoop s (some e) r with
      | none => none
      | some l => some (bif k then e :: l else l)
def minimalV (l : List Sb) : Option (List Sb) := bif Nat.ble l.length 2 then minLoop (sort2 l) none (sort2 l) else none
abbrev LSb : Lay Sb := LSl LB
abbrev LSs : Lay (List Sb) := LSl LSb
theorem sort2_mem {l : List Sb} {x : Sb} : x ∈ sort2 l ↔ x ∈ l := by
  match l with
  | [] => exact Iff.rfl
  | [_] => exact Iff.rfl
  | [a, b] =>
    have hs2 : sort2 [a, b] = if cmpSb b a < 0 then [b, a] else [a, b] := rfl
    rw [hs2]
    split
    · simp [or_comm]
    · exact Iff.rfl
  | _ :: _ :: _ :: _ => exact Iff.rfl
theorem sort2_len {l : List Sb} : (sort2 l).length = l.length := by
  match l with
  | [] => rfl
  | [_] => rfl
  | [a, b] =>
    have hs2 : sort2 [a, b] = if cmpSb b a < 0 then [b, a] else [a, b] := rfl
    rw [hs2]
    split <;> rfl
  | _ :: _ :: _ :: _ => rfl

theorem RdL.cells {α : Type} {L : Lay α} {M : Nat → Prop} {w : World} {b : Nat} : ∀ {o : Nat} {l : List α}, RdL L M w b o l → ∃ vss, Alls (L.rd M w) l vss ∧ Cells w b o vss.flatten ∧ (∀ vs ∈ vss, vs.length = L.sz) ∧ ∀ vs ∈ vss, ∀ u ∈ vs, u.oneCell' = true
  | o, [], _ => ⟨[], trivial, Cells.nil, by simp, by simp⟩
  | o, x :: l, ⟨⟨vs, h1, h2⟩, h3⟩ => by
    obtain ⟨vss, h4, h5, h6, h7⟩ := RdL.cells h3
    refine ⟨vs :: vss, ⟨h1, h4⟩, ?_, ?_, ?_⟩
    · rw [List.flatten_cons]
      exact Cells.append.2 ⟨h2, by rw [L.len _ _ _ _ h1]; exact h5⟩
    · intro us hus
      rcases List.mem_cons.1 hus with rfl | hus
      · exact L.len _ _ _ _ h1
      · exact h6 us hus
    · intro us hus
      rcases List.mem_cons.1 hus with rfl | hus
      · exact L.one _ _ _ _ h1
      · exact h7 us hus
/-- the cells of a slice -/
theorem slice_cells {α : Type} {L : Lay α} {M : Nat → Prop} {w : World} {l : List α} {a : Option Addr} {n c : Nat} (h : (LSl L).rd M w l [.slice a n c]) : (l = [] ∧ n = 0) ∨
    ∃ b o vss, a = some ⟨b, o, none⟩ ∧ n = vss.length ∧ Alls (L.rd M w) l vss ∧ Cells w b o vss.flatten ∧ (∀ vs ∈ vss, vs.length = L.sz) ∧ ∀ vs ∈ vss, ∀ u ∈ vs, u.oneCell' = true := by
  obtain ⟨a', n', c', he, h1, h2, h3⟩ := h
  simp only [List.cons.injEq, Value.slice.injEq, and_true] at he
  obtain ⟨rfl, rfl, rfl⟩ := he
  rcases h3 with rfl | ⟨b, o, rfl, _, _, hl⟩
  · exact .inl ⟨rfl, h1⟩
  · obtain ⟨vss, h4, h5, h6, h7⟩ := RdL.cells hl
    exact .inr ⟨b, o, vss, rfl, by rw [h1, h4.get.1], h4, h5, h6, h7⟩
section
variable {P : Program} {w0 w : World} {S : List Nat} {A : List Atom} {D : List Dat} {r : Operand → Value} {d : Option Tmp} {ty : TypeId} {pos : String} {aft : Array Edge} {g : Option (Nat × Bool)} {K : Value → World → Prop}
theorem X_iface {t e : TypeId} [G : SlF P t e] (x : Operand) {v : Value} (hx : r x = v) : runC P w (execOp r ⟨d, .makeInterface t x, ty, pos, aft, g⟩) = some (.value (.iface t v)) := by
  show runC P w (Instr.makeInterface t (r x) >>= fun v => pure (Next.value v)) = _
  unfold Instr.makeInterface
  simp only [bind_assoc]
  rw [runC_bind, runC_underlying G.und, hx]
  rfl
/-- a whole slice of data appended to a row of the call's own -/
theorem S_appendD (H : Holds w0 S A D w) (i : Nat) {α : Type} {L : Lay α} {M : Nat → Prop} {t e : TypeId} {agg : Bool} {sz bytes : Nat} {z : Value} [G : SlF P t e] [F : TyF P e agg sz z] [B : ByF P e bytes] (s x : Operand) {v : Value} {l l' : List α} {vss : List (List Value)} {a : Option Addr} {n c : Nat}
    (hi : A[i]? = some (orow e L.sz v vss)) (hd : dall L M l vss ∈ D) (hx' : (LSl L).dat M l' [.slice a n c] ∈ D) (hs : r s = v) (hx : r x = .slice a n c) (hsz : sz = L.sz) (h0 : 0 < L.sz) (hzs : z.cells.size = L.sz)
    (hlen : (l.length + l'.length) * (bytes + 1) ≤ 140737488355328) (k : ∀ v' vss' w', Holds w0 S (A.set i (orow e L.sz v' vss')) (dall L M (l ++ l') vss' :: D) w' → K v' w') :
    OS P ⟨d, .call { callee := .builtin .append, args := #[s, x], argTypes := #[t, t] }, ty, pos, aft, g⟩ r w K := by
  subst hsz
  rcases slice_cells (H.dat hx') with ⟨rfl, rfl⟩ | ⟨b, o, uss, rfl, rfl, hal, hc, hl, h1⟩
  · refine S_append0 H i s x hi hs hx (k v vss w ?_)
    rw [set_self hi, List.append_nil]
    exact H.add (H.dat hd)
  · have hvl := (H.dat hd).get.1
    have hul := hal.get.1
    by_cases hu : uss = []
    · subst hu
      have : l' = [] := by simpa using hul
      subst this
      refine S_append0 H i s x hi hs hx (k v vss w ?_)
      rw [set_self hi, List.append_nil]
      exact H.add (H.dat hd)
    · have hal' : (⟨fun X w => Alls (L.rd (fun b => M b ∨ X b) w) l' uss, (dall L M l' uss).keep, (dall L M l' uss).grow⟩ : Dat).ok (· ∈ owns A) w := hal
      have H := H.add (d := dall L M l' uss) hal'
      refine S_appendN H i s x (uss := uss) hi hs hx hc hl h1 h0 hzs hu (by rw [← hvl, ← hul]; exact hlen) fun v' w' H' => k v' (vss ++ uss) w' ?_
      have e1 := H'.dat (d := dall L M l vss) (List.Mem.tail _ hd)
      have e2 := H'.dat (d := dall L M l' uss) (List.Mem.head _)
      refine (H'.sub (.refl _) (fun _ h => List.Mem.tail _ h)).add ?_
      show Alls _ (l ++ l') (vss ++ uss)
      have app : ∀ {R : α → List Value → Prop} {l1 l2 : List α} {m1 m2 : List (List Value)}, Alls R l1 m1 → Alls R l2 m2 → Alls R (l1 ++ l2) (m1 ++ m2) := by
        intro R l1
        induction l1 with
        | nil => intro l2 m1 m2 h1 h2; cases m1 with | nil => exact h2 | cons => exact h1.elim
        | cons x l1 ih => intro l2 m1 m2 h1 h2; cases m1 with | nil => exact h1.elim | cons y m1 => exact ⟨h1.1, ih h1.2 h2⟩
      exact app e1 e2
end

set_option maxHeartbeats 1000000 in
set_option maxRecDepth 100000 in
theorem MinimalDisequalities_c {l r : List Sb} {v : Value} {M : Nat → Prop} {w : World} (hr : minimalV l = some r) (hM : ∀ b, M b → b < w.heap.size) (h : LSs.rd M w l [v]) (hs : ∀ s ∈ l, SubOk s) :
    Calls Tryz.prog 123 #[v] w (Ret fun v w' => P1 LSs M r v w' ∧ Mod [] w w') := by
  obtain ⟨a, c, rfl⟩ := rdSl_val h
  unfold minimalV at hr
  cases hl2 : Nat.ble l.length 2 with
  | false => rw [hl2] at hr; cases hr
  | true =>
  rw [hl2] at hr
  simp only [cond_true] at hr
  have hl2 := Nat.le_of_ble_eq_true hl2
  refine enter1 Tryz.func123 rfl Tryz.ntmps123 rfl (by simp) ?_
  have H := (Holds.start w []).arg (L := LSs) h
  (repeat (first | refine qq ?_ | (refine qds H ?_; intro H) | (refine qrb H ?_; intro _ w H) | (refine qrs H ?_; intro w H) | (refine qdr H ?_; intro H)))
  refine W_loop (fun m f w' => ∃ k g, m = l.length - k ∧ k ≤ l.length ∧ f = sl g [(12, .slice a l.length c), (0, .slice a l.length c), (13, .int .i64 l.length), (14, .int .i64 k)] ∧ Holds _ [] [] [LSs.dat M l [.slice a l.length c]] w') l.length
    ⟨0, _, rfl, Nat.zero_le _, sl_back ⟨rfl, rfl, rfl, rfl, trivial⟩, H⟩ ?_
  clear H
  rintro m f w ⟨k, g, rfl, hk, rfl, H⟩
  by_cases hlt : k < l.length
  · obtain ⟨e, he⟩ : ∃ e, l[k]? = some e := ⟨_, List.getElem?_eq_getElem hlt⟩
    obtain ⟨b, o, vs, rfl, _, _, hre, H⟩ := H.elem (L := LSb) (M := M) (l := l) (a := a) (n := l.length) (c := c) (by simp) k he
    obtain ⟨a1, c1, rfl⟩ := LSl_one hre
    (repeat (first | refine qq ?_ | (refine qds H ?_; intro H) | (refine qrb H ?_; intro _ w H) | (refine qrs H ?_; intro w H) | (refine qdr H ?_; intro H)))
    refine qa1 (hc := SubstOk_c (H.dat (d := LSb.dat M e [.slice a1 e.length c1]) (by simp)) (hs e (List.mem_of_getElem? he)) (H.wr_lt hM)) (k := ?_)
    rintro _ w ⟨rfl, hm⟩
    have H := H.call hm
    (repeat (first | refine qq ?_ | (refine qds H ?_; intro H) | (refine qrb H ?_; intro _ w H) | (refine qrs H ?_; intro w H) | (refine qdr H ?_; intro H)))
    exact ⟨l.length - (k + 1), by omega, k + 1, _, rfl, by omega, sl_back ⟨rfl, rfl, rfl, rfl, trivial⟩, H.sub (.refl _) (by simp)⟩
  · skip
    (repeat (first | refine qq ?_ | (refine qds H ?_; intro H) | (refine qrb H ?_; intro _ w H) | (refine qrs H ?_; intro w H) | (refine qdr H ?_; intro H)))
    refine WO_s rfl (S_bslice0 H ?_); intro b0 w H
    have H := (H.toRow 0 1 rfl).dnil (L := LSb) (M := M)
    (repeat (first | refine qq ?_ | (refine qds H ?_; intro H) | (refine qrb H ?_; intro _ w H) | (refine qrs H ?_; intro w H) | (refine qdr H ?_; intro H)))
    refine WO_s rfl (S_appendD (L := LSb) (M := M) (l := []) (l' := l) (vss := []) (a := a) (n := l.length) (c := c) H 0 _ _ rfl (by simp) (by simp) (by exact rfl) (by exact rfl) rfl Nat.one_pos rfl (by simp only [List.length_nil]; omega) ?_)
    intro v1 vss w H
    rw [List.nil_append] at H
    obtain ⟨a3, c3, hv1⟩ := H.rowVal 0 rfl
    rw [← (H.dat (d := dall LSb M l vss) (by simp)).get.1] at hv1
    subst hv1
    refine qrb H ?_; intro b5 w H
    (repeat (first | refine qq ?_ | (refine qds H ?_; intro H) | (refine qrb H ?_; intro _ w H) | (refine qrs H ?_; intro w H) | (refine qdr H ?_; intro H)))
    have H := H.frz (xs := [.slice a3 l.length c3]) hM 0 rfl (by simp)
    (repeat (first | refine qq ?_ | (refine qds H ?_; intro H) | (refine qrb H ?_; intro _ w H) | (refine qrs H ?_; intro w H) | (refine qdr H ?_; intro H)))
    refine WO_rd rfl (X_iface _ (by exact rfl)) ?_
    (repeat (first | refine qq ?_ | (refine qds H ?_; intro H) | (refine qrb H ?_; intro _ w H) | (refine qrs H ?_; intro w H) | (refine qdr H ?_; intro H)))
    refine qa2 (hc := sortSt_c (M := M) (vss := vss) (v := .slice a3 l.length c3) (b5 := b5) H 0 rfl (l := l) (by simp) (by simp) hl2 (fun s hs' => ⟨(hs s hs').fits, by have := (hs s hs').len; omega⟩)) (k := ?_)
    rintro _ w ⟨vss2, H⟩
    have hs : ∀ s ∈ sort2 l, SubOk s := fun s hs' => hs s (sort2_mem.1 hs')
    have hll : (sort2 l).length = l.length := sort2_len
    generalize sort2 l = l2 at hr hs hll H
    have H := Holds.freeze (A1 := []) (A2 := []) (M := M) (L := LSb) (l := l2) H hM (H.dat (by simp)) (by simp)
    (repeat (first | refine qq ?_ | (refine qds H ?_; intro H) | (refine qrb H ?_; intro _ w H) | (refine qrs H ?_; intro w H) | (refine qdr H ?_; intro H)))
    refine WO_s rfl (S_bslice0 H ?_); intro b6 w H
    have H := (H.toRow 0 1 rfl).dnil (L := LSb) (M := M)
    (repeat (first | refine qq ?_ | (refine qds H ?_; intro H) | (refine qrb H ?_; intro _ w H) | (refine qrs H ?_; intro w H) | (refine qdr H ?_; intro H)))
    refine W_loop (fun m f w' => ∃ k g v6 vss done r', m = l.length - k ∧ k ≤ l.length ∧ done.length ≤ k ∧ f = sl g [(30, .slice a3 l.length c3), (31, .int .i64 l.length), (32, .int .i64 k), (6, v6), (5, .pointer (some ⟨b5, 0, none⟩))] ∧
      minLoop l2 (bif Nat.beq k 0 then none else l2[k - 1]?) (l2.drop k) = some r' ∧ r = done ++ r' ∧ Holds _ [] [orow 43 1 v6 vss] [dall LSb M done vss, LSs.dat M l2 [.slice a3 l.length c3], dcells b5 0 [.slice a3 l.length c3]] w') l.length
      ⟨0, _, _, [], [], r, rfl, Nat.zero_le _, Nat.le_refl _, sl_back ⟨rfl, rfl, rfl, rfl, rfl, trivial⟩, hr, rfl, H.sub (.refl _) (by simp)⟩ ?_
    clear H hr
    rintro m f w ⟨k, g, v6, vss, done, r', rfl, hk, hdk, rfl, hr, hdone, H⟩
    by_cases hlt : k < l.length
    · obtain ⟨e, he⟩ : ∃ e, l2[k]? = some e := ⟨_, List.getElem?_eq_getElem (by omega)⟩
      have hse := hs e (List.mem_of_getElem? he)
      have hlene := hse.len
      have hvss := (H.dat (d := dall LSb M done vss) (by simp)).get.1
      have hpv : (bif Nat.beq (k + 1) 0 then none else l2[k + 1 - 1]?) = some e := he
      rw [drop_at he] at hr
      obtain ⟨b, o, vs, rfl, _, _, hre, H⟩ := H.elem (L := LSb) (M := M) (l := l2) (a := a3) (n := l.length) (c := c3) (by simp) k he
      obtain ⟨a1, c1, rfl⟩ := LSl_one hre
      rcases Nat.eq_zero_or_pos k with hk0 | hk0
      case' inl =>
        have hr2 : (match keepV e l2 with
            | none => none
            | some k' => match minLoop l2 (some e) (l2.drop (k + 1)) with
              | none => none
              | some l => some (bif k' then e :: l else l)) = some r' := by rw [← hr, hk0]; rfl
        (repeat (first | refine qq ?_ | (refine qds H ?_; intro H) | (refine qrb H ?_; intro _ w H) | (refine qrs H ?_; intro w H) | (refine qdr H ?_; intro H)))
      case' inr =>
        obtain ⟨p, hp⟩ : ∃ p, l2[k - 1]? = some p := ⟨_, List.getElem?_eq_getElem (by omega)⟩
        have hpk : (bif Nat.beq k 0 then none else l2[k - 1]?) = some p := by rw [beq_if, if_neg (by omega)]; exact hp
        rw [hpk] at hr
        simp only [minLoop, dupV] at hr
        have hsp := hs p (List.mem_of_getElem? hp)
        have hlenp := hsp.len
        obtain ⟨b', o', vs, hbo, _, _, hrp, H⟩ := H.elem (L := LSb) (M := M) (l := l2) (a := some ⟨b, o, none⟩) (n := l.length) (c := c3) (by simp) (k - 1) hp
        cases hbo
        obtain ⟨a4, c4, rfl⟩ := LSl_one hrp
        (repeat (first | refine qq ?_ | (refine qds H ?_; intro H) | (refine qrb H ?_; intro _ w H) | (refine qrs H ?_; intro w H) | (refine qdr H ?_; intro H)))
        refine WO_g rfl rfl (by exact rfl) (S_read (X_indexAddr _ _ (k - 1) (by exact rfl) (by exact congrArg (Value.int .i64) (show ((k : Int) - 1) = ((k - 1 : Nat) : Int) by omega)) (by omega)) ?_)
        (repeat (first | refine qq ?_ | (refine qds H ?_; intro H) | (refine qrb H ?_; intro _ w H) | (refine qrs H ?_; intro w H) | (refine qdr H ?_; intro H)))
        refine WO_g rfl rfl (by exact rfl) (S_call2 _ _ (by exact rfl) (by exact rfl) (by exact rfl) (orderBindings_c (H.dat (d := LSb.dat M p [.slice a4 p.length c4]) (by simp)) (H.dat (d := LSb.dat M e [.slice a1 e.length c1]) (by simp)) hsp.fits hse.fits (by omega)) ?_)
        rintro _ w ⟨rfl, hm⟩
        have H := H.call hm
        by_cases hcmp : cmpSb p e = 0
      case' pos =>
        rw [decide_eq_true hcmp] at hr
        (repeat (first | refine qq ?_ | (refine qds H ?_; intro H) | (refine qrb H ?_; intro _ w H) | (refine qrs H ?_; intro w H) | (refine qdr H ?_; intro H)))
        exact ⟨l.length - (k + 1), by omega, k + 1, _, v6, vss, done, r', rfl, by omega, by omega, sl_back ⟨rfl, rfl, rfl, rfl, rfl, trivial⟩, by rw [hpv]; exact hr, hdone, H.sub (.refl _) (by simp)⟩
      case' neg =>
        rw [decide_eq_false hcmp] at hr
        have hr2 : (match keepV e l2 with
            | none => none
            | some k' => match minLoop l2 (some e) (l2.drop (k + 1)) with
              | none => none
              | some l => some (bif k' then e :: l else l)) = some r' := hr
        (repeat (first | refine qq ?_ | (refine qds H ?_; intro H) | (refine qrb H ?_; intro _ w H) | (refine qrs H ?_; intro w H) | (refine qdr H ?_; intro H)))
      all_goals
        cases hkv : keepV e l2 with
        | none => rw [hkv] at hr2; cases hr2
        | some kk =>
        rw [hkv] at hr2
        simp only [] at hr2
        cases hml : minLoop l2 (some e) (l2.drop (k + 1)) with
        | none => rw [hml] at hr2; cases hr2
        | some r2 =>
        rw [hml] at hr2
        simp only [Option.some.injEq] at hr2
        refine W_loop (fun m f w' => ∃ j gg kp kk', m = l.length - j ∧ j ≤ l.length ∧ f = sl gg [(49, .slice (some ⟨b, o, none⟩) l.length c3), (50, .int .i64 l.length), (51, .int .i64 j), (8, .slice a1 e.length c1), (9, .bool kp), (30, .slice (some ⟨b, o, none⟩) l.length c3), (31, .int .i64 l.length), (32, .int .i64 k), (6, v6), (5, .pointer (some ⟨b5, 0, none⟩))] ∧
          keepV e (l2.drop j) = some kk' ∧ kk = (kp && kk') ∧ Holds _ [] [orow 43 1 v6 vss] [LSb.dat M e [.slice a1 e.length c1], dall LSb M done vss, LSs.dat M l2 [.slice (some ⟨b, o, none⟩) l.length c3], dcells b5 0 [.slice (some ⟨b, o, none⟩) l.length c3]] w') l.length
          ⟨0, _, true, kk, rfl, Nat.zero_le _, sl_back ⟨rfl, rfl, rfl, rfl, rfl, rfl, rfl, rfl, rfl, rfl, trivial⟩, hkv, rfl, H.sub (.refl _) (by simp)⟩ ?_
        clear H hkv hr
        rintro m f w ⟨j, gg, kp, kk', rfl, hj, rfl, hkv, hkk, H⟩
        by_cases hjl : j < l.length
        · obtain ⟨d, hd⟩ : ∃ d, l2[j]? = some d := ⟨_, List.getElem?_eq_getElem (by omega)⟩
          have hsd := hs d (List.mem_of_getElem? hd)
          have hlend := hsd.len
          rw [drop_at hd] at hkv
          simp only [keepV] at hkv
          obtain ⟨b9, o9, vs9, hbo9, _, _, hrd, H⟩ := H.elem (L := LSb) (M := M) (l := l2) (a := some ⟨b, o, none⟩) (n := l.length) (c := c3) (by simp) j hd
          cases hbo9
          obtain ⟨a9, c9, rfl⟩ := LSl_one hrd
          (repeat (first | refine qq ?_ | (refine qds H ?_; intro H) | (refine qrb H ?_; intro _ w H) | (refine qrs H ?_; intro w H) | (refine qdr H ?_; intro H)))
          refine qa2 (hc := orderBindings_c (H.dat (d := LSb.dat M d [.slice a9 d.length c9]) (by simp)) (H.dat (d := LSb.dat M e [.slice a1 e.length c1]) (by simp)) hsd.fits hse.fits (by omega)) (k := ?_)
          rintro _ w ⟨rfl, hm⟩
          have H := H.call hm
          by_cases hde : cmpSb d e = 0
          · rw [if_pos hde] at hkv
            (repeat (first | refine qq ?_ | (refine qds H ?_; intro H) | (refine qrb H ?_; intro _ w H) | (refine qrs H ?_; intro w H) | (refine qdr H ?_; intro H)))
            exact ⟨l.length - (j + 1), by omega, j + 1, _, kp, kk', rfl, by omega, sl_back ⟨rfl, rfl, rfl, rfl, rfl, rfl, rfl, rfl, rfl, rfl, trivial⟩, hkv, hkk, H.sub (.refl _) (by simp)⟩
          · rw [if_neg hde] at hkv
            cases hmg : moreGenV e d with
            | none => rw [hmg] at hkv; cases hkv
            | some bb =>
            rw [hmg] at hkv
            simp only [] at hkv
            cases hkv2 : keepV e (l2.drop (j + 1)) with
            | none => rw [hkv2] at hkv; cases hkv
            | some kk2 =>
            rw [hkv2] at hkv
            simp only [Option.some.injEq] at hkv
            subst hkv
            (repeat (first | refine qq ?_ | (refine qds H ?_; intro H) | (refine qrb H ?_; intro _ w H) | (refine qrs H ?_; intro w H) | (refine qdr H ?_; intro H)))
            refine WO_g rfl rfl (by exact rfl) (S_call2 _ _ (by exact rfl) (by exact rfl) (by exact rfl) (moreGeneral_c (M := H.wr M) hmg (H.wr_lt hM) (H.dat (d := LSb.dat M d [.slice a9 d.length c9]) (by simp)) (H.dat (d := LSb.dat M e [.slice a1 e.length c1]) (by simp)) hsd.val hse.val) ?_)
            rintro _ w ⟨rfl, hm⟩
            have H := H.call hm
            cases bb with
            | true =>
              (repeat (first | refine qq ?_ | (refine qds H ?_; intro H) | (refine qrb H ?_; intro _ w H) | (refine qrs H ?_; intro w H) | (refine qdr H ?_; intro H)))
              exact ⟨l.length - (j + 1), by omega, j + 1, _, false, kk2, rfl, by omega, sl_back ⟨rfl, rfl, rfl, rfl, rfl, rfl, rfl, rfl, rfl, rfl, trivial⟩, hkv2, by simpa using hkk, H.sub (.refl _) (by simp)⟩
            | false =>
              (repeat (first | refine qq ?_ | (refine qds H ?_; intro H) | (refine qrb H ?_; intro _ w H) | (refine qrs H ?_; intro w H) | (refine qdr H ?_; intro H)))
              exact ⟨l.length - (j + 1), by omega, j + 1, _, kp, kk2, rfl, by omega, sl_back ⟨rfl, rfl, rfl, rfl, rfl, rfl, rfl, rfl, rfl, rfl, trivial⟩, hkv2, by simpa using hkk, H.sub (.refl _) (by simp)⟩
        · rw [List.drop_eq_nil_of_le (by omega)] at hkv
          cases hkv
          rw [Bool.and_true] at hkk
          subst hkk
          cases kk with
          | false =>
            simp only [cond_false] at hr2
            subst hr2
            (repeat (first | refine qq ?_ | (refine qds H ?_; intro H) | (refine qrb H ?_; intro _ w H) | (refine qrs H ?_; intro w H) | (refine qdr H ?_; intro H)))
            exact ⟨l.length - (k + 1), by omega, k + 1, _, v6, vss, done, r2, rfl, by omega, by omega, sl_back ⟨rfl, rfl, rfl, rfl, rfl, trivial⟩, by rw [hpv]; exact hml, hdone, H.sub (.refl _) (by simp)⟩
          | true =>
            simp only [cond_true] at hr2
            subst hr2
            (repeat (first | refine qq ?_ | (refine qds H ?_; intro H) | (refine qrb H ?_; intro _ w H) | (refine qrs H ?_; intro w H) | (refine qdr H ?_; intro H)))
            refine qa1 (hc := copyBindings_c (s := e) (M := H.wr M) (H.wr_lt hM) (H.dat (d := LSb.dat M e [.slice a1 e.length c1]) (by simp)) (by omega)) (k := ?_)
            rintro u w ⟨hu, hm⟩
            obtain ⟨a8, c8, rfl⟩ := rdSl_val hu
            have H := (H.call hm).add (d := LSb.dat M e [.slice a8 e.length c8]) hu
            (repeat (first | refine qq ?_ | (refine qds H ?_; intro H) | (refine qrb H ?_; intro _ w H) | (refine qrs H ?_; intro w H) | (refine qdr H ?_; intro H)))
            refine WO_s rfl (S_bslice1s H _ (v := .slice a8 e.length c8) (by exact rfl) (by exact rfl) (by exact rfl) ?_); intro b8 w H
            refine WO_s rfl (S_append H 1 _ _ (vs := [.slice a8 e.length c8]) (by exact rfl) (by exact rfl) (by exact rfl) (H.bcells 0 1 rfl rfl) rfl (by simp [Value.oneCell']) Nat.one_pos (by exact rfl) ?_ ?_)
            · omega
            intro v6' w H
            (repeat (first | refine qq ?_ | (refine qds H ?_; intro H) | (refine qrb H ?_; intro _ w H) | (refine qrs H ?_; intro w H) | (refine qdr H ?_; intro H)))
            refine ⟨l.length - (k + 1), by omega, k + 1, _, v6', vss ++ [[.slice a8 e.length c8]], done ++ [e], r2, rfl, by omega, by simp; omega, sl_back ⟨rfl, rfl, rfl, rfl, rfl, trivial⟩, by rw [hpv]; exact hml, by rw [hdone]; simp, ?_⟩
            exact (H.snoc (L := LSb) (M := M) (l := done) (vss := vss) (x := e) (by simp) (H.dat (d := LSb.dat M e [.slice a8 e.length c8]) (by simp))).sub (.cons _ (.refl _)) (by simp)
    · rw [List.drop_eq_nil_of_le (by omega)] at hr
      cases hr
      rw [List.append_nil] at hdone
      subst hdone
      (repeat (first | refine qq ?_ | (refine qds H ?_; intro H) | (refine qrb H ?_; intro _ w H) | (refine qrs H ?_; intro w H) | (refine qdr H ?_; intro H)))
      have H := Holds.freeze (A1 := []) (A2 := []) (M := M) (L := LSb) (l := r) H hM (H.dat (by simp)) (by simp)
      exact ⟨H.out 0 rfl, H.mod⟩
end Go.Proofs.YtljpfnjpifhdlaaGreatDoor
namespace Go.Proofs.YtljpfnjpifhdlaaGreatDoor
open Go
structure Sta where
  next : Nat
  bind : Sb
  dis : List Sb
def LSt : Lay Sta where
  sz := 5
  rd M w st vs := ∃ v1 v2 a3 c3 a4 c4, vs = [.int .i64 (st.next : Nat), v1, v2, .slice a3 0 c3, .slice a4 0 c4] ∧ LSb.rd M w st.bind [v1] ∧ LSs.rd M w st.dis [v2]
  len := by rintro M w st vs ⟨v1, v2, a3, c3, a4, c4, rfl, _⟩; rfl
  one := by
    rintro M w st vs ⟨v1, v2, a3, c3, a4, c4, rfl, h1, h2⟩ u hu
    simp only [List.mem_cons, List.not_mem_nil, or_false] at hu
    rcases hu with rfl | rfl | rfl | rfl | rfl
    · rfl
    · exact LSb.one _ _ _ _ h1 _ (by simp)
    · exact LSs.one _ _ _ _ h2 _ (by simp)
    · rfl
    · rfl
  keep := by rintro M w w' st vs h ⟨v1, v2, a3, c3, a4, c4, rfl, h1, h2⟩; exact ⟨v1, v2, a3, c3, a4, c4, rfl, LSb.keep _ _ _ _ _ h h1, LSs.keep _ _ _ _ _ h h2⟩
  grow := by rintro M M' w st vs h ⟨v1, v2, a3, c3, a4, c4, rfl, h1, h2⟩; exact ⟨v1, v2, a3, c3, a4, c4, rfl, LSb.grow _ _ _ _ _ h h1, LSs.grow _ _ _ _ _ h h2⟩
theorem LSt_five {M : Nat → Prop} {w : World} {st : Sta} {vs : List Value} (h : LSt.rd M w st vs) : ∃ a1 c1 a2 c2 a3 c3 a4 c4, vs = [.int .i64 (st.next : Nat), .slice a1 st.bind.length c1, .slice a2 st.dis.length c2, .slice a3 0 c3, .slice a4 0 c4] ∧
    LSb.rd M w st.bind [.slice a1 st.bind.length c1] ∧ LSs.rd M w st.dis [.slice a2 st.dis.length c2] := by
  obtain ⟨v1, v2, a3, c3, a4, c4, rfl, h1, h2⟩ := h
  obtain ⟨a1, c1, rfl⟩ := rdSl_val h1
  obtain ⟨a2, c2, rfl⟩ := rdSl_val h2
  exact ⟨a1, c1, a2, c2, a3, c3, a4, c4, rfl, h1, h2⟩
theorem LSt_mk {M : Nat → Prop} {w : World} {st : Sta} {v1 v2 : Value} {a3 : Option Addr} {c3 : Nat} {a4 : Option Addr} {c4 : Nat} (h1 : LSb.rd M w st.bind [v1]) (h2 : LSs.rd M w st.dis [v2]) : LSt.rd M w st [.int .i64 (st.next : Nat), v1, v2, .slice a3 0 c3, .slice a4 0 c4] := ⟨v1, v2, a3, c3, a4, c4, rfl, h1, h2⟩
abbrev stZ : List Value := [.int .i64 0, .slice none 0 0, .slice none 0 0, .slice none 0 0, .slice none 0 0]

set_option maxRecDepth 100000 in
theorem KindsOk_c (a : Option Addr) (c : Nat) (w : World) : Calls Tryz.prog 112 #[.slice a 0 c] w (Ret fun v w' => v = .bool true ∧ Mod [] w w') := by
  refine enter1 Tryz.func112 rfl Tryz.ntmps112 rfl (by simp) ?_
  have H := Holds.start w []
  (repeat (first | refine qq ?_ | (refine qds H ?_; intro H) | (refine qrb H ?_; intro _ w H) | (refine qrs H ?_; intro w H) | (refine qdr H ?_; intro H)))
  refine W_loop (fun m f w' => ∃ g, m = 0 ∧ f = sl g [(6, .int .i64 (0 : Nat)), (7, .int .i64 0)] ∧ Holds w [] [] [] w') 0 ⟨_, rfl, sl_back ⟨rfl, rfl, trivial⟩, H⟩ ?_
  clear H
  rintro m f w' ⟨g, rfl, rfl, H⟩
  (repeat (first | refine qq ?_ | (refine qds H ?_; intro H) | (refine qrb H ?_; intro _ w H) | (refine qrs H ?_; intro w H) | (refine qdr H ?_; intro H)))
  exact ⟨rfl, H.mod⟩
set_option maxRecDepth 100000 in
theorem MarksOk_c (a : Option Addr) (c : Nat) (w : World) : Calls Tryz.prog 115 #[.slice a 0 c] w (Ret fun v w' => v = .bool true ∧ Mod [] w w') := by
  refine enter1 Tryz.func115 rfl Tryz.ntmps115 rfl (by simp) ?_
  have H := Holds.start w []
  (repeat (first | refine qq ?_ | (refine qds H ?_; intro H) | (refine qrb H ?_; intro _ w H) | (refine qrs H ?_; intro w H) | (refine qdr H ?_; intro H)))
  refine W_loop (fun m f w' => ∃ g, m = 0 ∧ f = sl g [(6, .int .i64 (0 : Nat)), (7, .int .i64 0)] ∧ Holds w [] [] [] w') 0 ⟨_, rfl, sl_back ⟨rfl, rfl, trivial⟩, H⟩ ?_
  clear H
  rintro m f w' ⟨g, rfl, rfl, H⟩
  (repeat (first | refine qq ?_ | (refine qds H ?_; intro H) | (refine qrb H ?_; intro _ w H) | (refine qrs H ?_; intro w H) | (refine qdr H ?_; intro H)))
  exact ⟨rfl, H.mod⟩
/-- an empty slice and true -/
def NoneR : Value → World → Prop := fun v _ => ∃ a c, v = .tuple #[.slice a 0 c, .bool true]
set_option maxRecDepth 100000 in
theorem RefreshKinds_c {s : Sb} {v : Value} {a : Option Addr} {c : Nat} {M : Nat → Prop} {w : World} (hM : ∀ b, M b → b < w.heap.size) (h : LSb.rd M w s [v]) (hs : SubOk s) :
    Calls Tryz.prog 120 #[v, .slice a 0 c] w (Ret fun v w' => NoneR v w' ∧ Mod [] w w') := by
  obtain ⟨a1, c1, rfl⟩ := rdSl_val h
  refine enter2 Tryz.func120 rfl Tryz.ntmps120 rfl (by simp) ?_
  have H := (Holds.start w []).arg (L := LSb) h
  (repeat (first | refine qq ?_ | (refine qds H ?_; intro H) | (refine qrb H ?_; intro _ w H) | (refine qrs H ?_; intro w H) | (refine qdr H ?_; intro H)))
  refine qa1 (hc := SubstOk_c (H.dat (d := LSb.dat M s [.slice a1 s.length c1]) (by simp)) hs (H.wr_lt hM)) (k := ?_)
  rintro _ w ⟨rfl, hm⟩
  have H := H.call hm
  (repeat (first | refine qq ?_ | (refine qds H ?_; intro H) | (refine qrb H ?_; intro _ w H) | (refine qrs H ?_; intro w H) | (refine qdr H ?_; intro H)))
  refine WO_g rfl rfl (by exact rfl) (S_call1 _ (by exact rfl) (by exact rfl) (KindsOk_c a c _) ?_)
  rintro _ w ⟨rfl, hm⟩
  have H := H.call hm
  (repeat (first | refine qq ?_ | (refine qds H ?_; intro H) | (refine qrb H ?_; intro _ w H) | (refine qrs H ?_; intro w H) | (refine qdr H ?_; intro H)))
  refine WO_s rfl (S_bslice0 H ?_); intro b0 w H
  (repeat (first | refine qq ?_ | (refine qds H ?_; intro H) | (refine qrb H ?_; intro _ w H) | (refine qrs H ?_; intro w H) | (refine qdr H ?_; intro H)))
  refine W_loop (fun m f w' => ∃ g, m = 0 ∧ f = sl g [(21, .int .i64 (0 : Nat)), (22, .int .i64 0), (6, .slice (some ⟨b0, 0, none⟩) 0 0)] ∧ Holds _ [] [] [] w') 0 ⟨_, rfl, sl_back ⟨rfl, rfl, rfl, trivial⟩, H.sub (List.nil_sublist _) (by simp)⟩ ?_
  clear H
  rintro m f w' ⟨g, rfl, rfl, H⟩
  (repeat (first | refine qq ?_ | (refine qds H ?_; intro H) | (refine qrb H ?_; intro _ w H) | (refine qrs H ?_; intro w H) | (refine qdr H ?_; intro H)))
  exact ⟨⟨_, _, rfl⟩, H.mod⟩
set_option maxRecDepth 100000 in
theorem RefreshMarks_c {s : Sb} {v : Value} {a : Option Addr} {c : Nat} {M : Nat → Prop} {w : World} (hM : ∀ b, M b → b < w.heap.size) (h : LSb.rd M w s [v]) (hs : SubOk s) :
    Calls Tryz.prog 121 #[v, .slice a 0 c] w (Ret fun v w' => NoneR v w' ∧ Mod [] w w') := by
  obtain ⟨a1, c1, rfl⟩ := rdSl_val h
  refine enter2 Tryz.func121 rfl Tryz.ntmps121 rfl (by simp) ?_
  have H := (Holds.start w []).arg (L := LSb) h
  (repeat (first | refine qq ?_ | (refine qds H ?_; intro H) | (refine qrb H ?_; intro _ w H) | (refine qrs H ?_; intro w H) | (refine qdr H ?_; intro H)))
  refine qa1 (hc := SubstOk_c (H.dat (d := LSb.dat M s [.slice a1 s.length c1]) (by simp)) hs (H.wr_lt hM)) (k := ?_)
  rintro _ w ⟨rfl, hm⟩
  have H := H.call hm
  (repeat (first | refine qq ?_ | (refine qds H ?_; intro H) | (refine qrb H ?_; intro _ w H) | (refine qrs H ?_; intro w H) | (refine qdr H ?_; intro H)))
  refine WO_g rfl rfl (by exact rfl) (S_call1 _ (by exact rfl) (by exact rfl) (MarksOk_c a c _) ?_)
  rintro _ w ⟨rfl, hm⟩
  have H := H.call hm
  (repeat (first | refine qq ?_ | (refine qds H ?_; intro H) | (refine qrb H ?_; intro _ w H) | (refine qrs H ?_; intro w H) | (refine qdr H ?_; intro H)))
  refine WO_s rfl (S_bslice0 H ?_); intro b0 w H
  (repeat (first | refine qq ?_ | (refine qds H ?_; intro H) | (refine qrb H ?_; intro _ w H) | (refine qrs H ?_; intro w H) | (refine qdr H ?_; intro H)))
  refine W_loop (fun m f w' => ∃ g, m = 0 ∧ f = sl g [(21, .int .i64 (0 : Nat)), (22, .int .i64 0), (6, .slice (some ⟨b0, 0, none⟩) 0 0)] ∧ Holds _ [] [] [] w') 0 ⟨_, rfl, sl_back ⟨rfl, rfl, rfl, trivial⟩, H.sub (List.nil_sublist _) (by simp)⟩ ?_
  clear H
  rintro m f w' ⟨g, rfl, rfl, H⟩
  (repeat (first | refine qq ?_ | (refine qds H ?_; intro H) | (refine qrb H ?_; intro _ w H) | (refine qrs H ?_; intro w H) | (refine qdr H ?_; intro H)))
  exact ⟨⟨_, _, rfl⟩, H.mod⟩
set_option maxRecDepth 100000 in
theorem NewState_c (n : Nat) (hn : n ≤ 100000) (M : Nat → Prop) (w : World) : Calls Tryz.prog 51 #[.int .i64 n] w (Ret fun v w' => PN LSt M ⟨n, [], []⟩ v w' ∧ Mod [] w w') := by
  refine enterC Tryz.func51 rfl Tryz.ntmps51 rfl (by simp) ?_
  have H := Holds.start w []
  (repeat (first | refine qq ?_ | (refine qds H ?_; intro H) | (refine qrb H ?_; intro _ w H) | (refine qrs H ?_; intro w H) | (refine qdr H ?_; intro H)))
  refine WO_rd rfl (X_build (by exact rfl) [(0, [.int .i64 n])] (by exact rfl) (xs := [.int .i64 n, .slice none 0 0, .slice none 0 0, .slice none 0 0, .slice none 0 0]) (by exact rfl)) ?_
  (repeat (first | refine qq ?_ | (refine qds H ?_; intro H) | (refine qrb H ?_; intro _ w H) | (refine qrs H ?_; intro w H) | (refine qdr H ?_; intro H)))
  exact ⟨_, _, _, rfl, H.bcells 0 5 rfl rfl, rfl, ⟨_, rfl, LSt_mk ⟨_, _, _, rfl, RdSl.nil _ _⟩ ⟨_, _, _, rfl, RdSl.nil _ _⟩⟩, H.mod⟩
end Go.Proofs.YtljpfnjpifhdlaaGreatDoor
namespace Go.Proofs.YtljpfnjpifhdlaaGreatDoor
open Go
def settleD (bind : Sb) : List Sb → Option (Option (List Sb))
  | [] => some (some [])
  | d :: ds => match solutionV bind (eqs d) with
    | none => none
    | some none => settleD bind ds
    | some (some x) => bif substOk x then (match newB bind x with
      | [] => some none
      | n :: m => match settleD bind ds with
        | none => none
        | some none => some none
        | some (some l) => some (some ((n :: m) :: l))) else none
def settleM (st : Sta) : Option (List Sb) → Option (Option Sta)
  | none => some none
  | some left => match minimalV left with
    | none => none
    | some least => bif Nat.ble least.length 30 then some (some ⟨st.next, st.bind, least⟩) else none
def settleV (st : Sta) : Option (Option Sta) := match settleD st.bind st.dis with
  | none => none
  | some x => settleM st x
structure StaOk (st : Sta) : Prop where
  bind : SubOk st.bind
  dis : ∀ d ∈ st.dis, SubOk d
  len : st.dis.length ≤ 100000
theorem getS_isSome {s : Sb} {n : Nat} : (∃ t, getS s n = some t) ↔ ∃ x ∈ s, x.1 = n := by
  constructor
  · rintro ⟨t, h⟩; exact ⟨_, getS_mem h, rfl⟩
  · rintro ⟨x, hx, rfl⟩
    cases hg : getS s x.1 with
    | some t => exact ⟨t, rfl⟩
    | none =>
      have : ∀ {s : Sb} {n : Nat}, getS s n = none → ∀ x ∈ s, x.1 ≠ n := by
        intro s
        induction s with
        | nil => intro n _ x hx; cases hx
        | cons y s ih =>
          intro n h x hx
          obtain ⟨u, t⟩ := y
          unfold getS at h
          rw [beq_if] at h
          by_cases hu : u = n
          · rw [if_pos hu] at h; cases h
          · rw [if_neg hu] at h
            rcases List.mem_cons.1 hx with rfl | hx
            · exact hu
            · exact ih h x hx
      exact absurd rfl (this hg x hx)
theorem freeOf_sub {s s' : Sb} (hs : s'.Sublist s) : ∀ {t : T}, freeOf s t = true → freeOf s' t = true
  | .var n, h => by
    simp only [freeOf] at h ⊢
    cases hg : getS s' n with
    | none => rfl
    | some t =>
      obtain ⟨x, hx, hn⟩ := getS_isSome.1 ⟨t, hg⟩
      obtain ⟨t', ht'⟩ := getS_isSome.2 ⟨x, hs.subset hx, hn⟩
      rw [ht'] at h; cases h
  | .pair a b, h => by
    simp only [freeOf, Bool.and_eq_true] at h ⊢
    exact ⟨freeOf_sub hs h.1, freeOf_sub hs h.2⟩
  | .nil, _ => rfl
  | .sym _, _ => rfl
  | .num _, _ => rfl
theorem SubOk.sub {s s' : Sb} (h : SubOk s) (hs : s'.Sublist s) : SubOk s' :=
  ⟨Nat.le_trans hs.length_le h.len, h.asc.sublist hs, fun x hx => h.ok x (hs.subset hx), fun x hx => ⟨freeOf_sub hs (h.free x (hs.subset hx)).1, (h.free x (hs.subset hx)).2⟩⟩
theorem minLoop_mem {s : List Sb} : ∀ {l r : List Sb} {p : Option Sb}, minLoop s p l = some r → ∀ x ∈ r, x ∈ l
  | [], r, p, h, x, hx => by cases h; cases hx
  | e :: l, r, p, h, x, hx => by
    simp only [minLoop] at h
    cases hd : dupV e p with
    | true => rw [hd] at h; exact List.mem_cons.2 (.inr (minLoop_mem h x hx))
    | false =>
      rw [hd] at h
      simp only [cond_false] at h
      cases hk : keepV e s with
      | none => rw [hk] at h; cases h
      | some k =>
        rw [hk] at h
        simp only [] at h
        cases hm : minLoop s (some e) l with
        | none => rw [hm] at h; cases h
        | some l' =>
          rw [hm] at h
          cases h
          cases k with
          | true =>
            rcases List.mem_cons.1 hx with rfl | hx
            · simp
            · exact List.mem_cons.2 (.inr (minLoop_mem hm x hx))
          | false => exact List.mem_cons.2 (.inr (minLoop_mem hm x hx))
theorem minimalV_mem {l r : List Sb} (h : minimalV l = some r) : ∀ x ∈ r, x ∈ l := fun x hx => by
  unfold minimalV at h
  cases hb : Nat.ble l.length 2 with
  | false => rw [hb] at h; cases h
  | true => rw [hb] at h; exact sort2_mem.1 (minLoop_mem h x hx)
theorem minLoop_len {s : List Sb} : ∀ {l r : List Sb} {p : Option Sb}, minLoop s p l = some r → r.length ≤ l.length
  | [], r, p, h => by cases h; simp
  | e :: l, r, p, h => by
    simp only [minLoop] at h
    cases hd : dupV e p with
    | true => rw [hd] at h; have := minLoop_len h; simp; omega
    | false =>
      rw [hd] at h
      simp only [cond_false] at h
      cases hk : keepV e s with
      | none => rw [hk] at h; cases h
      | some k =>
        rw [hk] at h
        simp only [] at h
        cases hm : minLoop s (some e) l with
        | none => rw [hm] at h; cases h
        | some l' =>
          rw [hm] at h
          cases h
          have := minLoop_len hm
          cases k <;> simp <;> omega
theorem settleD_ok {bind : Sb} : ∀ {ds : List Sb} {l : List Sb}, settleD bind ds = some (some l) → ∀ d ∈ l, SubOk d
  | [], l, h, d, hd => by cases h; cases hd
  | e :: ds, l, h, d, hd => by
    simp only [settleD] at h
    cases hs : solutionV bind (eqs e) with
    | none => rw [hs] at h; cases h
    | some o =>
      rw [hs] at h
      cases o with
      | none => exact settleD_ok h d hd
      | some x =>
        simp only [] at h
        cases hx : substOk x with
        | false => rw [hx] at h; cases h
        | true =>
          rw [hx] at h
          simp only [cond_true] at h
          cases hn : newB bind x with
          | nil => rw [hn] at h; cases h
          | cons n m =>
            rw [hn] at h
            simp only [] at h
            cases hd2 : settleD bind ds with
            | none => rw [hd2] at h; cases h
            | some o =>
              rw [hd2] at h
              cases o with
              | none => cases h
              | some l' =>
                cases h
                rcases List.mem_cons.1 hd with rfl | hd
                · rw [← hn]; exact (subOk_of hx).sub newB_sub
                · exact settleD_ok hd2 d hd
theorem settleV_ok {st st' : Sta} (h : settleV st = some (some st')) (hst : StaOk st) : StaOk st' := by
  unfold settleV at h
  cases hd : settleD st.bind st.dis with
  | none => rw [hd] at h; cases h
  | some o =>
    rw [hd] at h
    cases o with
    | none => cases h
    | some left =>
      simp only [settleM] at h
      cases hm : minimalV left with
      | none => rw [hm] at h; cases h
      | some least =>
        rw [hm] at h
        simp only [] at h
        cases hb : Nat.ble least.length 30 with
        | false => rw [hb] at h; cases h
        | true =>
          rw [hb] at h
          cases h
          exact ⟨hst.bind, fun d hd' => settleD_ok hd d (minimalV_mem hm d hd'), by have := Nat.le_of_ble_eq_true hb; simp only; omega⟩

/-- a state and whether there is one -/
def StaR (M : Nat → Prop) (o : Option Sta) : Value → World → Prop := fun v w => match o with
  | none => v = .tuple #[.agg stZ.toArray, .bool false]
  | some st => ∃ vs, v = .tuple #[.agg vs.toArray, .bool true] ∧ LSt.rd M w st vs

def mapO (left : List Sb) : Option (List Sb) → Option (List Sb)
  | none => none
  | some l => some (left ++ l)
set_option maxHeartbeats 1000000 in
set_option maxRecDepth 100000 in
theorem settle_c {st : Sta} {o : Option Sta} {vs : List Value} {M : Nat → Prop} {w : World} (ho : settleV st = some o) (hM : ∀ b, M b → b < w.heap.size) (h : LSt.rd M w st vs) (hst : StaOk st) :
    Calls Tryz.prog 84 #[.agg vs.toArray] w (Ret fun v w' => StaR M o v w' ∧ Mod [] w w') := by
  obtain ⟨a1, c1, a2, c2, a3, c3, a4, c4, rfl, h1, h2⟩ := LSt_five h
  have hbl := hst.bind.len
  have hdl := hst.len
  refine enterCT Tryz.func84 rfl Tryz.ntmps84 rfl (by simp) ?_
  have H := ((Holds.start w []).arg (L := LSb) h1).arg (L := LSs) h2
  refine W_rs ?_
  refine qrb H ?_; intro b1 w H
  refine qrb H ?_; intro b2 w H
  (repeat (first | refine qq ?_ | (refine qds H ?_; intro H) | (refine qrb H ?_; intro _ w H) | (refine qrs H ?_; intro w H) | (refine qdr H ?_; intro H)))
  refine qa2 (hc := RefreshKinds_c (M := H.wr M) (H.wr_lt hM) (H.dat (d := LSb.dat M st.bind [.slice a1 st.bind.length c1]) (by simp)) hst.bind) (k := ?_)
  rintro _ w ⟨⟨a5, c5, rfl⟩, hm⟩
  have H := H.call hm
  (repeat (first | refine qq ?_ | (refine qds H ?_; intro H) | (refine qrb H ?_; intro _ w H) | (refine qrs H ?_; intro w H) | (refine qdr H ?_; intro H)))
  refine qa2 (hc := RefreshMarks_c (M := H.wr M) (H.wr_lt hM) (H.dat (d := LSb.dat M st.bind [.slice a1 st.bind.length c1]) (by simp)) hst.bind) (k := ?_)
  rintro _ w ⟨⟨a6, c6, rfl⟩, hm⟩
  have H := H.call hm
  (repeat (first | refine qq ?_ | (refine qds H ?_; intro H) | (refine qrb H ?_; intro _ w H) | (refine qrs H ?_; intro w H) | (refine qdr H ?_; intro H)))
  refine WO_s rfl (S_makeMap H ?_); intro b8 w H
  have H := H.re (A' := [mp b8 noM, box b2 stZ 48, box b1 [.int .i64 (st.next : Nat), .slice a1 st.bind.length c1, .slice a2 st.dis.length c2, .slice a3 0 c3, .slice a4 0 c4] 48]) rfl
  (repeat (first | refine qq ?_ | (refine qds H ?_; intro H) | (refine qrb H ?_; intro _ w H) | (refine qrs H ?_; intro w H) | (refine qdr H ?_; intro H)))
  refine W_loop (fun m f w' => ∃ g, m = 0 ∧ f = sl g [(50, .int .i64 (0 : Nat)), (51, .int .i64 0), (1, .pointer (some ⟨b1, 0, none⟩)), (2, .pointer (some ⟨b2, 0, none⟩)), (4, .slice a5 0 c5), (6, .slice a6 0 c6), (8, .map (some b8))] ∧
    Holds _ [] [mp b8 noM, box b2 stZ 48, box b1 [.int .i64 (st.next : Nat), .slice a1 st.bind.length c1, .slice a2 st.dis.length c2, .slice a3 0 c3, .slice a4 0 c4] 48] [LSb.dat M st.bind [.slice a1 st.bind.length c1], LSs.dat M st.dis [.slice a2 st.dis.length c2]] w') 0
    ⟨_, rfl, sl_back ⟨rfl, rfl, rfl, rfl, rfl, rfl, rfl, trivial⟩, H.sub (.refl _) (by simp)⟩ ?_
  clear H
  rintro m f w ⟨g, rfl, rfl, H⟩
  (repeat (first | refine qq ?_ | (refine qds H ?_; intro H) | (refine qrb H ?_; intro _ w H) | (refine qrs H ?_; intro w H) | (refine qdr H ?_; intro H)))
  refine WO_s rfl (S_bslice0 H ?_); intro b11 w H
  (repeat (first | refine qq ?_ | (refine qds H ?_; intro H) | (refine qrb H ?_; intro _ w H) | (refine qrs H ?_; intro w H) | (refine qdr H ?_; intro H)))
  refine W_loop (fun m f w' => ∃ g, m = 0 ∧ f = sl g [(64, .int .i64 (0 : Nat)), (65, .int .i64 0), (1, .pointer (some ⟨b1, 0, none⟩)), (2, .pointer (some ⟨b2, 0, none⟩)), (4, .slice a5 0 c5), (11, .slice (some ⟨b11, 0, none⟩) 0 0)] ∧
    Holds _ [] [box b2 stZ 48, box b1 [.int .i64 (st.next : Nat), .slice a1 st.bind.length c1, .slice a2 st.dis.length c2, .slice a3 0 c3, .slice a4 0 c4] 48] [LSb.dat M st.bind [.slice a1 st.bind.length c1], LSs.dat M st.dis [.slice a2 st.dis.length c2]] w') 0
    ⟨_, rfl, sl_back ⟨rfl, rfl, rfl, rfl, rfl, rfl, trivial⟩, H.sub (.cons _ (.cons _ (.refl _))) (by simp)⟩ ?_
  clear H
  rintro m f w ⟨g, rfl, rfl, H⟩
  (repeat (first | refine qq ?_ | (refine qds H ?_; intro H) | (refine qrb H ?_; intro _ w H) | (refine qrs H ?_; intro w H) | (refine qdr H ?_; intro H)))
  refine WO_s rfl (S_bslice0 H ?_); intro b14 w H
  have H := (H.toRow 0 1 rfl).dnil (L := LSb) (M := M)
  (repeat (first | refine qq ?_ | (refine qds H ?_; intro H) | (refine qrb H ?_; intro _ w H) | (refine qrs H ?_; intro w H) | (refine qdr H ?_; intro H)))
  unfold settleV at ho
  cases hd0 : settleD st.bind st.dis with
  | none => rw [hd0] at ho; cases ho
  | some x0 =>
  rw [hd0] at ho
  simp only [] at ho
  refine W_loop (fun m f w' => ∃ k g v14 vss left x, m = st.dis.length - k ∧ k ≤ st.dis.length ∧ left.length ≤ k ∧ f = sl g [(81, .slice a2 st.dis.length c2), (82, .int .i64 st.dis.length), (83, .int .i64 k), (14, v14), (1, .pointer (some ⟨b1, 0, none⟩)), (2, .pointer (some ⟨b2, 0, none⟩)), (4, .slice a5 0 c5), (11, .slice (some ⟨b11, 0, none⟩) 0 0)] ∧
    settleD st.bind (st.dis.drop k) = some x ∧ settleM st (mapO left x) = some o ∧ (∀ d ∈ left, SubOk d) ∧
    Holds _ [] [orow 43 1 v14 vss, box b2 stZ 48, box b1 [.int .i64 (st.next : Nat), .slice a1 st.bind.length c1, .slice a2 st.dis.length c2, .slice a3 0 c3, .slice a4 0 c4] 48] [dall LSb M left vss, LSb.dat M st.bind [.slice a1 st.bind.length c1], LSs.dat M st.dis [.slice a2 st.dis.length c2]] w') st.dis.length
    ⟨0, _, _, [], [], x0, rfl, Nat.zero_le _, Nat.le_refl _, sl_back ⟨rfl, rfl, rfl, rfl, rfl, rfl, rfl, rfl, trivial⟩, hd0, by cases x0 <;> exact ho, by simp, H.sub (.refl _) (by simp)⟩ ?_
  clear H ho hd0
  rintro m f w ⟨k, g, v14, vss, left, x, rfl, hk, hleft, rfl, hd, ho, hlok, H⟩
  have hvl := (H.dat (d := dall LSb M left vss) (by simp)).get.1
  by_cases hlt : k < st.dis.length
  · obtain ⟨d, hdk⟩ : ∃ d, st.dis[k]? = some d := ⟨_, List.getElem?_eq_getElem hlt⟩
    have hsd := hst.dis d (List.mem_of_getElem? hdk)
    rw [drop_at hdk] at hd
    simp only [settleD] at hd
    obtain ⟨b, o', ws, rfl, _, _, hrd, H⟩ := H.elem (L := LSb) (M := M) (l := st.dis) (a := a2) (n := st.dis.length) (c := c2) (by simp) k hdk
    obtain ⟨a7, c7, rfl⟩ := LSl_one hrd
    cases hsol : solutionV st.bind (eqs d) with
    | none => rw [hsol] at hd; cases hd
    | some os =>
    rw [hsol] at hd
    (repeat (first | refine qq ?_ | (refine qds H ?_; intro H) | (refine qrb H ?_; intro _ w H) | (refine qrs H ?_; intro w H) | (refine qdr H ?_; intro H)))
    refine qa2 (hc := JoinSubst_c (M := H.wr M) hsol (H.wr_lt hM) (H.dat (d := LSb.dat M st.bind [.slice a1 st.bind.length c1]) (by simp)) (H.dat (d := LSb.dat M d [.slice a7 d.length c7]) (by simp)) hst.bind hsd) (k := ?_)
    rintro u w ⟨hu, hm⟩
    have H := H.call hm
    cases os with
    | none =>
      cases hu
      (repeat (first | refine qq ?_ | (refine qds H ?_; intro H) | (refine qrb H ?_; intro _ w H) | (refine qrs H ?_; intro w H) | (refine qdr H ?_; intro H)))
      exact ⟨st.dis.length - (k + 1), by omega, k + 1, _, v14, vss, left, x, rfl, by omega, by omega, sl_back ⟨rfl, rfl, rfl, rfl, rfl, rfl, rfl, rfl, trivial⟩, hd, ho, hlok, H.sub (.refl _) (by simp)⟩
    | some y =>
      simp only [] at hd
      cases hsy : substOk y with
      | false => rw [hsy] at hd; cases hd
      | true =>
      rw [hsy] at hd
      simp only [cond_true] at hd
      have hsy := subOk_of hsy
      obtain ⟨u3, rfl, hry⟩ := hu
      obtain ⟨a9, c9, rfl⟩ := rdSl_val hry
      have H := H.add (d := LSb.dat M y [.slice a9 y.length c9]) hry
      (repeat (first | refine qq ?_ | (refine qds H ?_; intro H) | (refine qrb H ?_; intro _ w H) | (refine qrs H ?_; intro w H) | (refine qdr H ?_; intro H)))
      refine qa2 (hc := RefreshKinds_c (M := H.wr M) (H.wr_lt hM) (H.dat (d := LSb.dat M y [.slice a9 y.length c9]) (by simp)) hsy) (k := ?_)
      rintro _ w ⟨⟨a10, c10, rfl⟩, hm⟩
      have H := H.call hm
      (repeat (first | refine qq ?_ | (refine qds H ?_; intro H) | (refine qrb H ?_; intro _ w H) | (refine qrs H ?_; intro w H) | (refine qdr H ?_; intro H)))
      refine qa2 (hc := RefreshMarks_c (M := H.wr M) (H.wr_lt hM) (H.dat (d := LSb.dat M y [.slice a9 y.length c9]) (by simp)) hsy) (k := ?_)
      rintro _ w ⟨⟨a11, c11, rfl⟩, hm⟩
      have H := H.call hm
      (repeat (first | refine qq ?_ | (refine qds H ?_; intro H) | (refine qrb H ?_; intro _ w H) | (refine qrs H ?_; intro w H) | (refine qdr H ?_; intro H)))
      refine qa2 (hc := NewBindings_c (M := H.wr M) (H.wr_lt hM) (H.dat (d := LSb.dat M st.bind [.slice a1 st.bind.length c1]) (by simp)) (H.dat (d := LSb.dat M y [.slice a9 y.length c9]) (by simp)) hst.bind hsy) (k := ?_)
      rintro u w ⟨hu, hm⟩
      obtain ⟨a12, c12, rfl⟩ := rdSl_val hu
      have H := (H.call hm).add (d := LSb.dat M (newB st.bind y) [.slice a12 (newB st.bind y).length c12]) hu
      cases hnb : newB st.bind y with
      | nil =>
        rw [hnb] at hd
        cases hd
        cases ho
        rw [List.length_nil]
        (repeat (first | refine qq ?_ | (refine qds H ?_; intro H) | (refine qrb H ?_; intro _ w H) | (refine qrs H ?_; intro w H) | (refine qdr H ?_; intro H)))
        refine WO_rd rfl (X_build (by exact rfl) [] (by exact rfl) (xs := stZ) (by exact rfl)) ?_
        (repeat (first | refine qq ?_ | (refine qds H ?_; intro H) | (refine qrb H ?_; intro _ w H) | (refine qrs H ?_; intro w H) | (refine qdr H ?_; intro H)))
        exact ⟨_, _, _, rfl, H.bcells 1 5 rfl rfl, rfl, rfl, H.mod⟩
      | cons n1 m1 =>
        rw [hnb] at hd H
        simp only [] at hd
        have hlen0 : (n1 :: m1).length = m1.length + 1 := rfl
        cases hd2 : settleD st.bind (st.dis.drop (k + 1)) with
        | none => rw [hd2] at hd; cases hd
        | some x2 =>
        rw [hd2] at hd
        have hx : x = mapO [n1 :: m1] x2 := by cases x2 <;> (cases hd; rfl)
        (repeat (first | refine qq ?_ | (refine qds H ?_; intro H) | (refine qrb H ?_; intro _ w H) | (refine qrs H ?_; intro w H) | (refine qdr H ?_; intro H)))
        refine WO_s rfl (S_bslice1s H _ (v := .slice a12 (n1 :: m1).length c12) (by exact rfl) (by exact rfl) (by exact rfl) ?_); intro b13 w H
        refine WO_s rfl (S_append H 1 _ _ (vs := [.slice a12 (n1 :: m1).length c12]) (by exact rfl) (by exact rfl) (by exact rfl) (H.bcells 0 1 rfl rfl) rfl (by simp [Value.oneCell']) Nat.one_pos (by exact rfl) ?_ ?_)
        · omega
        intro v14' w H
        (repeat (first | refine qq ?_ | (refine qds H ?_; intro H) | (refine qrb H ?_; intro _ w H) | (refine qrs H ?_; intro w H) | (refine qdr H ?_; intro H)))
        refine ⟨st.dis.length - (k + 1), by omega, k + 1, _, v14', vss ++ [[.slice a12 (n1 :: m1).length c12]], left ++ [n1 :: m1], x2, rfl, by omega, by simp; omega, sl_back ⟨rfl, rfl, rfl, rfl, rfl, rfl, rfl, rfl, trivial⟩, hd2, ?_, ?_, ?_⟩
        · rw [← ho, hx]
          cases x2 with
          | none => rfl
          | some l => simp [mapO]
        · intro d' hd'
          rcases List.mem_append.1 hd' with hd' | hd'
          · exact hlok d' hd'
          · simp only [List.mem_singleton] at hd'
            rw [hd', ← hnb]
            exact hsy.sub newB_sub
        · exact (H.snoc (L := LSb) (M := M) (l := left) (vss := vss) (x := n1 :: m1) (by simp) (H.dat (d := LSb.dat M (n1 :: m1) [.slice a12 (n1 :: m1).length c12]) (by simp))).sub (.cons _ (.refl _)) (by simp)
  · rw [List.drop_eq_nil_of_le (by omega)] at hd
    cases hd
    simp only [mapO, List.append_nil, settleM] at ho
    cases hmin : minimalV left with
    | none => rw [hmin] at ho; cases ho
    | some least =>
    rw [hmin] at ho
    simp only [] at ho
    cases hb30 : Nat.ble least.length 30 with
    | false => rw [hb30] at ho; cases ho
    | true =>
    rw [hb30] at ho
    cases ho
    have hb30 := Nat.le_of_ble_eq_true hb30
    (repeat (first | refine qq ?_ | (refine qds H ?_; intro H) | (refine qrb H ?_; intro _ w H) | (refine qrs H ?_; intro w H) | (refine qdr H ?_; intro H)))
    have H := Holds.freeze (A1 := []) (M := M) (L := LSb) (l := left) H hM (H.dat (by simp)) (by simp)
    refine qa1 (hc := MinimalDisequalities_c (M := H.wr M) hmin (H.wr_lt hM) (H.get 0 rfl) hlok) (k := ?_)
    rintro u w ⟨hu, hm⟩
    obtain ⟨a13, c13, rfl⟩ := rdSl_val hu
    have H := (H.call hm).add (d := LSs.dat M least [.slice a13 least.length c13]) hu
    (repeat (first | refine qq ?_ | (refine qds H ?_; intro H) | (refine qrb H ?_; intro _ w H) | (refine qrs H ?_; intro w H) | (refine qdr H ?_; intro H)))
    obtain ⟨M', hM', _, hof⟩ := H.off hM
    refine WD_any 8 [[], [0], [], [2], [2, 3], [], [], []] [(4, P1 (LSl LB) M' (st.bind))] (by kernel_rfl) ?_ ?_ _ (by exact rfl) ?_
    · exact ⟨P1_stab, trivial⟩
    · refine ⟨?_, ?_, ?_, ?_, ?_, ?_, ?_, ?_, trivial⟩
      iterate 4 (· exact qob)
      · intro w hm
        have H := H.call hm
        refine qwr ?_
        refine qwr ?_
        refine qol ?_
        exact S_call1 _ (by exact rfl) (by exact rfl) (copyBindings_c (s := st.bind) (hM' _ hm.size) (H.dat (d := LSb.dat M st.bind [.slice a1 st.bind.length c1]) (by simp)) (by omega)) fun v w' h => h
      iterate 3 (· exact qob)
    intro w hm
    have H := H.call hm
    iterate 4 refine qwr ?_
    refine qwl ?_; intro v4 h4
    iterate 3 refine qwr ?_
    refine WR_nil ?_
    obtain ⟨a14, c14, rfl⟩ := rdSl_val h4
    have H := H.add (hof h4)
    refine WD_rd (by kernel_rfl) rfl rfl (X_build (by exact rfl) [(0, [.int .i64 (st.next : Nat)]), (1, [.slice a14 st.bind.length c14]), (2, [.slice a13 least.length c13]), (3, [.slice a5 0 c5]), (4, [.slice (some ⟨b11, 0, none⟩) 0 0])] (by exact rfl) (xs := [.int .i64 (st.next : Nat), .slice a14 st.bind.length c14, .slice a13 least.length c13, .slice a5 0 c5, .slice (some ⟨b11, 0, none⟩) 0 0]) (by exact rfl)) ?_
    refine WD_n (by kernel_rfl) (by exact rfl) (S_storeN H 0 _ _ (by exact rfl) (by exact rfl) (by exact rfl) (by exact rfl) (by exact rfl) (by exact rfl) ?_); intro w H
    refine WD_rd (by kernel_rfl) rfl rfl (X_assign _) (WD_end (by decide) ?_)
    (repeat (first | refine qq ?_ | (refine qds H ?_; intro H) | (refine qrb H ?_; intro _ w H) | (refine qrs H ?_; intro w H) | (refine qdr H ?_; intro H)))
    exact ⟨_, _, _, rfl, H.bcells 0 5 rfl rfl, rfl, ⟨_, rfl, LSt_mk (st := ⟨st.next, st.bind, least⟩) (H.out 0 rfl) ((H.out (L := LSs) (M := M) (x := least) 1 rfl))⟩, H.mod⟩
end Go.Proofs.YtljpfnjpifhdlaaGreatDoor
namespace Go.Proofs.YtljpfnjpifhdlaaGreatDoor
open Go
/-- a goal: kind, name, terms, goals -/
inductive G where
  | mk (kind : Nat) (name : ByteArray) (terms : List T) (kids : List G)
def G.kind : G → Nat | .mk k _ _ _ => k
def G.name : G → ByteArray | .mk _ n _ _ => n
def G.terms : G → List T | .mk _ _ t _ => t
def G.kids : G → List G | .mk _ _ _ g => g
mutual
def rdG (M : Nat → Prop) (w : World) : G → List Value → Prop
  | .mk k n ts gs, vs => ∃ v1 a c, vs = [.int .i64 (k : Nat), .string n, v1, .slice a gs.length c] ∧ (LSl LT).rd M w ts [v1] ∧ gs.length ≤ c ∧ (gs.length = 0 ∨ ∃ b o, a = some ⟨b, o, none⟩ ∧ ¬ M b ∧ b < w.heap.size ∧ rdGs M w b o gs)
def rdGs (M : Nat → Prop) (w : World) (b : Nat) : Nat → List G → Prop
  | _, [] => True
  | o, g :: gs => (∃ vs, rdG M w g vs ∧ Cells w b o vs) ∧ rdGs M w b (o + 4) gs
end
mutual
theorem rdG_keep {M : Nat → Prop} {w w' : World} (h : ∀ b, b < w.heap.size → ¬ M b → w'.heap[b]? = w.heap[b]?) : ∀ (g : G) (vs : List Value), rdG M w g vs → rdG M w' g vs
  | .mk k n ts gs, vs, hr => by
    simp only [rdG] at hr ⊢
    obtain ⟨v1, a, c, h1, h2, h3, h4⟩ := hr
    refine ⟨v1, a, c, h1, (LSl LT).keep _ _ _ _ _ h h2, h3, h4.imp id ?_⟩
    rintro ⟨b, o, ha, hM, hb, hg⟩
    exact ⟨b, o, ha, hM, lt_keep h hb hM, rdGs_keep h gs o (h b hb hM) hg⟩
theorem rdGs_keep {M : Nat → Prop} {w w' : World} (h : ∀ b, b < w.heap.size → ¬ M b → w'.heap[b]? = w.heap[b]?) {b : Nat} : ∀ (gs : List G) (o : Nat), w'.heap[b]? = w.heap[b]? → rdGs M w b o gs → rdGs M w' b o gs
  | [], _, _, _ => by simp only [rdGs]
  | g :: gs, o, hb, hr => by
    simp only [rdGs] at hr ⊢
    obtain ⟨⟨vs, h1, h2⟩, h3⟩ := hr
    exact ⟨⟨vs, rdG_keep h g vs h1, h2.keep hb⟩, rdGs_keep h gs (o + 4) hb h3⟩
end
mutual
theorem rdG_grow {M M' : Nat → Prop} {w : World} (h : ∀ b, b < w.heap.size → M' b → M b) : ∀ (g : G) (vs : List Value), rdG M w g vs → rdG M' w g vs
  | .mk k n ts gs, vs, hr => by
    simp only [rdG] at hr ⊢
    obtain ⟨v1, a, c, h1, h2, h3, h4⟩ := hr
    refine ⟨v1, a, c, h1, (LSl LT).grow _ _ _ _ _ h h2, h3, h4.imp id ?_⟩
    rintro ⟨b, o, ha, hM, hb, hg⟩
    exact ⟨b, o, ha, fun hm => hM (h b hb hm), hb, rdGs_grow h gs o hg⟩
theorem rdGs_grow {M M' : Nat → Prop} {w : World} (h : ∀ b, b < w.heap.size → M' b → M b) {b : Nat} : ∀ (gs : List G) (o : Nat), rdGs M w b o gs → rdGs M' w b o gs
  | [], _, _ => by simp only [rdGs]
  | g :: gs, o, hr => by
    simp only [rdGs] at hr ⊢
    obtain ⟨⟨vs, h1, h2⟩, h3⟩ := hr
    exact ⟨⟨vs, rdG_grow h g vs h1, h2⟩, rdGs_grow h gs (o + 4) h3⟩
end
theorem rdG_form {M : Nat → Prop} {w : World} {g : G} {vs : List Value} (h : rdG M w g vs) : ∃ a1 c1 a c, vs = [.int .i64 (g.kind : Nat), .string g.name, .slice a1 g.terms.length c1, .slice a g.kids.length c] ∧ (LSl LT).rd M w g.terms [.slice a1 g.terms.length c1] := by
  obtain ⟨k, n, ts, gs⟩ := g
  simp only [rdG] at h
  obtain ⟨v1, a, c, rfl, h2, _⟩ := h
  obtain ⟨a1, c1, rfl⟩ := rdSl_val h2
  exact ⟨a1, c1, a, c, rfl, h2⟩
def LG : Lay G where
  sz := 4
  rd := rdG
  len := by intro M w g vs h; obtain ⟨_, _, _, _, rfl, _⟩ := rdG_form h; rfl
  one := by
    intro M w g vs h u hu
    obtain ⟨_, _, _, _, rfl, _⟩ := rdG_form h
    simp only [List.mem_cons, List.not_mem_nil, or_false] at hu
    rcases hu with rfl | rfl | rfl | rfl <;> rfl
  keep := fun _ _ _ g vs h => rdG_keep h g vs
  grow := fun _ _ _ g vs h => rdG_grow h g vs
theorem rdGs_iff {M : Nat → Prop} {w : World} {b : Nat} : ∀ {gs : List G} {o : Nat}, rdGs M w b o gs ↔ RdL LG M w b o gs
  | [], _ => by simp only [rdGs, RdL]
  | g :: gs, o => by simp only [rdGs, RdL]; rw [rdGs_iff (gs := gs)]; exact Iff.rfl
theorem rdG_parts {M : Nat → Prop} {w : World} {g : G} {vs : List Value} (h : rdG M w g vs) : ∃ a1 c1 a c, vs = [.int .i64 (g.kind : Nat), .string g.name, .slice a1 g.terms.length c1, .slice a g.kids.length c] ∧
    (LSl LT).rd M w g.terms [.slice a1 g.terms.length c1] ∧ (LSl LG).rd M w g.kids [.slice a g.kids.length c] := by
  obtain ⟨k, n, ts, gs⟩ := g
  simp only [rdG] at h
  obtain ⟨v1, a, c, rfl, h2, h3, h4⟩ := h
  obtain ⟨a1, c1, rfl⟩ := rdSl_val h2
  refine ⟨a1, c1, a, c, rfl, h2, _, _, _, rfl, rfl, h3, ?_⟩
  rcases h4 with h4 | ⟨b, o, ha, hM, hb, hg⟩
  · exact .inl (List.eq_nil_of_length_eq_zero h4)
  · exact .inr ⟨b, o, ha, hM, hb, rdGs_iff.1 hg⟩
theorem rdG_mk {M : Nat → Prop} {w : World} {k : Nat} {n : ByteArray} {ts : List T} {gs : List G} {v1 v2 : Value} (h1 : (LSl LT).rd M w ts [v1]) (h2 : (LSl LG).rd M w gs [v2]) : rdG M w (.mk k n ts gs) [.int .i64 (k : Nat), .string n, v1, v2] := by
  simp only [rdG]
  obtain ⟨a, m, c, h3, h4, h5, h6⟩ := h2
  simp only [List.cons.injEq, and_true] at h3
  subst h3 h4
  refine ⟨v1, a, c, rfl, h1, h5, ?_⟩
  rcases h6 with rfl | ⟨b, o, ha, hM, hb, hg⟩
  · exact .inl rfl
  · exact .inr ⟨b, o, ha, hM, hb, rdGs_iff.2 hg⟩
abbrev goZ : List Value := [.int .i64 0, .string ⟨#[]⟩, .slice none 0 0, .slice none 0 0]
end Go.Proofs.YtljpfnjpifhdlaaGreatDoor
namespace Go.Proofs.YtljpfnjpifhdlaaGreatDoor
open Go
def slA (a : Option Addr) (l c sz : Nat) : Option Addr := if c = l then a else a.map (·.add (l * sz))
def bnd (r : Operand → Value) (o : Option Operand) (dflt v : Nat) : Prop := match o with
  | none => v = dflt
  | some x => ∃ k, r x = .int k (v : Nat)
section
variable {P : Program} {w : World} {r : Operand → Value} {d : Option Tmp} {ty : TypeId} {pos : String} {aft : Array Edge} {g : Option (Nat × Bool)}
theorem runC_sliceBound {k : IntKind} {i y : Nat} {code : BoundsCode} (h : i ≤ y) : runC P w (Instr.sliceBound (.int k (i : Nat)) y code) = some i := by
  unfold Instr.sliceBound
  rw [runC_bind]
  have : runC P w (asIntOf (.int k (i : Nat))) = some (k, ((i : Nat) : Int)) := rfl
  rw [this]
  simp only [Option.bind_some]
  rw [if_pos ⟨by omega, by omega⟩]
  simp [runC_pure]
theorem X_slice {t e : TypeId} {agg : Bool} {sz : Nat} {z : Value} [G : SlF P t e] [F : TyF P e agg sz z] (x : Operand) (lo hi : Option Operand) {a : Option Addr} {n c : Nat} (l h : Nat) (hx : r x = .slice a n c) (hlo : bnd r lo 0 l) (hhi : bnd r hi n h) (h1 : l ≤ h) (h2 : h ≤ c) (h3 : n ≤ c) :
    runC P w (execOp r ⟨d, .slice t x lo hi none, ty, pos, aft, g⟩) = some (.value (.slice (slA a l c sz) (h - l) (c - l))) := by
  show runC P w (Instr.sliceAt t (r x) (lo.map r) (hi.map r) none >>= fun v => pure (Next.value v)) = _
  unfold Instr.sliceAt Instr.slice
  simp only [bind_assoc]
  rw [runC_bind, runC_underlying G.und, hx]
  simp only [Option.bind_some, bind_assoc]
  rw [runC_bind, runC_underlying G.und]
  simp only [Option.bind_some, bind_assoc]
  have hb : runC P w (Instr.sliceBounds true n c (lo.map r) (hi.map r) none) = some (l, h, c) := by
    unfold Instr.sliceBounds
    cases lo with
    | none =>
      have hl : l = 0 := hlo
      subst hl
      cases hi with
      | none =>
        have hh : h = n := hhi
        subst hh
        simp [runC_pure]
      | some y =>
        obtain ⟨k, hy⟩ := hhi
        simp only [Option.map_some, Option.map_none, hy, pure_bind, runC_bind, runC_sliceBound h2, Option.bind_some, runC_pure]
    | some y =>
      obtain ⟨k, hy⟩ := hlo
      cases hi with
      | none =>
        have hh : h = n := hhi
        subst hh
        simp only [Option.map_some, Option.map_none, hy, pure_bind, runC_bind, runC_sliceBound h1, Option.bind_some, runC_pure]
      | some y' =>
        obtain ⟨k', hy'⟩ := hhi
        simp only [Option.map_some, hy, hy', pure_bind, runC_bind, runC_sliceBound h1, runC_sliceBound h2, Option.bind_some, runC_pure]
  rw [runC_bind, hb]
  simp only [Option.bind_some]
  rw [runC_bind, F.size]
  simp only [Option.bind_some, runC_pure, pure_bind]
  unfold slA
  rfl
end
/-- a part of a slice -/
theorem rdSl_part {α : Type} {L : Lay α} {M : Nat → Prop} {w : World} {xs : List α} {a : Option Addr} {n c : Nat} (h : (LSl L).rd M w xs [.slice a n c]) {l m : Nat} (h1 : l ≤ m) (h2 : m ≤ n) : (LSl L).rd M w ((xs.take m).drop l) [.slice (slA a l c L.sz) (m - l) (c - l)] := by
  obtain ⟨a', n', c', he, h3, h4, h5⟩ := h
  simp only [List.cons.injEq, Value.slice.injEq, and_true] at he
  obtain ⟨rfl, rfl, rfl⟩ := he
  refine ⟨_, _, _, rfl, by rw [List.length_drop, List.length_take]; omega, by omega, ?_⟩
  rcases h5 with rfl | ⟨b, o, rfl, hM, hb, hl⟩
  · exact .inl (by simp)
  · by_cases hc : c = l
    · left
      apply List.eq_nil_of_length_eq_zero
      rw [List.length_drop, List.length_take]; omega
    · right
      refine ⟨b, o + l * L.sz, ?_, hM, hb, ?_⟩
      · unfold slA
        rw [if_neg hc]
        simp [Addr.add]
      · exact (hl.take m).drop l

def requireE (st : Sta) : Option (Option Sb) → Option (Option Sta)
  | none => none
  | some none => some none
  | some (some x) => bif substOk x then settleV ⟨st.next, x, st.dis⟩ else none
def requireD (st : Sta) : Option (Option Sb) → Option (Option Sta)
  | none => none
  | some none => settleV st
  | some (some x) => bif substOk x then (bif eqSb st.bind x then some none else settleV ⟨st.next, st.bind, st.dis ++ [newB st.bind x]⟩) else none
def requireV (st : Sta) (g : G) : Option (Option Sta) := match g.terms with
  | [a, b] => bif Nat.beq g.kind 2 then requireE st (solutionV st.bind [(a, b)]) else bif Nat.beq g.kind 3 then (bif Nat.ble st.dis.length 1000 then requireD st (solutionV st.bind [(a, b)]) else none) else none
  | _ => none
theorem beq_of {a b : Nat} (h : Nat.beq a b = true) : a = b := Nat.eq_of_beq_eq_true h
theorem beq_ne {a b : Nat} (h : Nat.beq a b = false) : a ≠ b := fun e => by subst e; simp at h

set_option maxHeartbeats 1000000 in
set_option maxRecDepth 100000 in
theorem requireE_c {st : Sta} {o : Option Sta} {g : G} {a b : T} {vs us : List Value} {M : Nat → Prop} {w : World} (ho : requireE st (solutionV st.bind [(a, b)]) = some o) (hk : g.kind = 2) (ht : g.terms = [a, b]) (hM : ∀ b, M b → b < w.heap.size) (h : LSt.rd M w st vs) (hg : rdG M w g us) (hst : StaOk st) :
    Calls Tryz.prog 55 #[.agg vs.toArray, .agg us.toArray] w (Ret fun v w' => StaR M o v w' ∧ Mod [] w w') := by
  obtain ⟨a1, c1, a2, c2, a3, c3, a4, c4, rfl, h1, h2⟩ := LSt_five h
  obtain ⟨a5, c5, a6, c6, rfl, h5⟩ := rdG_form hg
  have hbl := hst.bind.len
  rw [ht] at h5
  rw [hk, ht]
  have hc5 : 2 ≤ c5 := by obtain ⟨_, _, _, he, h6, h7, _⟩ := h5; simp only [List.cons.injEq, Value.slice.injEq, and_true] at he; obtain ⟨rfl, rfl, rfl⟩ := he; exact h7
  refine enterCT Tryz.func55 rfl Tryz.ntmps55 rfl (by simp) ?_
  have H := (((Holds.start w []).arg (L := LSb) h1).arg (L := LSs) h2).arg (L := LSl LT) h5
  have H := (H.add (d := (LSl LT).dat M [a] [.slice (slA a5 0 c5 4) 1 (c5 - 0)]) (rdSl_part (L := LT) (l := 0) (m := 1) (H.get 0 rfl) (by omega) (by simp)))
  have H := (H.add (d := (LSl LT).dat M [b] [.slice (slA a5 1 c5 4) 1 (c5 - 1)]) (rdSl_part (L := LT) (l := 1) (m := 2) (H.get 1 rfl) (by omega) (by simp)))
  cases hsol : solutionV st.bind [(a, b)] with
  | none => rw [hsol] at ho; cases ho
  | some os =>
  rw [hsol] at ho
  (repeat (first | refine qq ?_ | (refine qds H ?_; intro H) | (refine qrb H ?_; intro _ w H) | (refine qrs H ?_; intro w H) | (refine qdr H ?_; intro H)))
  refine WD_any 8 [[], [0], [], [2], [2, 3], [], [5], [5, 6]] [] (by kernel_rfl) ?_ ?_ _ (by exact rfl) ?_
  · exact trivial
  · refine ⟨?_, ?_, ?_, ?_, ?_, ?_, ?_, ?_, trivial⟩
    iterate 4 (· exact qob)
    · intro w hm
      have H := H.call hm
      refine qwr ?_
      refine qwr ?_
      exact OA_rd rfl (by exact rfl) (X_slice _ _ _ 0 1 (by exact rfl) rfl ⟨.i64, (by exact rfl)⟩ (by omega) (by omega) hc5)
    iterate 2 (· exact qob)
    · intro w hm
      have H := H.call hm
      refine qwr ?_
      refine qwr ?_
      exact OA_rd rfl (by exact rfl) (X_slice _ _ _ 1 2 (by exact rfl) ⟨.i64, (by exact rfl)⟩ rfl (by omega) hc5 hc5)
  intro w hm
  have H := H.call hm
  iterate 4 refine qwr ?_
  refine WR_rd rfl (by exact rfl) (X_slice _ _ _ 0 1 (by exact rfl) rfl ⟨.i64, (by exact rfl)⟩ (by omega) (by omega) hc5) ?_
  refine qwr ?_
  refine qwr ?_
  refine WR_rd rfl (by exact rfl) (X_slice _ _ _ 1 2 (by exact rfl) ⟨.i64, (by exact rfl)⟩ rfl (by omega) hc5 hc5) ?_
  refine WR_nil ?_
  refine WD_s (by kernel_rfl) rfl rfl (S_call3 _ _ _ (by exact rfl) (by exact rfl) (by exact rfl) (by exact rfl) (solution_c (M := H.wr M) (l := [(a, b)]) hsol (H.wr_lt hM) (H.dat (d := LSb.dat M st.bind [.slice a1 st.bind.length c1]) (by simp)) (H.dat (d := (LSl LT).dat M [a] [.slice (slA a5 0 c5 4) 1 (c5 - 0)]) (by simp)) (H.dat (d := (LSl LT).dat M [b] [.slice (slA a5 1 c5 4) 1 (c5 - 1)]) (by simp)) (by omega) (by simp)) ?_)
  rintro u w ⟨hu, hm⟩
  have H := H.call hm
  cases os with
  | none =>
    cases hu
    cases ho
    refine WD_any 14 [[], [9], [9], [9, 10], [9, 10, 11, 12]] [] (by kernel_rfl) ?_ ?_ _ (by exact rfl) ?_
    · exact trivial
    · refine ⟨?_, ?_, ?_, ?_, ?_, trivial⟩
      iterate 5 (· exact qob)
    intro w hm
    have H := H.call hm
    iterate 5 refine qwr ?_
    refine WR_nil ?_
    refine WD_end (by decide) ?_
    (repeat (first | refine qq ?_ | (refine qds H ?_; intro H) | (refine qrb H ?_; intro _ w H) | (refine qrs H ?_; intro w H) | (refine qdr H ?_; intro H)))
    refine WO_rd rfl (X_build (by exact rfl) [] (by exact rfl) (xs := stZ) (by exact rfl)) ?_
    (repeat (first | refine qq ?_ | (refine qds H ?_; intro H) | (refine qrb H ?_; intro _ w H) | (refine qrs H ?_; intro w H) | (refine qdr H ?_; intro H)))
    exact ⟨_, _, _, rfl, H.bcells 0 5 rfl rfl, rfl, rfl, H.mod⟩
  | some x =>
    obtain ⟨u1, rfl, hrd⟩ := hu
    simp only [requireE] at ho
    cases hsx : substOk x with
    | false => rw [hsx] at ho; cases ho
    | true =>
    rw [hsx] at ho
    simp only [cond_true] at ho
    have hsx := subOk_of hsx
    obtain ⟨a7, c7, rfl⟩ := rdSl_val hrd
    have H := H.add (d := LSb.dat M x [.slice a7 x.length c7]) hrd
    refine WD_any 14 [[], [9], [9], [9, 10], [9, 10, 11, 12]] [] (by kernel_rfl) ?_ ?_ _ (by exact rfl) ?_
    · exact trivial
    · refine ⟨?_, ?_, ?_, ?_, ?_, trivial⟩
      iterate 5 (· exact qob)
    intro w hm
    have H := H.call hm
    iterate 5 refine qwr ?_
    refine WR_nil ?_
    refine WD_end (by decide) ?_
    (repeat (first | refine qq ?_ | (refine qds H ?_; intro H) | (refine qrb H ?_; intro _ w H) | (refine qrs H ?_; intro w H) | (refine qdr H ?_; intro H)))
    refine qa1 (hc := settle_c (M := H.wr M) (st := ⟨st.next, x, st.dis⟩) (vs := [.int .i64 (st.next : Nat), .slice a7 x.length c7, .slice a2 st.dis.length c2, .slice a3 0 c3, .slice a4 0 c4]) ho (H.wr_lt hM) (LSt_mk (st := ⟨st.next, x, st.dis⟩) (H.dat (d := LSb.dat M x [.slice a7 x.length c7]) (by simp)) (H.dat (d := LSs.dat M st.dis [.slice a2 st.dis.length c2]) (by simp))) ⟨hsx, hst.dis, hst.len⟩) (k := ?_)
    rintro u w ⟨hu, hm⟩
    have H := H.call hm
    cases o with
    | none =>
      cases hu
      (repeat (first | refine qq ?_ | (refine qds H ?_; intro H) | (refine qrb H ?_; intro _ w H) | (refine qrs H ?_; intro w H) | (refine qdr H ?_; intro H)))
      exact ⟨_, _, _, rfl, H.bcells 1 5 rfl rfl, rfl, rfl, H.mod⟩
    | some st' =>
      obtain ⟨vs', rfl, hst'⟩ := hu
      obtain ⟨a8, c8, a9, c9, a10, c10, a11, c11, rfl, h8, h9⟩ := LSt_five hst'
      have H := H.add (d := LSt.dat M st' [.int .i64 (st'.next : Nat), .slice a8 st'.bind.length c8, .slice a9 st'.dis.length c9, .slice a10 0 c10, .slice a11 0 c11]) hst'
      (repeat (first | refine qq ?_ | (refine qds H ?_; intro H) | (refine qrb H ?_; intro _ w H) | (refine qrs H ?_; intro w H) | (refine qdr H ?_; intro H)))
      exact ⟨_, _, _, rfl, H.bcells 1 5 rfl rfl, rfl, ⟨_, rfl, H.out 0 rfl⟩, H.mod⟩

set_option maxHeartbeats 1000000 in
set_option maxRecDepth 100000 in
theorem requireD_c {st : Sta} {o : Option Sta} {g : G} {a b : T} {vs us : List Value} {M : Nat → Prop} {w : World} (ho : requireD st (solutionV st.bind [(a, b)]) = some o) (hk : g.kind = 3) (ht : g.terms = [a, b]) (hl : st.dis.length ≤ 1000) (hM : ∀ b, M b → b < w.heap.size) (h : LSt.rd M w st vs) (hg : rdG M w g us) (hst : StaOk st) :
    Calls Tryz.prog 55 #[.agg vs.toArray, .agg us.toArray] w (Ret fun v w' => StaR M o v w' ∧ Mod [] w w') := by
  obtain ⟨a1, c1, a2, c2, a3, c3, a4, c4, rfl, h1, h2⟩ := LSt_five h
  obtain ⟨a5, c5, a6, c6, rfl, h5⟩ := rdG_form hg
  have hbl := hst.bind.len
  rw [ht] at h5
  rw [hk, ht]
  have hc5 : 2 ≤ c5 := by obtain ⟨_, _, _, he, h6, h7, _⟩ := h5; simp only [List.cons.injEq, Value.slice.injEq, and_true] at he; obtain ⟨rfl, rfl, rfl⟩ := he; exact h7
  refine enterCT Tryz.func55 rfl Tryz.ntmps55 rfl (by simp) ?_
  have H := (((Holds.start w []).arg (L := LSb) h1).arg (L := LSs) h2).arg (L := LSl LT) h5
  have H := (H.add (d := (LSl LT).dat M [a] [.slice (slA a5 0 c5 4) 1 (c5 - 0)]) (rdSl_part (L := LT) (l := 0) (m := 1) (H.get 0 rfl) (by omega) (by simp)))
  have H := (H.add (d := (LSl LT).dat M [b] [.slice (slA a5 1 c5 4) 1 (c5 - 1)]) (rdSl_part (L := LT) (l := 1) (m := 2) (H.get 1 rfl) (by omega) (by simp)))
  cases hsol : solutionV st.bind [(a, b)] with
  | none => rw [hsol] at ho; cases ho
  | some os =>
  rw [hsol] at ho
  (repeat (first | refine qq ?_ | (refine qds H ?_; intro H) | (refine qrb H ?_; intro _ w H) | (refine qrs H ?_; intro w H) | (refine qdr H ?_; intro H)))
  refine WD_any 8 [[], [0], [], [2], [2, 3], [], [5], [5, 6]] [] (by kernel_rfl) ?_ ?_ _ (by exact rfl) ?_
  · exact trivial
  · refine ⟨?_, ?_, ?_, ?_, ?_, ?_, ?_, ?_, trivial⟩
    iterate 4 (· exact qob)
    · intro w hm
      have H := H.call hm
      refine qwr ?_
      refine qwr ?_
      exact OA_rd rfl (by exact rfl) (X_slice _ _ _ 0 1 (by exact rfl) rfl ⟨.i64, (by exact rfl)⟩ (by omega) (by omega) hc5)
    iterate 2 (· exact qob)
    · intro w hm
      have H := H.call hm
      refine qwr ?_
      refine qwr ?_
      exact OA_rd rfl (by exact rfl) (X_slice _ _ _ 1 2 (by exact rfl) ⟨.i64, (by exact rfl)⟩ rfl (by omega) hc5 hc5)
  intro w hm
  have H := H.call hm
  iterate 4 refine qwr ?_
  refine WR_rd rfl (by exact rfl) (X_slice _ _ _ 0 1 (by exact rfl) rfl ⟨.i64, (by exact rfl)⟩ (by omega) (by omega) hc5) ?_
  refine qwr ?_
  refine qwr ?_
  refine WR_rd rfl (by exact rfl) (X_slice _ _ _ 1 2 (by exact rfl) ⟨.i64, (by exact rfl)⟩ rfl (by omega) hc5 hc5) ?_
  refine WR_nil ?_
  refine WD_s (by kernel_rfl) rfl rfl (S_call3 _ _ _ (by exact rfl) (by exact rfl) (by exact rfl) (by exact rfl) (solution_c (M := H.wr M) (l := [(a, b)]) hsol (H.wr_lt hM) (H.dat (d := LSb.dat M st.bind [.slice a1 st.bind.length c1]) (by simp)) (H.dat (d := (LSl LT).dat M [a] [.slice (slA a5 0 c5 4) 1 (c5 - 0)]) (by simp)) (H.dat (d := (LSl LT).dat M [b] [.slice (slA a5 1 c5 4) 1 (c5 - 1)]) (by simp)) (by omega) (by simp)) ?_)
  rintro u w ⟨hu, hm⟩
  have H := H.call hm
  cases os with
  | none =>
    cases hu
    simp only [requireD] at ho
    refine WD_any 14 [[], [9], [9], [9, 10], [9, 10, 11, 12]] [] (by kernel_rfl) ?_ ?_ _ (by exact rfl) ?_
    · exact trivial
    · refine ⟨?_, ?_, ?_, ?_, ?_, trivial⟩
      iterate 5 (· exact qob)
    intro w hm
    have H := H.call hm
    iterate 5 refine qwr ?_
    refine WR_nil ?_
    refine WD_end (by decide) ?_
    (repeat (first | refine qq ?_ | (refine qds H ?_; intro H) | (refine qrb H ?_; intro _ w H) | (refine qrs H ?_; intro w H) | (refine qdr H ?_; intro H)))
    refine qa3 (hc := rest_c (M := H.wr M) (s := st.bind) (o := none) (H.wr_lt hM) (H.dat (d := LSb.dat M st.bind [.slice a1 st.bind.length c1]) (by simp)) rfl hst.bind (by simp)) (k := ?_)
    rintro u w ⟨hu, hm⟩
    have H := H.call hm
    cases hu
    (repeat (first | refine qq ?_ | (refine qds H ?_; intro H) | (refine qrb H ?_; intro _ w H) | (refine qrs H ?_; intro w H) | (refine qdr H ?_; intro H)))
    refine qa1 (hc := settle_c (M := H.wr M) (st := st) (vs := [.int .i64 (st.next : Nat), .slice a1 st.bind.length c1, .slice a2 st.dis.length c2, .slice a3 0 c3, .slice a4 0 c4]) ho (H.wr_lt hM) (LSt_mk (st := st) (H.dat (d := LSb.dat M st.bind [.slice a1 st.bind.length c1]) (by simp)) (H.dat (d := LSs.dat M st.dis [.slice a2 st.dis.length c2]) (by simp))) hst) (k := ?_)
    rintro u w ⟨hu, hm⟩
    have H := H.call hm
    cases o with
    | none =>
      cases hu
      (repeat (first | refine qq ?_ | (refine qds H ?_; intro H) | (refine qrb H ?_; intro _ w H) | (refine qrs H ?_; intro w H) | (refine qdr H ?_; intro H)))
      exact ⟨_, _, _, rfl, H.bcells 1 5 rfl rfl, rfl, rfl, H.mod⟩
    | some st' =>
      obtain ⟨vs', rfl, hst'⟩ := hu
      obtain ⟨a8, c8, a9, c9, a10, c10, a11, c11, rfl, h8, h9⟩ := LSt_five hst'
      have H := H.add (d := LSt.dat M st' [.int .i64 (st'.next : Nat), .slice a8 st'.bind.length c8, .slice a9 st'.dis.length c9, .slice a10 0 c10, .slice a11 0 c11]) hst'
      (repeat (first | refine qq ?_ | (refine qds H ?_; intro H) | (refine qrb H ?_; intro _ w H) | (refine qrs H ?_; intro w H) | (refine qdr H ?_; intro H)))
      exact ⟨_, _, _, rfl, H.bcells 1 5 rfl rfl, rfl, ⟨_, rfl, H.out 0 rfl⟩, H.mod⟩
  | some x =>
    obtain ⟨u1, rfl, hrd⟩ := hu
    simp only [requireD] at ho
    cases hsx : substOk x with
    | false => rw [hsx] at ho; cases ho
    | true =>
    rw [hsx] at ho
    simp only [cond_true] at ho
    have hsx := subOk_of hsx
    obtain ⟨a7, c7, rfl⟩ := rdSl_val hrd
    have H := H.add (d := LSb.dat M x [.slice a7 x.length c7]) hrd
    refine WD_any 14 [[], [9], [9], [9, 10], [9, 10, 11, 12]] [] (by kernel_rfl) ?_ ?_ _ (by exact rfl) ?_
    · exact trivial
    · refine ⟨?_, ?_, ?_, ?_, ?_, trivial⟩
      iterate 5 (· exact qob)
    intro w hm
    have H := H.call hm
    iterate 5 refine qwr ?_
    refine WR_nil ?_
    refine WD_end (by decide) ?_
    (repeat (first | refine qq ?_ | (refine qds H ?_; intro H) | (refine qrb H ?_; intro _ w H) | (refine qrs H ?_; intro w H) | (refine qdr H ?_; intro H)))
    refine qa3 (hc := rest_c (M := H.wr M) (s := st.bind) (o := some x) (u := .slice a7 x.length c7) (b := true) (H.wr_lt hM) (H.dat (d := LSb.dat M st.bind [.slice a1 st.bind.length c1]) (by simp)) ⟨_, rfl, H.dat (d := LSb.dat M x [.slice a7 x.length c7]) (by simp)⟩ hst.bind (by simp; exact hsx)) (k := ?_)
    rintro u w ⟨hu, hm⟩
    have H := H.call hm
    cases heq : eqSb st.bind x with
    | true =>
      rw [heq] at ho
      simp only [RestR, heq, cond_true] at hu
      cases hu
      cases ho
      (repeat (first | refine qq ?_ | (refine qds H ?_; intro H) | (refine qrb H ?_; intro _ w H) | (refine qrs H ?_; intro w H) | (refine qdr H ?_; intro H)))
      refine WO_rd rfl (X_build (by exact rfl) [] (by exact rfl) (xs := stZ) (by exact rfl)) ?_
      (repeat (first | refine qq ?_ | (refine qds H ?_; intro H) | (refine qrb H ?_; intro _ w H) | (refine qrs H ?_; intro w H) | (refine qdr H ?_; intro H)))
      exact ⟨_, _, _, rfl, H.bcells 0 5 rfl rfl, rfl, rfl, H.mod⟩
    | false =>
    rw [heq] at ho
    simp only [RestR, heq, cond_false] at hu ho
    obtain ⟨u2, rfl, hrn⟩ := hu
    obtain ⟨a12, c12, rfl⟩ := rdSl_val hrn
    have H := H.add (d := LSb.dat M (newB st.bind x) [.slice a12 (newB st.bind x).length c12]) hrn
    (repeat (first | refine qq ?_ | (refine qds H ?_; intro H) | (refine qrb H ?_; intro _ w H) | (refine qrs H ?_; intro w H) | (refine qdr H ?_; intro H)))
    refine WO_s rfl (S_bslice0 H ?_); intro b13 w H
    have H := (H.toRow 0 1 rfl).dnil (L := LSb) (M := M)
    (repeat (first | refine qq ?_ | (refine qds H ?_; intro H) | (refine qrb H ?_; intro _ w H) | (refine qrs H ?_; intro w H) | (refine qdr H ?_; intro H)))
    refine WO_s rfl (S_appendD (L := LSb) (M := M) (l := []) (l' := st.dis) (vss := []) (a := a2) (n := st.dis.length) (c := c2) H 0 _ _ rfl (by simp) (by simp) (by exact rfl) (by exact rfl) rfl Nat.one_pos rfl (by simp only [List.length_nil]; omega) ?_)
    intro v1 vss w H
    rw [List.nil_append] at H
    have hvl := (H.dat (d := dall LSb M st.dis vss) (by simp)).get.1
    (repeat (first | refine qq ?_ | (refine qds H ?_; intro H) | (refine qrb H ?_; intro _ w H) | (refine qrs H ?_; intro w H) | (refine qdr H ?_; intro H)))
    refine WO_s rfl (S_bslice1s H _ (v := .slice a12 (newB st.bind x).length c12) (by exact rfl) (by exact rfl) (by exact rfl) ?_); intro b14 w H
    refine WO_s rfl (S_append H 1 _ _ (vs := [.slice a12 (newB st.bind x).length c12]) (by exact rfl) (by exact rfl) (by exact rfl) (H.bcells 0 1 rfl rfl) rfl (by simp [Value.oneCell']) Nat.one_pos (by exact rfl) ?_ ?_)
    · omega
    intro v2 w H
    have H := H.snoc (L := LSb) (M := M) (l := st.dis) (vss := vss) (x := newB st.bind x) (by simp) (H.dat (d := LSb.dat M (newB st.bind x) [.slice a12 (newB st.bind x).length c12]) (by simp))
    have H := Holds.freeze (A1 := [_]) (M := M) (L := LSb) (l := st.dis ++ [newB st.bind x]) H hM (H.dat (by simp)) (by simp)
    obtain ⟨a15, c15, rfl⟩ := rdSl_val (H.get 0 rfl)
    (repeat (first | refine qq ?_ | (refine qds H ?_; intro H) | (refine qrb H ?_; intro _ w H) | (refine qrs H ?_; intro w H) | (refine qdr H ?_; intro H)))
    refine qa1 (hc := settle_c (M := H.wr M) (st := ⟨st.next, st.bind, st.dis ++ [newB st.bind x]⟩) (vs := [.int .i64 (st.next : Nat), .slice a1 st.bind.length c1, .slice a15 (st.dis ++ [newB st.bind x]).length c15, .slice a3 0 c3, .slice a4 0 c4]) ho (H.wr_lt hM) (LSt_mk (st := ⟨st.next, st.bind, st.dis ++ [newB st.bind x]⟩) (H.dat (d := LSb.dat M st.bind [.slice a1 st.bind.length c1]) (by simp)) (H.dat (d := LSs.dat M (st.dis ++ [newB st.bind x]) [.slice a15 (st.dis ++ [newB st.bind x]).length c15]) (by simp))) ⟨hst.bind, ?_, ?_⟩) (k := ?_)
    · intro d hd
      rcases List.mem_append.1 hd with hd | hd
      · exact hst.dis d hd
      · simp only [List.mem_singleton] at hd; rw [hd]; exact hsx.sub newB_sub
    · simp; omega
    rintro u w ⟨hu, hm⟩
    have H := H.call hm
    cases o with
    | none =>
      cases hu
      (repeat (first | refine qq ?_ | (refine qds H ?_; intro H) | (refine qrb H ?_; intro _ w H) | (refine qrs H ?_; intro w H) | (refine qdr H ?_; intro H)))
      exact ⟨_, _, _, rfl, H.bcells 2 5 rfl rfl, rfl, rfl, H.mod⟩
    | some st' =>
      obtain ⟨vs', rfl, hst'⟩ := hu
      obtain ⟨a8, c8, a9, c9, a10, c10, a11, c11, rfl, h8, h9⟩ := LSt_five hst'
      have H := H.add (d := LSt.dat M st' [.int .i64 (st'.next : Nat), .slice a8 st'.bind.length c8, .slice a9 st'.dis.length c9, .slice a10 0 c10, .slice a11 0 c11]) hst'
      (repeat (first | refine qq ?_ | (refine qds H ?_; intro H) | (refine qrb H ?_; intro _ w H) | (refine qrs H ?_; intro w H) | (refine qdr H ?_; intro H)))
      exact ⟨_, _, _, rfl, H.bcells 2 5 rfl rfl, rfl, ⟨_, rfl, H.out 0 rfl⟩, H.mod⟩

theorem require_c {st : Sta} {o : Option Sta} {g : G} {vs us : List Value} {M : Nat → Prop} {w : World} (ho : requireV st g = some o) (hM : ∀ b, M b → b < w.heap.size) (h : LSt.rd M w st vs) (hg : rdG M w g us) (hst : StaOk st) :
    Calls Tryz.prog 55 #[.agg vs.toArray, .agg us.toArray] w (Ret fun v w' => StaR M o v w' ∧ Mod [] w w') := by
  unfold requireV at ho
  split at ho
  · rename_i a b ht
    cases h2 : Nat.beq g.kind 2 with
    | true => rw [h2] at ho; exact requireE_c ho (beq_of h2) ht hM h hg hst
    | false =>
      rw [h2] at ho
      simp only [cond_false] at ho
      cases h3 : Nat.beq g.kind 3 with
      | false => rw [h3] at ho; cases ho
      | true =>
        rw [h3] at ho
        simp only [cond_true] at ho
        cases h4 : Nat.ble st.dis.length 1000 with
        | false => rw [h4] at ho; cases ho
        | true => rw [h4] at ho; exact requireD_c ho (beq_of h3) ht (Nat.le_of_ble_eq_true h4) hM h hg hst
  · cases ho
end Go.Proofs.YtljpfnjpifhdlaaGreatDoor
namespace Go.Proofs.YtljpfnjpifhdlaaGreatDoor
open Go
/-- a closure over goals that does what step says -/
def StepG {σ : Type} (g : FuncId) (cap : Array Value) (As : σ → List Atom) (ds : σ → List Dat) (step : G → σ → Option σ) : Prop :=
  ∀ {x : G} {us : List Value} {s s' : σ} {w : World} {M : Nat → Prop}, step x s = some s' → In As ds M s w → rdG M w x us → Calls Tryz.prog g (#[.agg us.toArray] ++ cap) w (Ret fun _ w' => Out As ds M s s' w w')
mutual
def eachG {σ : Type} (f : G → σ → Option σ) : G → σ → Option σ
  | .mk k n ts gs, s => bif Nat.ble gs.length 1000 then (match f (.mk k n ts gs) s with
    | none => none
    | some s => eachGs f gs s) else none
def eachGs {σ : Type} (f : G → σ → Option σ) : List G → σ → Option σ
  | [], s => some s
  | g :: gs, s => match eachG f g s with
    | none => none
    | some s => eachGs f gs s
end
theorem eachG_eq {σ : Type} (f : G → σ → Option σ) (g : G) (s : σ) : eachG f g s = bif Nat.ble g.kids.length 1000 then (match f g s with
    | none => none
    | some s => eachGs f g.kids s) else none := by obtain ⟨k, n, ts, gs⟩ := g; simp only [eachG, G.kids]
theorem eachGs_cons {σ : Type} (f : G → σ → Option σ) (g : G) (gs : List G) (s : σ) : eachGs f (g :: gs) s = match eachG f g s with
    | none => none
    | some s => eachGs f gs s := by simp only [eachGs]
theorem G.kids_lt : ∀ {g x : G}, x ∈ g.kids → SizeOf.sizeOf x < SizeOf.sizeOf g
  | .mk k n ts gs, x, h => by
    have := List.sizeOf_lt_of_mem (show x ∈ gs from h)
    simp only [G.mk.sizeOf_spec]
    omega
/-- what eachGoal does at g -/
abbrev EachGC {σ : Type} (c : FuncId) (cap : Array Value) (As : σ → List Atom) (ds : σ → List Dat) (step : G → σ → Option σ) (g : G) : Prop :=
  ∀ {s s' : σ} {us : List Value} {M : Nat → Prop} {w : World}, eachG step g s = some s' → In As ds M s w → rdG M w g us →
    Calls Tryz.prog 74 #[.agg us.toArray, .func (.func c) #[] cap] w (Ret fun _ w' => Out As ds M s s' w w')
theorem Out.trans_owns {σ : Type} {As : σ → List Atom} {ds : σ → List Dat} {M : Nat → Prop} {s s1 : σ} {w w1 : World} (h : Out As ds M s s1 w w1) : owns (As s1) = owns (As s) := h.2.2.1
set_option maxRecDepth 100000 in
theorem eachGoal_at {σ : Type} {c : FuncId} [FnF Tryz.prog c] {cap : Array Value} {As : σ → List Atom} {ds : σ → List Dat} {step : G → σ → Option σ} (C : StepG c cap As ds step) (g : G) (ih : ∀ x ∈ g.kids, EachGC c cap As ds step x) : EachGC c cap As ds step g := by
  intro s s' us M w hs hin h
  obtain ⟨a1, c1, a, cc, rfl, hts, hgs⟩ := rdG_parts h
  rw [eachG_eq] at hs
  cases hl : Nat.ble g.kids.length 1000 with
  | false => rw [hl] at hs; cases hs
  | true =>
  have hl' := Nat.le_of_ble_eq_true hl
  rw [hl] at hs
  simp only [cond_true] at hs
  cases hf : step g s with
  | none => rw [hf] at hs; cases hs
  | some s1 =>
  rw [hf] at hs
  simp only [] at hs
  refine enter0 Tryz.func74 rfl Tryz.ntmps74 rfl (by simp) ?_
  have H := (hin.begin.add (d := LG.dat M g [.int .i64 (g.kind : Nat), .string g.name, .slice a1 g.terms.length c1, .slice a g.kids.length cc]) (rdG_grow (fun b _ hb => hb.elim id (hin.2.1 b)) _ _ h)).add (d := (LSl LG).dat M g.kids [.slice a g.kids.length cc]) ((LSl LG).grow _ _ _ _ _ (fun b _ hb => hb.elim id (hin.2.1 b)) hgs)
  refine W_rs ?_
  refine qrb H ?_; intro b2 w H
  (repeat (first | refine qq ?_ | (refine qds H ?_; intro H) | (refine qrb H ?_; intro _ w H) | (refine qrs H ?_; intro w H) | (refine qdr H ?_; intro H)))
  refine ql1 (hc := C hf (H.into (A1 := [_]) rfl hin.1 (by repeat (first | exact wides_end | refine wides_cons ?_ | refine wides_left ?_))) (H.dat (d := LG.dat M g [.int .i64 (g.kind : Nat), .string g.name, .slice a1 g.terms.length c1, .slice a g.kids.length cc]) (by simp))) (k := ?_)
  rintro _ w hout
  have ho := hout.2.2.1
  have H := H.step (A1 := [_]) rfl hout
  (repeat (first | refine qq ?_ | (refine qds H ?_; intro H) | (refine qrb H ?_; intro _ w H) | (refine qrs H ?_; intro w H) | (refine qdr H ?_; intro H)))
  refine W_loop (fun m f w' => ∃ k gg s2, m = g.kids.length - k ∧ k ≤ g.kids.length ∧ f = sl gg [(10, .slice a g.kids.length cc), (11, .int .i64 g.kids.length), (12, .int .i64 k), (1, .func (.func c) #[] cap)] ∧ owns (As s2) = owns (As s) ∧ eachGs step (g.kids.drop k) s2 = some s' ∧
    Holds _ (owns (As s)) ([] ++ As s2) ([(LSl LG).dat M g.kids [.slice a g.kids.length cc]] ++ (ds s2).map (Dat.wide M)) w') g.kids.length
    ⟨0, _, s1, rfl, Nat.zero_le _, sl_back ⟨rfl, rfl, rfl, rfl, trivial⟩, ho, hs, H.sub (.cons _ (.refl _)) (by simp; intro x hx; exact .inr (.inr (.inr ⟨x, hx, rfl⟩)))⟩ ?_
  clear H hs ho hout
  rintro m f w ⟨k, gg, s2, rfl, hk, rfl, ho, hs, H⟩
  by_cases hlt : k < g.kids.length
  · obtain ⟨x, hx⟩ : ∃ x, g.kids[k]? = some x := ⟨_, List.getElem?_eq_getElem hlt⟩
    rw [drop_at hx, eachGs_cons] at hs
    cases hg : eachG step x s2 with
    | none => rw [hg] at hs; cases hs
    | some s3 =>
    rw [hg] at hs
    simp only [] at hs
    obtain ⟨b, o, vs, rfl, _, _, hr, H⟩ := H.elem (L := LG) (M := M) (l := g.kids) (a := a) (n := g.kids.length) (c := cc) (by simp) k hx
    obtain ⟨a3, c3, a4, c4, rfl, _⟩ := rdG_form hr
    (repeat (first | refine qq ?_ | (refine qds H ?_; intro H) | (refine qrb H ?_; intro _ w H) | (refine qrs H ?_; intro w H) | (refine qdr H ?_; intro H)))
    refine qa2 (hc := ih x (List.mem_of_getElem? hx) hg (H.into (A1 := [_]) rfl hin.1 (by repeat (first | exact wides_end | refine wides_cons ?_ | refine wides_left ?_))) (H.dat (d := LG.dat M x [.int .i64 (x.kind : Nat), .string x.name, .slice a3 x.terms.length c3, .slice a4 x.kids.length c4]) (by simp))) (k := ?_)
    rintro _ w hout
    have ho3 := hout.2.2.1
    have H := H.step (A1 := [_]) rfl hout
    (repeat (first | refine qq ?_ | (refine qds H ?_; intro H) | (refine qrb H ?_; intro _ w H) | (refine qrs H ?_; intro w H) | (refine qdr H ?_; intro H)))
    refine ⟨g.kids.length - (k + 1), by omega, k + 1, _, s3, rfl, by omega, sl_back ⟨rfl, rfl, rfl, rfl, trivial⟩, ho3.trans ho, hs, ?_⟩
    exact H.sub (.cons _ (.refl _)) (by simp; intro y hy; exact .inr (.inr (.inr (.inr ⟨y, hy, rfl⟩))))
  · rw [List.drop_eq_nil_of_le (by omega)] at hs
    simp only [eachGs] at hs
    cases hs
    (repeat (first | refine qq ?_ | (refine qds H ?_; intro H) | (refine qrb H ?_; intro _ w H) | (refine qrs H ?_; intro w H) | (refine qdr H ?_; intro H)))
    exact H.outOf (A1 := []) rfl ho (by repeat (first | exact wides_end | refine wides_cons ?_ | refine wides_left ?_))

theorem eachGoal_c {σ : Type} {c : FuncId} [FnF Tryz.prog c] {cap : Array Value} {As : σ → List Atom} {ds : σ → List Dat} {step : G → σ → Option σ} (C : StepG c cap As ds step) : ∀ (g : G), EachGC c cap As ds step g := by
  have main : ∀ (n : Nat) (g : G), SizeOf.sizeOf g < n → EachGC c cap As ds step g := by
    intro n
    induction n with
    | zero => intro g h; omega
    | succ n ih => intro g h; exact eachGoal_at C g fun x hx => ih x (by have := G.kids_lt hx; omega)
  exact fun g => main _ g (Nat.lt_succ_self _)

/-! the variables of a goal -/
def varS : Nat → Tr Unit → Option (Tr Unit) := fun v m => bif Nat.ble v 100000 then some (m.set fu v ()) else none
def termsS : List T → Tr Unit → Option (Tr Unit)
  | [], m => some m
  | t :: ts, m => match eachV varS t m with
    | none => none
    | some m => termsS ts m
def goalS : G → Tr Unit → Option (Tr Unit) := fun g m => bif Nat.ble g.terms.length 1000 then termsS g.terms m else none
abbrev gvA (bm : Nat) (m : Tr Unit) : List Atom := [mp bm (seenG m)]
abbrev gvD (bm b3 : Nat) (_ : Tr Unit) : List Dat := [dcells b3 0 [.map (some bm)]]
set_option maxRecDepth 100000 in
theorem goalVars11_c (bm b3 : Nat) : StepC 99 #[.pointer (some ⟨b3, 0, none⟩)] (gvA bm) (gvD bm b3) varS := by
  intro n m m' w M hs hin
  simp only [varS] at hs
  cases hn : Nat.ble n 100000 with
  | false => rw [hn] at hs; cases hs
  | true =>
  rw [hn] at hs
  cases hs
  have hn := Nat.le_of_ble_eq_true hn
  show Calls _ _ #[.int .i64 n, .pointer (some ⟨b3, 0, none⟩)] _ _
  refine enter0 Tryz.func99 rfl Tryz.ntmps99 rfl (by simp) ?_
  obtain ⟨h1, h2, h3⟩ := hin.2.2.2 (dcells b3 0 [.map (some bm)]) (by simp)
  have H := hin.begin.add (hin.cells h1 h2 h3)
  (repeat (first | refine qq ?_ | (refine qds H ?_; intro H) | (refine qrb H ?_; intro _ w H) | (refine qrs H ?_; intro w H) | (refine qdr H ?_; intro H)))
  refine WO_n (S_mapSet H 0 _ _ _ (v := .bool true) (by exact rfl) (by exact rfl) (by exact rfl) (by exact rfl) ?_); intro w H
  have H := H.re (A' := gvA bm (m.set fu n ())) (by rw [put_seen hn]; rfl)
  (repeat (first | refine qq ?_ | (refine qds H ?_; intro H) | (refine qrb H ?_; intro _ w H) | (refine qrs H ?_; intro w H) | (refine qdr H ?_; intro H)))
  exact H.outOf (A1 := []) (As := gvA bm) (ds := gvD bm b3) rfl rfl (by simp)
set_option maxRecDepth 100000 in
theorem goalVars1_c (bm b3 : Nat) : StepG 98 #[.pointer (some ⟨b3, 0, none⟩)] (gvA bm) (gvD bm b3) goalS := by
  intro g us m m' w M hs hin h
  obtain ⟨a1, c1, a, cc, rfl, hts⟩ := rdG_form h
  unfold goalS at hs
  cases hl : Nat.ble g.terms.length 1000 with
  | false => rw [hl] at hs; cases hs
  | true =>
  rw [hl] at hs
  simp only [cond_true] at hs
  have hl := Nat.le_of_ble_eq_true hl
  show Calls _ _ #[.agg _, .pointer (some ⟨b3, 0, none⟩)] _ _
  refine enter0 Tryz.func98 rfl Tryz.ntmps98 rfl (by simp) ?_
  obtain ⟨h1, h2, h3⟩ := hin.2.2.2 (dcells b3 0 [.map (some bm)]) (by simp)
  have H := (hin.begin.add (hin.cells h1 h2 h3)).add (d := (LSl LT).dat M g.terms [.slice a1 g.terms.length c1]) ((LSl LT).grow _ _ _ _ _ (fun b _ hb => hb.elim id (hin.2.1 b)) hts)
  (repeat (first | refine qq ?_ | (refine qds H ?_; intro H) | (refine qrb H ?_; intro _ w H) | (refine qrs H ?_; intro w H) | (refine qdr H ?_; intro H)))
  refine W_loop (fun k' f w' => ∃ k gg m2, k' = g.terms.length - k ∧ k ≤ g.terms.length ∧ f = sl gg [(6, .slice a1 g.terms.length c1), (7, .int .i64 g.terms.length), (8, .int .i64 k), (1, .pointer (some ⟨b3, 0, none⟩))] ∧ termsS (g.terms.drop k) m2 = some m' ∧
    Holds _ (owns (gvA bm m)) ([] ++ gvA bm m2) [(LSl LT).dat M g.terms [.slice a1 g.terms.length c1], dcells b3 0 [.map (some bm)], Dat.wide M (dcells b3 0 [.map (some bm)])] w') g.terms.length
    ⟨0, _, m, rfl, Nat.zero_le _, sl_back ⟨rfl, rfl, rfl, rfl, trivial⟩, hs, H.sub (.cons _ (.refl _)) (by simp)⟩ ?_
  clear H hs
  rintro m0 f w ⟨k, gg, m2, rfl, hk, rfl, hs, H⟩
  by_cases hlt : k < g.terms.length
  · obtain ⟨t, ht⟩ : ∃ t, g.terms[k]? = some t := ⟨_, List.getElem?_eq_getElem hlt⟩
    rw [drop_at ht] at hs
    simp only [termsS] at hs
    cases hv : eachV varS t m2 with
    | none => rw [hv] at hs; cases hs
    | some m3 =>
    rw [hv] at hs
    simp only [] at hs
    obtain ⟨b, o, vs, rfl, _, _, hr, H⟩ := H.elem (L := LT) (M := M) (l := g.terms) (a := a1) (n := g.terms.length) (c := c1) (by simp) k ht
    obtain ⟨a3, c3, rfl⟩ := rdT_four hr
    (repeat (first | refine qq ?_ | (refine qds H ?_; intro H) | (refine qrb H ?_; intro _ w H) | (refine qrs H ?_; intro w H) | (refine qdr H ?_; intro H)))
    refine qa2 (hc := eachVar_c (goalVars11_c bm b3) t hv (H.into (As := gvA bm) (ds := gvD bm b3) (A1 := [_]) rfl hin.1 (by simp)) (H.dat (d := LT.dat M t [.int .i64 t.kind, .int .i64 t.int, .string t.name, .slice a3 t.args.length c3]) (by simp))) (k := ?_)
    rintro _ w hout
    have H := H.step (As := gvA bm) (A1 := [_]) rfl hout
    (repeat (first | refine qq ?_ | (refine qds H ?_; intro H) | (refine qrb H ?_; intro _ w H) | (refine qrs H ?_; intro w H) | (refine qdr H ?_; intro H)))
    exact ⟨g.terms.length - (k + 1), by omega, k + 1, _, m3, rfl, by omega, sl_back ⟨rfl, rfl, rfl, rfl, trivial⟩, hs, H.sub (.cons _ (.refl _)) (by simp)⟩
  · rw [List.drop_eq_nil_of_le (by omega)] at hs
    cases hs
    (repeat (first | refine qq ?_ | (refine qds H ?_; intro H) | (refine qrb H ?_; intro _ w H) | (refine qrs H ?_; intro w H) | (refine qdr H ?_; intro H)))
    exact H.outOf (A1 := []) (As := gvA bm) (ds := gvD bm b3) rfl rfl (by simp)

theorem keys_seen (t : Tr Unit) : Keys (seenG t) t.keys := by
  obtain ⟨h1, h2⟩ := keysG_spec t t.bd [] .nil (by simp)
  refine ⟨h1, fun n => ?_⟩
  show n ∈ keysG t t.bd [] ↔ _
  rw [h2]
  simp only [List.not_mem_nil, false_or, seenG, Option.isSome_map]
  exact ⟨fun h => h.2, fun h => ⟨get_bd h, h⟩⟩
theorem seenG_leaf : seenG .leaf = noM := by funext n; simp [seenG, Tr.get]
set_option maxRecDepth 100000 in
theorem goalVars_c {g : G} {m : Tr Unit} {us : List Value} {M : Nat → Prop} {w : World} (hs : eachG goalS g .leaf = some m) (hl : m.keys.length ≤ 100000) (hM : ∀ b, M b → b < w.heap.size) (h : rdG M w g us) :
    Calls Tryz.prog 73 #[.agg us.toArray] w (Ret fun v w' => (LSl LNat).rd M w' m.keys [v] ∧ Mod [] w w') := by
  obtain ⟨a1, c1, a, cc, rfl, _⟩ := rdG_form h
  refine enter1 Tryz.func73 rfl Tryz.ntmps73 rfl (by simp) ?_
  have H := (Holds.start w []).arg (L := LG) h
  refine W_rs ?_
  refine qrb H ?_; intro b1 w H
  (repeat (first | refine qq ?_ | (refine qds H ?_; intro H) | (refine qrb H ?_; intro _ w H) | (refine qrs H ?_; intro w H) | (refine qdr H ?_; intro H)))
  refine WO_s rfl (S_makeMap H ?_); intro bm w H
  refine qrb H ?_; intro b3 w H
  (repeat (first | refine qq ?_ | (refine qds H ?_; intro H) | (refine qrb H ?_; intro _ w H) | (refine qrs H ?_; intro w H) | (refine qdr H ?_; intro H)))
  have H := H.frz (xs := [.map (some bm)]) hM 0 rfl (by simp)
  have H := H.perm (List.Perm.swap _ _ _)
  have H := H.re (A' := [_] ++ gvA bm .leaf) (by simp only [gvA, seenG_leaf]; rfl)
  refine qa2 (hc := eachGoal_c (goalVars1_c bm b3) g hs (H.into (As := gvA bm) (ds := gvD bm b3) (A1 := [_]) rfl hM (by simp)) (H.dat (d := LG.dat M g [.int .i64 (g.kind : Nat), .string g.name, .slice a1 g.terms.length c1, .slice a g.kids.length cc]) (by simp))) (k := ?_)
  rintro _ w hout
  have H := H.step (As := gvA bm) (A1 := [_]) rfl hout
  (repeat (first | refine qq ?_ | (refine qds H ?_; intro H) | (refine qrb H ?_; intro _ w H) | (refine qrs H ?_; intro w H) | (refine qdr H ?_; intro H)))
  refine qa1 (hc := sortedInts_c (M := H.wr M) (keys_seen m) (by omega) (H.wr_lt hM) (H.hasEnd (A1 := [_]) rfl)) (k := ?_)
  rintro u w ⟨hrd, hm, _⟩
  have hrd := (LSl LNat).grow _ M _ _ _ (fun x _ hx => .inl (.inl hx)) hrd
  have H := H.past (A1 := [_]) (As := gvA bm m) (p := fun _ w' => w' = w) rfl (fun _ _ e => e ▸ hm) (.inr ⟨u, rfl⟩)
  obtain ⟨a5, c5, rfl⟩ := rdSl_val hrd
  (repeat (first | refine qq ?_ | (refine qds H ?_; intro H) | (refine qrb H ?_; intro _ w H) | (refine qrs H ?_; intro w H) | (refine qdr H ?_; intro H)))
  exact ⟨hrd, H.mod⟩
def varsBelowV (g : G) (n : Nat) : Bool := match eachG goalS g .leaf with
  | none => false
  | some m => Nat.ble m.bd 100000 && m.keys.all fun v => Nat.blt v n
set_option maxRecDepth 100000 in
theorem varsBelow_c {g : G} {n : Nat} {us : List Value} {M : Nat → Prop} {w : World} (hs : varsBelowV g n = true) (hM : ∀ b, M b → b < w.heap.size) (h : rdG M w g us) :
    Calls Tryz.prog 43 #[.agg us.toArray, .int .i64 n] w (Ret fun v w' => v = .bool true ∧ Mod [] w w') := by
  obtain ⟨a1, c1, a, cc, rfl, _⟩ := rdG_form h
  unfold varsBelowV at hs
  cases he : eachG goalS g .leaf with
  | none => rw [he] at hs; cases hs
  | some m =>
  rw [he] at hs
  simp only [Bool.and_eq_true, List.all_eq_true] at hs
  obtain ⟨hbd, hall⟩ := hs
  have hkl := Nat.le_trans (keys_le m) (Nat.le_of_ble_eq_true hbd)
  refine enter1 Tryz.func43 rfl Tryz.ntmps43 rfl (by simp) ?_
  have H := (Holds.start w []).arg (L := LG) h
  (repeat (first | refine qq ?_ | (refine qds H ?_; intro H) | (refine qrb H ?_; intro _ w H) | (refine qrs H ?_; intro w H) | (refine qdr H ?_; intro H)))
  refine qa1 (hc := goalVars_c (M := H.wr M) he hkl (H.wr_lt hM) (H.dat (d := LG.dat M g [.int .i64 (g.kind : Nat), .string g.name, .slice a1 g.terms.length c1, .slice a g.kids.length cc]) (by simp))) (k := ?_)
  rintro u w ⟨hrd, hm⟩
  obtain ⟨a5, c5, rfl⟩ := rdSl_val hrd
  have H := (H.call hm).add (d := (LSl LNat).dat M m.keys [.slice a5 m.keys.length c5]) hrd
  (repeat (first | refine qq ?_ | (refine qds H ?_; intro H) | (refine qrb H ?_; intro _ w H) | (refine qrs H ?_; intro w H) | (refine qdr H ?_; intro H)))
  refine W_loop (fun k' f w' => ∃ k gg, k' = m.keys.length - k ∧ k ≤ m.keys.length ∧ f = sl gg [(8, .slice a5 m.keys.length c5), (9, .int .i64 m.keys.length), (10, .int .i64 k), (1, .int .i64 n)] ∧ Holds _ [] [] [(LSl LNat).dat M m.keys [.slice a5 m.keys.length c5]] w') m.keys.length
    ⟨0, _, rfl, Nat.zero_le _, sl_back ⟨rfl, rfl, rfl, rfl, trivial⟩, H.sub (List.nil_sublist _) (by simp)⟩ ?_
  clear H
  rintro m0 f w ⟨k, gg, rfl, hk, rfl, H⟩
  by_cases hlt : k < m.keys.length
  · obtain ⟨v, hv⟩ : ∃ v, m.keys[k]? = some v := ⟨_, List.getElem?_eq_getElem hlt⟩
    have hvn : v < n := Nat.le_of_ble_eq_true (hall v (List.mem_of_getElem? hv))
    obtain ⟨b, o, vs, rfl, _, _, hr, H⟩ := H.elem (L := LNat) (M := M) (l := m.keys) (a := a5) (n := m.keys.length) (c := c5) (by simp) k hv
    have hr : vs = [.int .i64 (v : Nat)] := hr
    subst hr
    (repeat (first | refine qq ?_ | (refine qds H ?_; intro H) | (refine qrb H ?_; intro _ w H) | (refine qrs H ?_; intro w H) | (refine qdr H ?_; intro H)))
    exact ⟨m.keys.length - (k + 1), by omega, k + 1, _, rfl, by omega, sl_back ⟨rfl, rfl, rfl, rfl, trivial⟩, H.sub (.refl _) (by simp)⟩
  · (repeat (first | refine qq ?_ | (refine qds H ?_; intro H) | (refine qrb H ?_; intro _ w H) | (refine qrs H ?_; intro w H) | (refine qdr H ?_; intro H)))
    exact ⟨rfl, H.mod⟩

/-! no goal is a negation -/
def negS : G → Unit → Option Unit := fun g _ => bif Nat.beq g.kind 10 then none else some ()
abbrev ngA (b5 : Nat) (_ : Unit) : List Atom := [box b5 [.bool false] 4]
abbrev ngD (b3 : Nat) (_ : Unit) : List Dat := [dcells b3 0 [.func (.func 78) #[] #[]]]
set_option maxRecDepth 100000 in
theorem negative1_c (k : Nat) (w : World) (hk : k ≠ 10) : Calls Tryz.prog 78 (#[.int .i64 k] ++ #[]) w (Ret fun v w' => v = .bool false ∧ Mod [] w w') := by
  show Calls _ _ #[.int .i64 k] _ _
  refine enter1 Tryz.func78 rfl Tryz.ntmps78 rfl (by simp) ?_
  have H := Holds.start w []
  (repeat (first | refine qq ?_ | (refine qds H ?_; intro H) | (refine qrb H ?_; intro _ w H) | (refine qrs H ?_; intro w H) | (refine qdr H ?_; intro H)))
  exact ⟨rfl, H.mod⟩
set_option maxRecDepth 100000 in
theorem hasKind1_c (b5 b3 : Nat) : StepG 101 #[.pointer (some ⟨b5, 0, none⟩), .pointer (some ⟨b3, 0, none⟩)] (ngA b5) (ngD b3) negS := by
  rintro g us ⟨⟩ ⟨⟩ w M hs hin h
  obtain ⟨a1, c1, a, cc, rfl, _⟩ := rdG_form h
  simp only [negS] at hs
  cases hk : Nat.beq g.kind 10 with
  | true => rw [hk] at hs; cases hs
  | false =>
  have hk := beq_ne hk
  show Calls _ _ #[.agg _, .pointer (some ⟨b5, 0, none⟩), .pointer (some ⟨b3, 0, none⟩)] _ _
  refine enter0 Tryz.func101 rfl Tryz.ntmps101 rfl (by simp) ?_
  obtain ⟨h1, h2, h3⟩ := hin.2.2.2 (dcells b3 0 [.func (.func 78) #[] #[]]) (by simp)
  have H := hin.begin.add (hin.cells h1 h2 h3)
  (repeat (first | refine qq ?_ | (refine qds H ?_; intro H) | (refine qrb H ?_; intro _ w H) | (refine qrs H ?_; intro w H) | (refine qdr H ?_; intro H)))
  refine WO_g rfl rfl (by exact rfl) (S_clo1 _ (by exact rfl) (by exact rfl) (negative1_c g.kind _ hk) ?_)
  rintro _ w ⟨rfl, hm⟩
  have H := H.call hm
  (repeat (first | refine qq ?_ | (refine qds H ?_; intro H) | (refine qrb H ?_; intro _ w H) | (refine qrs H ?_; intro w H) | (refine qdr H ?_; intro H)))
  exact H.outOf (A1 := [_]) (As := ngA b5) (ds := ngD b3) rfl rfl (by simp)
set_option maxRecDepth 100000 in
theorem negative_c {g : G} {us : List Value} {M : Nat → Prop} {w : World} (hs : eachG negS g () = some ()) (hM : ∀ b, M b → b < w.heap.size) (h : rdG M w g us) :
    Calls Tryz.prog 50 #[.agg us.toArray] w (Ret fun v w' => v = .bool false ∧ Mod [] w w') := by
  have hasKind_c : ∀ {w : World} {M : Nat → Prop}, (∀ b, M b → b < w.heap.size) → rdG M w g us → Calls Tryz.prog 77 #[.agg us.toArray, .func (.func 78) #[] #[]] w (Ret fun v w' => v = .bool false ∧ Mod [] w w') := by
    intro w M hM h
    obtain ⟨a1, c1, a, cc, rfl, _⟩ := rdG_form h
    refine enter1 Tryz.func77 rfl Tryz.ntmps77 rfl (by simp) ?_
    have H := (Holds.start w []).arg (L := LG) h
    refine W_rs ?_
    refine qrb H ?_; intro b2 w H
    refine qrb H ?_; intro b3 w H
    (repeat (first | refine qq ?_ | (refine qds H ?_; intro H) | (refine qrb H ?_; intro _ w H) | (refine qrs H ?_; intro w H) | (refine qdr H ?_; intro H)))
    have H := H.frz (xs := [.func (.func 78) #[] #[]]) hM 1 rfl (by simp)
    have H := H.perm (List.Perm.swap _ _ _)
    refine qa2 (hc := eachGoal_c (hasKind1_c _ b3) g hs (H.into (As := ngA _) (ds := ngD b3) (s := ()) (A1 := [_]) rfl hM (by simp)) (H.dat (d := LG.dat M g [.int .i64 (g.kind : Nat), .string g.name, .slice a1 g.terms.length c1, .slice a g.kids.length cc]) (by simp))) (k := ?_)
    rintro _ w hout
    have H := H.step (As := ngA _) (A1 := [_]) rfl hout
    (repeat (first | refine qq ?_ | (refine qds H ?_; intro H) | (refine qrb H ?_; intro _ w H) | (refine qrs H ?_; intro w H) | (refine qdr H ?_; intro H)))
    exact ⟨rfl, H.mod⟩
  obtain ⟨a1, c1, a, cc, rfl, _⟩ := rdG_form h
  refine enter1 Tryz.func50 rfl Tryz.ntmps50 rfl (by simp) ?_
  have H := (Holds.start w []).arg (L := LG) h
  (repeat (first | refine qq ?_ | (refine qds H ?_; intro H) | (refine qrb H ?_; intro _ w H) | (refine qrs H ?_; intro w H) | (refine qdr H ?_; intro H)))
  refine qa2 (hc := hasKind_c (H.wr_lt hM) (H.dat (d := LG.dat M g [.int .i64 (g.kind : Nat), .string g.name, .slice a1 g.terms.length c1, .slice a g.kids.length cc]) (by simp))) (k := ?_)
  rintro _ w ⟨rfl, hm⟩
  have H := H.call hm
  (repeat (first | refine qq ?_ | (refine qds H ?_; intro H) | (refine qrb H ?_; intro _ w H) | (refine qrs H ?_; intro w H) | (refine qdr H ?_; intro H)))
  exact ⟨rfl, H.mod⟩
end Go.Proofs.YtljpfnjpifhdlaaGreatDoor
namespace Go.Proofs.YtljpfnjpifhdlaaGreatDoor
section
open Go.RowKit
def lowB (c : Nat) : Bool := decide (97 ≤ c) && decide (c ≤ 122)
def chB (c : Nat) : Bool := lowB c || (decide (48 ≤ c) && decide (c ≤ 57)) || c == 45
/-- a name: 1 to 12 bytes, a small letter first, then small letters, digits, dashes -/
def nameB (s : ByteArray) : Bool := decide (1 ≤ s.size) && decide (s.size ≤ 12) && lowB (s.data.toList.getD 0 0).toNat && (s.data.toList.drop 1).all fun c => chB c.toNat

set_option maxHeartbeats 1000000 in
set_option maxRecDepth 100000 in
theorem isName_impl (s : ByteArray) (w : World) (hs : s.size ≤ 1000000000000) : Calls Tryz.prog 36 #[.string s] w fun e w' => e = .returned (.bool (nameB s)) ∧ w = w' := by
  by_cases h1 : s.size < 1
  · have e1 : Hid (nameB s = false) := by simp [Hid, nameB]; omega
    go_enter Tryz.func36, Tryz.ntmps36
    go_wp2
    go_ret
    exact ⟨by rw [e1.out]; rfl, rfl⟩
  · by_cases h2 : 12 < s.size
    · have e1 : Hid (nameB s = false) := by simp [Hid, nameB]; omega
      go_enter Tryz.func36, Tryz.ntmps36
      go_wp2
      go_ret
      exact ⟨by rw [e1.out]; rfl, rfl⟩
    · have h0 : 0 < s.size := by omega
      have hg0 : (s.data.toList.getD 0 0) = s[0] := by
        simp [List.getD, h0]; rfl
      by_cases hc : lowB s[0].toNat = true
      · have ⟨hc1, hc2⟩ : 97 ≤ s[0].toNat ∧ s[0].toNat ≤ 122 := by simpa [lowB] using hc
        have hc1' : (97 : Int) ≤ (s[0].toNat : Int) := by omega
        have hc2' : (s[0].toNat : Int) ≤ 122 := by omega
        have HN : Hid (nameB s = (s.data.toList.drop 1).all fun c => chB c.toNat) := by
          simp only [Hid, nameB, hg0, hc]
          simp [show 1 ≤ s.size by omega, show s.size ≤ 12 by omega]
        have d1 : decide ((s.size : Int) < 1) = false := by simp; omega
        have d2 : decide (12 < (s.size : Int)) = false := by simp; omega
        clear hc hc1 hc2 hg0
        go_enter Tryz.func36, Tryz.ntmps36
        go_wp2
        go_loop [3] (fun i => ∃ k : Nat, 1 ≤ k ∧ k ≤ s.size ∧ i = .int .i64 k ∧ Hid (∀ j, 1 ≤ j → j < k → chB (s.data.toList.getD j 0).toNat = true)) (fun i => s.size - (intOf i).toNat)
        case atStart => exact ⟨1, by omega, by omega, rfl, fun j h h' => by omega⟩
        case round =>
          obtain ⟨k, hk1, hk, rfl, HJ⟩ := hrel
          by_cases hlt : k < s.size
          · have hgk : s.data.toList.getD k 0 = s[k] := by simp [List.getD, hlt]; rfl
            have good : chB s[k].toNat = true → Hid (∀ j, 1 ≤ j → j < k + 1 → chB (s.data.toList.getD j 0).toNat = true) := by
              intro hg j h h'
              rcases Nat.lt_or_ge j k with hjk | hjk
              · exact HJ.out j h hjk
              · obtain rfl : j = k := by omega
                rw [hgk]; exact hg
            have GOOD := Lib.hid good
            have bad : chB s[k].toNat = false → Hid (nameB s = false) := by
              intro hb
              show nameB s = false
              rw [HN.out, List.all_eq_false]
              refine ⟨s[k], ?_, by simp [hb]⟩
              rw [← hgk]
              rw [List.mem_drop_iff_getElem]
              refine ⟨k - 1, by simp; omega, ?_⟩
              simp [List.getD, show 1 + (k - 1) = k by omega, hlt]
            have BAD := Lib.hid bad
            clear good bad hgk
            have hcases : (97 ≤ s[k].toNat ∧ s[k].toNat ≤ 122) ∨ (48 ≤ s[k].toNat ∧ s[k].toNat ≤ 57) ∨ s[k].toNat = 45 ∨ 122 < s[k].toNat ∨ (57 < s[k].toNat ∧ s[k].toNat < 97) ∨ (s[k].toNat < 48 ∧ s[k].toNat ≠ 45) := by omega
            rcases hcases with hx | hx | hx | hx | hx | hx
            · have hx1 : (97 : Int) ≤ (s[k].toNat : Int) := by omega
              have hx2 : (s[k].toNat : Int) ≤ 122 := by omega
              have HG := GOOD.out (by simp [chB, lowB, hx])
              clear hx
              go_wp2
              go_round
              case rel => exact ⟨k + 1, by omega, by omega, by go_num, HG⟩
              case measure => simp [intOf]; omega
            · have hx1 : (48 : Int) ≤ (s[k].toNat : Int) := by omega
              have hx2 : (s[k].toNat : Int) ≤ 57 := by omega
              have HG := GOOD.out (by simp [chB, hx])
              clear hx
              go_wp2
              go_round
              case rel => exact ⟨k + 1, by omega, by omega, by go_num, HG⟩
              case measure => simp [intOf]; omega
            · have hx1 : (s[k].toNat : Int) < 48 := by omega
              have hx2 : ((s[k].toNat : Int) == 45) = true := by simp; omega
              have HG := GOOD.out (by simp [chB, hx])
              clear hx
              go_wp2
              go_round
              case rel => exact ⟨k + 1, by omega, by omega, by go_num, HG⟩
              case measure => simp [intOf]; omega
            · have hx1 : (122 : Int) < (s[k].toNat : Int) := by omega
              have d3 : decide ((s[k].toNat : Int) ≤ 122) = false := by simp; omega
              have d4 : decide ((s[k].toNat : Int) ≤ 57) = false := by simp; omega
              have hx2 : ((s[k].toNat : Int) == 45) = false := by simp; omega
              have HB := BAD.out (by simp [chB, lowB]; omega)
              clear hx
              go_wp2
              go_ret
              exact ⟨by rw [HB.out]; rfl, rfl⟩
            · have hx1 : (57 : Int) < (s[k].toNat : Int) := by omega
              have hx3 : (s[k].toNat : Int) < 97 := by omega
              have d4 : decide ((s[k].toNat : Int) ≤ 57) = false := by simp; omega
              have hx2 : ((s[k].toNat : Int) == 45) = false := by simp; omega
              have HB := BAD.out (by simp [chB, lowB]; omega)
              clear hx
              go_wp2
              go_ret
              exact ⟨by rw [HB.out]; rfl, rfl⟩
            · have hx1 : (s[k].toNat : Int) < 48 := by omega
              have hx2 : ((s[k].toNat : Int) == 45) = false := by simp; omega
              have HB := BAD.out (by simp [chB, lowB]; omega)
              clear hx
              go_wp2
              go_ret
              exact ⟨by rw [HB.out]; rfl, rfl⟩
          · obtain rfl : k = s.size := by omega
            have fin : Hid (nameB s = true) := by
              show nameB s = true
              rw [HN.out, List.all_eq_true]
              intro c hm
              obtain ⟨j, hj, rfl⟩ := List.mem_drop_iff_getElem.1 hm
              have hj' : j + 1 < s.data.toList.length := hj
              have hsz : s.data.toList.length = s.size := by simp
              have h3 := HJ.out (1 + j) (by omega) (by omega)
              have h4 : s.data.toList.getD (1 + j) 0 = s.data.toList[1 + j]'(by omega) := by
                simp only [List.getD, List.getElem?_eq_getElem (show 1 + j < s.data.toList.length by omega), Option.getD_some]
              rw [h4] at h3
              simpa [Nat.add_comm] using h3
            go_wp2
            go_ret
            exact ⟨by rw [fin.out]; rfl, rfl⟩
      · have HN : Hid (nameB s = false) := by
          show nameB s = false
          simp only [nameB, hg0]
          simp at hc
          simp [hc]
        have hor : s[0].toNat < 97 ∨ 122 < s[0].toNat := by
          simp [lowB] at hc; omega
        have d1 : decide ((s.size : Int) < 1) = false := by simp; omega
        have d2 : decide (12 < (s.size : Int)) = false := by simp; omega
        clear hg0 hc
        rcases hor with hx | hx
        · have hx1 : (s[0].toNat : Int) < 97 := by omega
          clear hx
          go_enter Tryz.func36, Tryz.ntmps36
          go_wp2
          go_ret
          exact ⟨by rw [HN.out]; rfl, rfl⟩
        · have hx1 : 122 < (s[0].toNat : Int) := by omega
          clear hx
          go_enter Tryz.func36, Tryz.ntmps36
          go_wp2
          go_ret
          exact ⟨by rw [HN.out]; rfl, rfl⟩

end
open Go
theorem callsR {f : FuncId} {args : Array Value} {w : World} {v : Value} (h : Calls Tryz.prog f args w fun e w' => e = .returned v ∧ w = w') : Calls Tryz.prog f args w (Ret fun u w' => u = v ∧ Mod [] w w') := by
  refine h.mono ?_
  rintro e w' ⟨rfl, rfl⟩
  exact ⟨v, rfl, rfl, Mod.refl _ _⟩
theorem IsName_c (s : ByteArray) (w : World) (hs : s.size ≤ 1000000) : Calls Tryz.prog 36 #[.string s] w (Ret fun u w' => u = .bool (nameB s) ∧ Mod [] w w') := callsR (isName_impl s w (by omega))
def relB (s : ByteArray) : Bool := nameB s && !decide (s = ⟨#[116, 114, 117, 101]⟩) && !decide (s = ⟨#[102, 97, 105, 108]⟩) && !decide (s = ⟨#[115, 121, 109, 98, 111, 108]⟩) && !decide (s = ⟨#[110, 117, 109, 98, 101, 114]⟩) && !decide (s = ⟨#[97, 98, 115, 101, 110, 116]⟩) && !decide (s = ⟨#[97, 110, 100]⟩) && !decide (s = ⟨#[111, 114]⟩) && !decide (s = ⟨#[110, 111, 116]⟩) && !decide (s = ⟨#[100, 101, 102, 105, 110, 101]⟩)
set_option maxRecDepth 100000 in
theorem IsRelName_c (s : ByteArray) (w : World) (hs : relB s = true) : Calls Tryz.prog 40 #[.string s] w (Ret fun u w' => u = .bool true ∧ Mod [] w w') := by
  simp only [relB, Bool.and_eq_true, Bool.not_eq_true', decide_eq_false_iff_not] at hs
  obtain ⟨⟨⟨⟨⟨⟨⟨⟨⟨h0, h1⟩, h2⟩, h3⟩, h4⟩, h5⟩, h6⟩, h7⟩, h8⟩, h9⟩ := hs
  have hsz : s.size ≤ 12 := by
    simp only [nameB, Bool.and_eq_true, decide_eq_true_eq] at h0
    exact h0.1.1.2
  refine enter1 Tryz.func40 rfl Tryz.ntmps40 rfl (by simp) ?_
  have H := Holds.start w []
  (repeat (first | refine qq ?_ | (refine qds H ?_; intro H) | (refine qrb H ?_; intro _ w H) | (refine qrs H ?_; intro w H) | (refine qdr H ?_; intro H)))
  refine qa1 (hc := IsName_c s _ (by omega)) (k := ?_)
  rintro _ w ⟨rfl, hm⟩
  have H := H.call hm
  rw [h0]
  (repeat (first | refine qq ?_ | (refine qds H ?_; intro H) | (refine qrb H ?_; intro _ w H) | (refine qrs H ?_; intro w H) | (refine qdr H ?_; intro H)))
  exact ⟨rfl, H.mod⟩
end Go.Proofs.YtljpfnjpifhdlaaGreatDoor
namespace Go.Proofs.YtljpfnjpifhdlaaGreatDoor
open Go
/-- a relation: name, arity, locals, body -/
structure Rl where
  name : ByteArray
  arity : Nat
  locs : Nat
  body : G
def rdR (M : Nat → Prop) (w : World) (x : Rl) (vs : List Value) : Prop := ∃ us, vs = .string x.name :: .int .i64 (x.arity : Nat) :: .int .i64 (x.locs : Nat) :: us ∧ rdG M w x.body us
def LR : Lay Rl where
  sz := 7
  rd := rdR
  len := by rintro M w x vs ⟨us, rfl, h⟩; have : us.length = 4 := LG.len _ _ _ _ h; simp [this]
  one := by
    rintro M w x vs ⟨us, rfl, h⟩ u hu
    simp only [List.mem_cons] at hu
    rcases hu with rfl | rfl | rfl | hu
    · rfl
    · rfl
    · rfl
    · exact LG.one _ _ _ _ h u hu
  keep := by rintro M w w' x vs h ⟨us, rfl, h1⟩; exact ⟨us, rfl, rdG_keep h _ _ h1⟩
  grow := by rintro M M' w x vs h ⟨us, rfl, h1⟩; exact ⟨us, rfl, rdG_grow h _ _ h1⟩
theorem rdR_form {M : Nat → Prop} {w : World} {x : Rl} {vs : List Value} (h : LR.rd M w x vs) : ∃ a1 c1 a c, vs = [.string x.name, .int .i64 (x.arity : Nat), .int .i64 (x.locs : Nat), .int .i64 (x.body.kind : Nat), .string x.body.name, .slice a1 x.body.terms.length c1, .slice a x.body.kids.length c] ∧
    rdG M w x.body [.int .i64 (x.body.kind : Nat), .string x.body.name, .slice a1 x.body.terms.length c1, .slice a x.body.kids.length c] := by
  obtain ⟨us, rfl, h1⟩ := h
  obtain ⟨a1, c1, a, c, rfl, h2⟩ := rdG_form h1
  exact ⟨a1, c1, a, c, rfl, h1⟩
def relAt : List Rl → ByteArray → Nat → Option Nat
  | [], _, _ => none
  | x :: xs, n, i => bif decide (x.name = n) then some i else relAt xs n (i + 1)
theorem relAt_lt {n : ByteArray} : ∀ {l : List Rl} {i k : Nat}, relAt l n i = some k → k < i + l.length
  | [], _, _, h => by cases h
  | x :: xs, i, k, h => by
    simp only [relAt] at h
    cases hd : decide (x.name = n) with
    | true => rw [hd] at h; cases h; simp
    | false =>
      rw [hd] at h
      have := relAt_lt (l := xs) h
      simp only [List.length_cons]
      omega
set_option maxRecDepth 100000 in
theorem relation_c {P : List Rl} {n : ByteArray} {i : Nat} {a : Option Addr} {c : Nat} {M : Nat → Prop} {w : World} (hs : relAt P n 0 = some i) (hl : P.length ≤ 1000) (h : (LSl LR).rd M w P [.slice a P.length c]) :
    Calls Tryz.prog 41 #[.agg #[.slice a P.length c], .string n] w (Ret fun v w' => v = .int .i64 (i : Nat) ∧ Mod [] w w') := by
  refine enter1 Tryz.func41 rfl Tryz.ntmps41 rfl (by simp) ?_
  have H := (Holds.start w []).arg (L := LSl LR) h
  refine W_rs ?_
  refine qrb H ?_; intro b2 w H
  (repeat (first | refine qq ?_ | (refine qds H ?_; intro H) | (refine qrb H ?_; intro _ w H) | (refine qrs H ?_; intro w H) | (refine qdr H ?_; intro H)))
  refine W_loop (fun k' f w' => ∃ k gg, k' = P.length - k ∧ k ≤ P.length ∧ f = sl gg [(8, .slice a P.length c), (9, .int .i64 P.length), (10, .int .i64 k), (1, .string n)] ∧ relAt (P.drop k) n k = some i ∧ Holds _ [] [] [(LSl LR).dat M P [.slice a P.length c]] w') P.length
    ⟨0, _, rfl, Nat.zero_le _, sl_back ⟨rfl, rfl, rfl, rfl, trivial⟩, hs, H.sub (List.nil_sublist _) (by simp)⟩ ?_
  clear H hs
  rintro m0 f w ⟨k, gg, rfl, hk, rfl, hs, H⟩
  by_cases hlt : k < P.length
  · obtain ⟨x, hx⟩ : ∃ x, P[k]? = some x := ⟨_, List.getElem?_eq_getElem hlt⟩
    obtain ⟨b, o, vs, rfl, _, _, hr, H⟩ := H.elem (L := LR) (M := M) (l := P) (a := a) (n := P.length) (c := c) (by simp) k hx
    obtain ⟨a1, c1, a2, c2, rfl, _⟩ := rdR_form hr
    rw [drop_at hx] at hs
    simp only [relAt] at hs
    cases hd : decide (x.name = n) with
    | true =>
      rw [hd] at hs
      cases hs
      have hn : x.name = n := by simpa using hd
      (repeat (first | refine qq ?_ | (refine qds H ?_; intro H) | (refine qrb H ?_; intro _ w H) | (refine qrs H ?_; intro w H) | (refine qdr H ?_; intro H)))
      exact ⟨rfl, H.mod⟩
    | false =>
      rw [hd] at hs
      have hn : x.name ≠ n := by simpa using hd
      (repeat (first | refine qq ?_ | (refine qds H ?_; intro H) | (refine qrb H ?_; intro _ w H) | (refine qrs H ?_; intro w H) | (refine qdr H ?_; intro H)))
      exact ⟨P.length - (k + 1), by omega, k + 1, _, rfl, by omega, sl_back ⟨rfl, rfl, rfl, rfl, trivial⟩, hs, H.sub (List.nil_sublist _) (by simp)⟩
  · rw [List.drop_eq_nil_of_le (by omega)] at hs
    cases hs

/-! every call has a relation of its arity -/
def callS (P : List Rl) : G → Unit → Option Unit := fun g _ => bif Nat.beq g.kind 9 then (match relAt P g.name 0 with
    | none => none
    | some k => match P[k]? with
      | none => none
      | some x => bif Nat.beq x.arity g.terms.length then some () else none) else some ()
abbrev cfA (b5 : Nat) (_ : Unit) : List Atom := [box b5 [.bool true] 4]
abbrev cfD (P : List Rl) (a : Option Addr) (c : Nat) (b2 : Nat) (_ : Unit) : List Dat := [dcells b2 0 [.slice a P.length c], (LSl LR).dat (fun _ => False) P [.slice a P.length c]]
set_option maxRecDepth 100000 in
theorem callsFit1_c (P : List Rl) (hl : P.length ≤ 1000) (a : Option Addr) (c b2 b5 : Nat) : StepG 75 #[.pointer (some ⟨b2, 0, none⟩), .pointer (some ⟨b5, 0, none⟩)] (cfA b5) (cfD P a c b2) (callS P) := by
  rintro g us ⟨⟩ ⟨⟩ w M hs hin h
  obtain ⟨a1, c1, a3, cc, rfl, _⟩ := rdG_form h
  simp only [callS] at hs
  show Calls _ _ #[.agg _, .pointer (some ⟨b2, 0, none⟩), .pointer (some ⟨b5, 0, none⟩)] _ _
  refine enter0 Tryz.func75 rfl Tryz.ntmps75 rfl (by simp) ?_
  obtain ⟨h1, h2, h3⟩ := hin.2.2.2 (dcells b2 0 [.slice a P.length c]) (by simp)
  have h4 := hin.2.2.2 ((LSl LR).dat (fun _ => False) P [.slice a P.length c]) (by simp)
  have H := (hin.begin.add (hin.cells h1 h2 h3)).add (d := (LSl LR).dat M P [.slice a P.length c]) ((LSl LR).grow _ _ _ _ _ (fun b _ hb => .inr (hb.elim id (hin.2.1 b))) h4)
  cases hk : Nat.beq g.kind 9 with
  | false =>
    have hk := beq_ne hk
    (repeat (first | refine qq ?_ | (refine qds H ?_; intro H) | (refine qrb H ?_; intro _ w H) | (refine qrs H ?_; intro w H) | (refine qdr H ?_; intro H)))
    exact H.outOf (A1 := [_]) (As := cfA b5) (ds := cfD P a c b2) rfl rfl (by simp)
  | true =>
    rw [hk] at hs
    simp only [cond_true] at hs
    have hk := beq_of hk
    cases hr : relAt P g.name 0 with
    | none => rw [hr] at hs; cases hs
    | some k =>
    rw [hr] at hs
    simp only [] at hs
    cases hx : P[k]? with
    | none => rw [hx] at hs; cases hs
    | some x =>
    rw [hx] at hs
    simp only [] at hs
    cases ha : Nat.beq x.arity g.terms.length with
    | false => rw [ha] at hs; cases hs
    | true =>
    have ha := beq_of ha
    have hkl := relAt_lt hr
    (repeat (first | refine qq ?_ | (refine qds H ?_; intro H) | (refine qrb H ?_; intro _ w H) | (refine qrs H ?_; intro w H) | (refine qdr H ?_; intro H)))
    refine qa2 (hc := relation_c (M := H.wr M) hr hl (H.dat (d := (LSl LR).dat M P [.slice a P.length c]) (by simp))) (k := ?_)
    rintro _ w ⟨rfl, hm⟩
    have H := H.call hm
    obtain ⟨b, o, vs, rfl, _, _, hrr, H⟩ := H.elem (L := LR) (M := M) (l := P) (a := a) (n := P.length) (c := c) (by simp) k hx
    obtain ⟨a5, c5, a6, c6, rfl, _⟩ := rdR_form hrr
    (repeat (first | refine qq ?_ | (refine qds H ?_; intro H) | (refine qrb H ?_; intro _ w H) | (refine qrs H ?_; intro w H) | (refine qdr H ?_; intro H)))
    refine WD_any 14 [[], [0], [0, 1], [0, 1, 2], [0, 1, 2, 3], [0, 1, 2], [0, 1, 2, 3, 4, 5], [0, 1, 2, 3, 4, 5, 6], [0, 1, 2, 3, 4, 5, 6, 7], [0, 1, 2], [0, 1, 2, 9], [0, 1, 2, 9, 10], [0, 1, 2, 3, 4, 5, 6, 7, 8, 9, 10, 11], [0, 1, 2, 3, 4, 5, 6, 7, 8, 9, 10, 11, 12]] [] (by kernel_rfl) ?_ ?_ _ (by exact rfl) ?_
    · exact trivial
    · refine ⟨?_, ?_, ?_, ?_, ?_, ?_, ?_, ?_, ?_, ?_, ?_, ?_, ?_, ?_, trivial⟩
      iterate 14 (· exact qob)
    intro w hm
    have H := H.call hm
    iterate 3 refine qwr ?_
    iterate 10 (first | refine qwn ?_ | refine qwg ?_)
    refine qwr ?_
    refine WR_nil ?_
    refine WD_end (by decide) ?_
    (repeat (first | refine qq ?_ | (refine qds H ?_; intro H) | (refine qrb H ?_; intro _ w H) | (refine qrs H ?_; intro w H) | (refine qdr H ?_; intro H)))
    exact H.outOf (M := M) (A1 := [_]) (As := cfA b5) (ds := cfD P (some ⟨b, o, none⟩) c b2) rfl rfl (by simp)

set_option maxRecDepth 100000 in
theorem callsFit_c {P : List Rl} {g : G} {a : Option Addr} {c : Nat} {us : List Value} {M : Nat → Prop} {w : World} (hs : eachG (callS P) g () = some ()) (hl : P.length ≤ 1000) (hM : ∀ b, M b → b < w.heap.size) (hP : (LSl LR).rd M w P [.slice a P.length c]) (h : rdG M w g us) :
    Calls Tryz.prog 44 #[.agg #[.slice a P.length c], .agg us.toArray] w (Ret fun v w' => v = .bool true ∧ Mod [] w w') := by
  obtain ⟨a1, c1, a3, cc, rfl, _⟩ := rdG_form h
  refine enter1 Tryz.func44 rfl Tryz.ntmps44 rfl (by simp) ?_
  have H := ((Holds.start w []).arg (L := LG) h).arg (L := LSl LR) hP
  refine W_rs ?_
  refine qrb H ?_; intro b2 w H
  refine qrb H ?_; intro b3 w H
  (repeat (first | refine qq ?_ | (refine qds H ?_; intro H) | (refine qrb H ?_; intro _ w H) | (refine qrs H ?_; intro w H) | (refine qdr H ?_; intro H)))
  have H := H.frz (xs := [.slice a P.length c]) hM 2 rfl (by simp)
  have H := H.perm (List.Perm.swap _ _ _)
  have H := H.add (d := Dat.wide M ((LSl LR).dat (fun _ => False) P [.slice a P.length c])) ((LSl LR).grow _ _ _ _ _ (fun b _ hb => by
    rcases hb with hb | hb | hb
    · exact hb.elim
    · exact .inl hb
    · exact .inr hb) (H.dat (d := (LSl LR).dat M P [.slice a P.length c]) (by simp)))
  refine qa2 (hc := eachGoal_c (callsFit1_c P hl a c b2 _) g hs (H.into (As := cfA _) (ds := cfD P a c b2) (s := ()) (A1 := [_]) rfl hM (by simp)) (H.dat (d := LG.dat M g [.int .i64 (g.kind : Nat), .string g.name, .slice a1 g.terms.length c1, .slice a3 g.kids.length cc]) (by simp))) (k := ?_)
  rintro _ w hout
  have H := H.step (As := cfA _) (A1 := [_]) rfl hout
  (repeat (first | refine qq ?_ | (refine qds H ?_; intro H) | (refine qrb H ?_; intro _ w H) | (refine qrs H ?_; intro w H) | (refine qdr H ?_; intro H)))
  exact ⟨rfl, H.mod⟩

/-! goals that are well formed (those reached here) -/
theorem S_mapIns {w0 w : World} {S : List Nat} {A : List Atom} {D : List Dat} (H : Holds w0 S A D w) (i : Nat) {P : Program} {r : Operand → Value} {d : Option Tmp} {ty : TypeId} {pos : String} {aft : Array Edge} {g : Option (Nat × Bool)} {K : Value → World → Prop} {t k e : TypeId} [G : MapF P t k e] [I : IntF P k] (x y z : Operand) {b n : Nat} {gm : Nat → Option Value} {v : Value} (hi : A[i]? = some (mp b gm)) (hx : r x = .map (some b)) (hy : r y = .int .i64 n) (hz : r z = v)
    (kk : ∀ w', Holds w0 S (A.set i (mp b (put gm n v))) D w' → K undef w') : OS P ⟨d, .insert t x y z, ty, pos, aft, g⟩ r w K := S_mapSet (d := d) (ty := ty) (pos := pos) (aft := aft) (g := g) H i x y z hi hx hy hz kk
mutual
def G.size : G → Nat | .mk _ _ _ gs => 1 + gsizes gs
def gsizes : List G → Nat | [] => 0 | g :: gs => g.size + gsizes gs
end
def shape2 (k : Nat) (n : ByteArray) (ts : List T) (gs : List G) : Bool := (Nat.beq k 2 || Nat.beq k 3) && decide (n = ⟨#[]⟩) && Nat.beq ts.length 2 && Nat.beq gs.length 0
def shape7 (k : Nat) (n : ByteArray) (ts : List T) (gs : List G) : Bool := (Nat.beq k 7 || Nat.beq k 8) && decide (n = ⟨#[]⟩) && Nat.beq ts.length 0 && Nat.ble gs.length 8
def shape9 (k : Nat) (n : ByteArray) (ts : List T) (gs : List G) : Bool := Nat.beq k 9 && relB n && Nat.ble ts.length 4 && Nat.beq gs.length 0
mutual
def G.fit : G → Bool | .mk k n ts gs => ts.all T.ok && (shape2 k n ts gs || shape7 k n ts gs || shape9 k n ts gs) && gfits gs
def gfits : List G → Bool | [] => true | g :: gs => g.fit && gfits gs
end
theorem G.size_eq (g : G) : g.size = 1 + gsizes g.kids := by obtain ⟨k, n, ts, gs⟩ := g; simp only [G.size, G.kids]
theorem G.fit_eq (g : G) : g.fit = (g.terms.all T.ok && (shape2 g.kind g.name g.terms g.kids || shape7 g.kind g.name g.terms g.kids || shape9 g.kind g.name g.terms g.kids) && gfits g.kids) := by obtain ⟨k, n, ts, gs⟩ := g; simp only [G.fit, G.kids, G.terms, G.kind, G.name]
theorem gfits_mem : ∀ {gs : List G} {x : G}, gfits gs = true → x ∈ gs → x.fit = true
  | [], _, _, h => by cases h
  | g :: gs, x, h, hx => by
    simp only [gfits, Bool.and_eq_true] at h
    rcases List.mem_cons.1 hx with rfl | hx
    · exact h.1
    · exact gfits_mem h.2 hx
theorem gsizes_drop {gs : List G} {k : Nat} {x : G} (hx : gs[k]? = some x) : gsizes (gs.drop k) = x.size + gsizes (gs.drop (k + 1)) := by rw [drop_at hx, gsizes]
/-- what goalNodes does at g -/
abbrev GoalNC (g : G) : Prop := ∀ {us : List Value} {M : Nat → Prop} {w : World} {room : Int}, (∀ b, M b → b < w.heap.size) → rdG M w g us → g.fit = true → (g.size : Int) ≤ room → room ≤ 1000 →
    Calls Tryz.prog 42 #[.agg us.toArray, .int .i64 room] w (Ret fun v w' => v = .int .i64 g.size ∧ Mod [] w w')
set_option maxHeartbeats 1000000 in
set_option maxRecDepth 100000 in
theorem goalNodes_at (g : G) (ih : ∀ x ∈ g.kids, GoalNC x) : GoalNC g := by
  intro us M w room hM h hf hs hr
  obtain ⟨a1, c1, a, cc, rfl, hts, hgs⟩ := rdG_parts h
  rw [G.fit_eq, Bool.and_eq_true, Bool.and_eq_true] at hf
  obtain ⟨⟨hok, hsh⟩, hkf⟩ := hf
  rw [G.size_eq] at hs ⊢
  have hts8 : g.terms.length ≤ 8 := by
    simp only [shape2, shape7, shape9, Bool.or_eq_true, Bool.and_eq_true] at hsh
    rcases hsh with (⟨⟨⟨_, _⟩, h1⟩, _⟩ | ⟨⟨⟨_, _⟩, h1⟩, _⟩) | ⟨⟨⟨_, _⟩, h1⟩, _⟩
    · rw [beq_of h1]; omega
    · rw [beq_of h1]; omega
    · have := Nat.le_of_ble_eq_true h1; omega
  have hkids8 : g.kids.length ≤ 8 := by
    simp only [shape2, shape7, shape9, Bool.or_eq_true, Bool.and_eq_true] at hsh
    rcases hsh with (⟨⟨⟨_, _⟩, _⟩, h1⟩ | ⟨⟨⟨_, _⟩, _⟩, h1⟩) | ⟨⟨⟨_, _⟩, _⟩, h1⟩
    · rw [beq_of h1]; omega
    · exact Nat.le_of_ble_eq_true h1
    · rw [beq_of h1]; omega
  refine enter1 Tryz.func42 rfl Tryz.ntmps42 rfl (by simp) ?_
  have H := (((Holds.start w []).arg (L := LG) h).arg (L := LSl LT) hts).arg (L := LSl LG) hgs
  refine W_rs ?_
  refine qrb H ?_; intro b2 w H
  (repeat (first | refine qq ?_ | (refine qds H ?_; intro H) | (refine qrb H ?_; intro _ w H) | (refine qrs H ?_; intro w H) | (refine qdr H ?_; intro H)))
  refine WO_g rfl rfl (by exact rfl) (S_call1 _ (by exact rfl) (by exact rfl) (termsOk_c (H.dat (d := (LSl LT).dat M g.terms [.slice a1 g.terms.length c1]) (by simp)) hok (by omega)) ?_)
  rintro _ w ⟨rfl, hm⟩
  have H := H.call hm
  (repeat (first | refine qq ?_ | (refine qds H ?_; intro H) | (refine qrb H ?_; intro _ w H) | (refine qrs H ?_; intro w H) | (refine qdr H ?_; intro H)))
  refine WO_s rfl (S_makeMap H ?_); intro bm w H
  refine WO_n (S_mapIns H 0 _ _ _ (n := 2) (v := .int .i64 2) (by exact rfl) (by exact rfl) (by exact rfl) (by exact rfl) ?_); intro w H
  refine WO_n (S_mapIns H 0 _ _ _ (n := 3) (v := .int .i64 2) (by exact rfl) (by exact rfl) (by exact rfl) (by exact rfl) ?_); intro w H
  refine WO_n (S_mapIns H 0 _ _ _ (n := 4) (v := .int .i64 1) (by exact rfl) (by exact rfl) (by exact rfl) (by exact rfl) ?_); intro w H
  refine WO_n (S_mapIns H 0 _ _ _ (n := 5) (v := .int .i64 1) (by exact rfl) (by exact rfl) (by exact rfl) (by exact rfl) ?_); intro w H
  refine WO_n (S_mapIns H 0 _ _ _ (n := 6) (v := .int .i64 2) (by exact rfl) (by exact rfl) (by exact rfl) (by exact rfl) ?_); intro w H
  have key : (g.kind = 2 ∨ g.kind = 3) ∧ g.name = ⟨#[]⟩ ∧ g.terms.length = 2 ∧ g.kids.length = 0 ∨ (g.kind = 7 ∨ g.kind = 8) ∧ g.name = ⟨#[]⟩ ∧ g.terms.length = 0 ∨ g.kind = 9 ∧ relB g.name = true ∧ g.terms.length ≤ 4 ∧ g.kids.length = 0 := by
    simp only [shape2, shape7, shape9, Bool.or_eq_true, Bool.and_eq_true, decide_eq_true_eq] at hsh
    rcases hsh with (⟨⟨⟨h1, h2⟩, h3⟩, h4⟩ | ⟨⟨⟨h1, h2⟩, h3⟩, h4⟩) | ⟨⟨⟨h1, h2⟩, h3⟩, h4⟩
    · exact .inl ⟨h1.imp beq_of beq_of, h2, beq_of h3, beq_of h4⟩
    · exact .inr (.inl ⟨h1.imp beq_of beq_of, h2, beq_of h3⟩)
    · exact .inr (.inr ⟨beq_of h1, h2, Nat.le_of_ble_eq_true h3, beq_of h4⟩)
  have leaf : g.kids.length = 0 → gsizes g.kids = 0 := fun h => by rw [List.eq_nil_of_length_eq_zero h]; simp only [gsizes]
  rcases key with ⟨hk, hn, ht, hz⟩ | ⟨hk, hn, ht⟩ | ⟨hk, hn, ht, hz⟩
  · have hv : put (put (put (put (put (fun _ => none) 2 (.int .i64 2)) 3 (.int .i64 2)) 4 (.int .i64 1)) 5 (.int .i64 1)) 6 (.int .i64 2) g.kind = some (.int .i64 2) := by
      rcases hk with hk | hk <;> rw [hk] <;> rfl
    rw [leaf hz]
    rcases hk with hk | hk
    · (repeat (first | refine qq ?_ | (refine qds H ?_; intro H) | (refine qrb H ?_; intro _ w H) | (refine qrs H ?_; intro w H) | (refine qdr H ?_; intro H)))
      exact ⟨rfl, H.mod⟩
    · (repeat (first | refine qq ?_ | (refine qds H ?_; intro H) | (refine qrb H ?_; intro _ w H) | (refine qrs H ?_; intro w H) | (refine qdr H ?_; intro H)))
      exact ⟨rfl, H.mod⟩
  · have hv : put (put (put (put (put (fun _ => none) 2 (.int .i64 2)) 3 (.int .i64 2)) 4 (.int .i64 1)) 5 (.int .i64 1)) 6 (.int .i64 2) g.kind = none := by
      rcases hk with hk | hk <;> rw [hk] <;> rfl
    rcases hk with hk | hk
    all_goals
      (repeat (first | refine qq ?_ | (refine qds H ?_; intro H) | (refine qrb H ?_; intro _ w H) | (refine qrs H ?_; intro w H) | (refine qdr H ?_; intro H)))
      refine W_loop (fun k' f w' => ∃ k n gg, k' = g.kids.length - k ∧ k ≤ g.kids.length ∧ f = sl gg [(124, .slice a g.kids.length cc), (125, .int .i64 g.kids.length), (126, .int .i64 k), (6, .int .i64 (n : Nat)), (1, .int .i64 room)] ∧ n + gsizes (g.kids.drop k) = 1 + gsizes g.kids ∧ 1 ≤ n ∧ Holds _ [] [] [(LSl LG).dat M g.kids [.slice a g.kids.length cc]] w') g.kids.length
        ⟨0, 1, _, rfl, Nat.zero_le _, sl_back ⟨rfl, rfl, rfl, rfl, rfl, trivial⟩, rfl, Nat.le_refl _, H.sub (List.nil_sublist _) (by simp)⟩ ?_
      clear H
      rintro m0 f w ⟨k, n, gg, rfl, hk', rfl, hn1, hn2, H⟩
      by_cases hlt : k < g.kids.length
      · obtain ⟨x, hx⟩ : ∃ x, g.kids[k]? = some x := ⟨_, List.getElem?_eq_getElem hlt⟩
        have hxm := List.mem_of_getElem? hx
        rw [gsizes_drop hx] at hn1
        obtain ⟨b, o, vs, rfl, _, _, hr', H⟩ := H.elem (L := LG) (M := M) (l := g.kids) (a := a) (n := g.kids.length) (c := cc) (by simp) k hx
        obtain ⟨a3, c3, a4, c4, rfl, _⟩ := rdG_form hr'
        (repeat (first | refine qq ?_ | (refine qds H ?_; intro H) | (refine qrb H ?_; intro _ w H) | (refine qrs H ?_; intro w H) | (refine qdr H ?_; intro H)))
        refine qa2 (hc := ih x hxm (H.wr_lt hM) (H.dat (d := LG.dat M x [.int .i64 (x.kind : Nat), .string x.name, .slice a3 x.terms.length c3, .slice a4 x.kids.length c4]) (by simp)) (gfits_mem hkf hxm) (by omega) (by omega)) (k := ?_)
        rintro _ w ⟨rfl, hm⟩
        have H := H.call hm
        (repeat (first | refine qq ?_ | (refine qds H ?_; intro H) | (refine qrb H ?_; intro _ w H) | (refine qrs H ?_; intro w H) | (refine qdr H ?_; intro H)))
        exact ⟨g.kids.length - (k + 1), by omega, k + 1, n + x.size, _, rfl, by omega, sl_back ⟨rfl, rfl, rfl, rfl, rfl, trivial⟩, by omega, by omega, H.sub (List.nil_sublist _) (by simp)⟩
      · rw [List.drop_eq_nil_of_le (by omega)] at hn1
        simp only [gsizes] at hn1
        (repeat (first | refine qq ?_ | (refine qds H ?_; intro H) | (refine qrb H ?_; intro _ w H) | (refine qrs H ?_; intro w H) | (refine qdr H ?_; intro H)))
        refine ⟨?_, H.mod⟩
        show Value.int .i64 (n : Nat) = _
        rw [← hn1]
        rfl
  · have hv : put (put (put (put (put (fun _ => none) 2 (.int .i64 2)) 3 (.int .i64 2)) 4 (.int .i64 1)) 5 (.int .i64 1)) 6 (.int .i64 2) g.kind = none := by rw [hk]; rfl
    rw [leaf hz]
    (repeat (first | refine qq ?_ | (refine qds H ?_; intro H) | (refine qrb H ?_; intro _ w H) | (refine qrs H ?_; intro w H) | (refine qdr H ?_; intro H)))
    refine qa1 (hc := IsRelName_c _ _ hn) (k := ?_)
    rintro _ w ⟨rfl, hm⟩
    have H := H.call hm
    (repeat (first | refine qq ?_ | (refine qds H ?_; intro H) | (refine qrb H ?_; intro _ w H) | (refine qrs H ?_; intro w H) | (refine qdr H ?_; intro H)))
    exact ⟨rfl, H.mod⟩
theorem goalNodes_c : ∀ (g : G), GoalNC g := by
  have main : ∀ (n : Nat) (g : G), SizeOf.sizeOf g < n → GoalNC g := by
    intro n
    induction n with
    | zero => intro g h; omega
    | succ n ih => intro g h; exact goalNodes_at g fun x hx => ih x (by have := G.kids_lt hx; omega)
  exact fun g => main _ g (Nat.lt_succ_self _)
theorem G.size_pos (g : G) : 0 < g.size := by rw [G.size_eq]; omega
def goalOkV (g : G) : Bool := g.fit && Nat.ble g.size 80
set_option maxRecDepth 100000 in
theorem GoalOk_c {g : G} {us : List Value} {M : Nat → Prop} {w : World} (hs : goalOkV g = true) (hM : ∀ b, M b → b < w.heap.size) (h : rdG M w g us) :
    Calls Tryz.prog 48 #[.agg us.toArray] w (Ret fun v w' => v = .bool true ∧ Mod [] w w') := by
  obtain ⟨a1, c1, a, cc, rfl, _⟩ := rdG_form h
  simp only [goalOkV, Bool.and_eq_true] at hs
  have h80 := Nat.le_of_ble_eq_true hs.2
  have hpos := g.size_pos
  refine enter1 Tryz.func48 rfl Tryz.ntmps48 rfl (by simp) ?_
  have H := (Holds.start w []).arg (L := LG) h
  refine W_rs ?_
  refine qrb H ?_; intro b2 w H
  (repeat (first | refine qq ?_ | (refine qds H ?_; intro H) | (refine qrb H ?_; intro _ w H) | (refine qrs H ?_; intro w H) | (refine qdr H ?_; intro H)))
  refine qa2 (hc := goalNodes_c g (H.wr_lt hM) (H.dat (d := LG.dat M g [.int .i64 (g.kind : Nat), .string g.name, .slice a1 g.terms.length c1, .slice a g.kids.length cc]) (by simp)) hs.1 (by omega) (by omega)) (k := ?_)
  rintro _ w ⟨rfl, hm⟩
  have H := H.call hm
  (repeat (first | refine qq ?_ | (refine qds H ?_; intro H) | (refine qrb H ?_; intro _ w H) | (refine qrs H ?_; intro w H) | (refine qdr H ?_; intro H)))
  exact ⟨rfl, H.mod⟩

/-! ProgramOk -/
theorem rdR_body {M : Nat → Prop} {w : World} {x : Rl} {a b c : Value} {us : List Value} (h : LR.rd M w x (a :: b :: c :: us)) : rdG M w x.body us := by
  obtain ⟨us', he, h1⟩ := h
  simp only [List.cons.injEq] at he
  obtain ⟨_, _, _, rfl⟩ := he
  exact h1
def relOkV (P : List Rl) (i : Nat) (x : Rl) : Bool := relB x.name && decide (relAt P x.name 0 = some i) && Nat.ble x.arity 4 && Nat.ble x.locs 8 && x.body.fit && Nat.ble x.body.size 60 && varsBelowV x.body (x.arity + x.locs) && decide (eachG (callS P) x.body () = some ())
def progGo (P : List Rl) : List Rl → Nat → Bool
  | [], _ => true
  | x :: xs, i => relOkV P i x && progGo P xs (i + 1)
def progOkV (P : List Rl) : Bool := Nat.ble P.length 8 && progGo P P 0
set_option maxHeartbeats 1000000 in
set_option maxRecDepth 100000 in
theorem ProgramOk_c {P : List Rl} {a : Option Addr} {c : Nat} {M : Nat → Prop} {w : World} (hs : progOkV P = true) (hM : ∀ b, M b → b < w.heap.size) (h : (LSl LR).rd M w P [.slice a P.length c]) :
    Calls Tryz.prog 17 #[.agg #[.slice a P.length c]] w (Ret fun v w' => v = .bool true ∧ Mod [] w w') := by
  simp only [progOkV, Bool.and_eq_true] at hs
  obtain ⟨hl, hs⟩ := hs
  have hl := Nat.le_of_ble_eq_true hl
  refine enter1 Tryz.func17 rfl Tryz.ntmps17 rfl (by simp) ?_
  have H := (Holds.start w []).arg (L := LSl LR) h
  refine W_rs ?_
  refine qrb H ?_; intro b2 w H
  (repeat (first | refine qq ?_ | (refine qds H ?_; intro H) | (refine qrb H ?_; intro _ w H) | (refine qrs H ?_; intro w H) | (refine qdr H ?_; intro H)))
  refine W_loop (fun k' f w' => ∃ k gg, k' = P.length - k ∧ k ≤ P.length ∧ f = sl gg [(10, .slice a P.length c), (11, .int .i64 P.length), (12, .int .i64 k), (1, .pointer (some ⟨b2, 0, none⟩))] ∧ progGo P (P.drop k) k = true ∧ Holds _ [] [box b2 [.slice a P.length c] 25] [(LSl LR).dat M P [.slice a P.length c]] w') P.length
    ⟨0, _, rfl, Nat.zero_le _, sl_back ⟨rfl, rfl, rfl, rfl, trivial⟩, hs, H.sub (.refl _) (by simp)⟩ ?_
  clear H hs
  rintro m0 f w ⟨k, gg, rfl, hk, rfl, hs, H⟩
  by_cases hlt : k < P.length
  · obtain ⟨x, hx⟩ : ∃ x, P[k]? = some x := ⟨_, List.getElem?_eq_getElem hlt⟩
    rw [drop_at hx] at hs
    simp only [progGo, relOkV, Bool.and_eq_true, decide_eq_true_eq] at hs
    obtain ⟨⟨⟨⟨⟨⟨⟨⟨h1, h2⟩, h3⟩, h4⟩, h5⟩, h6⟩, h7⟩, h8⟩, hs⟩ := hs
    have h3 := Nat.le_of_ble_eq_true h3
    have h4 := Nat.le_of_ble_eq_true h4
    have h6 := Nat.le_of_ble_eq_true h6
    obtain ⟨b, o, vs, rfl, _, _, hr, H⟩ := H.elem (L := LR) (M := M) (l := P) (a := a) (n := P.length) (c := c) (by simp) k hx
    obtain ⟨a1, c1, a2, c2, rfl, _⟩ := rdR_form hr
    have H := H.add (d := LG.dat M x.body [.int .i64 (x.body.kind : Nat), .string x.body.name, .slice a1 x.body.terms.length c1, .slice a2 x.body.kids.length c2]) (rdR_body (H.get 1 rfl))
    (repeat (first | refine qq ?_ | (refine qds H ?_; intro H) | (refine qrb H ?_; intro _ w H) | (refine qrs H ?_; intro w H) | (refine qdr H ?_; intro H)))
    refine qa1 (hc := IsRelName_c _ _ h1) (k := ?_)
    rintro _ w ⟨rfl, hm⟩
    have H := H.call hm
    (repeat (first | refine qq ?_ | (refine qds H ?_; intro H) | (refine qrb H ?_; intro _ w H) | (refine qrs H ?_; intro w H) | (refine qdr H ?_; intro H)))
    refine WO_g rfl rfl (by exact rfl) (S_call2 _ _ (by exact rfl) (by exact rfl) (by exact rfl) (relation_c (M := H.wr M) h2 (by omega) (H.dat (d := (LSl LR).dat M P [.slice (some ⟨b, o, none⟩) P.length c]) (by simp))) ?_)
    rintro _ w ⟨rfl, hm⟩
    have H := H.call hm
    (repeat (first | refine qq ?_ | (refine qds H ?_; intro H) | (refine qrb H ?_; intro _ w H) | (refine qrs H ?_; intro w H) | (refine qdr H ?_; intro H)))
    refine qa2 (hc := goalNodes_c x.body (H.wr_lt hM) (H.dat (d := LG.dat M x.body [.int .i64 (x.body.kind : Nat), .string x.body.name, .slice a1 x.body.terms.length c1, .slice a2 x.body.kids.length c2]) (by simp)) h5 (by omega) (by omega)) (k := ?_)
    rintro _ w ⟨rfl, hm⟩
    have H := H.call hm
    (repeat (first | refine qq ?_ | (refine qds H ?_; intro H) | (refine qrb H ?_; intro _ w H) | (refine qrs H ?_; intro w H) | (refine qdr H ?_; intro H)))
    refine WO_g rfl rfl (by exact rfl) (S_call2 _ _ (by exact rfl) (by exact rfl) (by exact rfl) (varsBelow_c h7 (H.wr_lt hM) (H.dat (d := LG.dat M x.body [.int .i64 (x.body.kind : Nat), .string x.body.name, .slice a1 x.body.terms.length c1, .slice a2 x.body.kids.length c2]) (by simp))) ?_)
    rintro _ w ⟨rfl, hm⟩
    have H := H.call hm
    (repeat (first | refine qq ?_ | (refine qds H ?_; intro H) | (refine qrb H ?_; intro _ w H) | (refine qrs H ?_; intro w H) | (refine qdr H ?_; intro H)))
    refine WO_g rfl rfl (by exact rfl) (S_call2 _ _ (by exact rfl) (by exact rfl) (by exact rfl) (callsFit_c h8 (by omega) (H.wr_lt hM) (H.dat (d := (LSl LR).dat M P [.slice (some ⟨b, o, none⟩) P.length c]) (by simp)) (H.dat (d := LG.dat M x.body [.int .i64 (x.body.kind : Nat), .string x.body.name, .slice a1 x.body.terms.length c1, .slice a2 x.body.kids.length c2]) (by simp))) ?_)
    rintro _ w ⟨rfl, hm⟩
    have H := H.call hm
    (repeat (first | refine qq ?_ | (refine qds H ?_; intro H) | (refine qrb H ?_; intro _ w H) | (refine qrs H ?_; intro w H) | (refine qdr H ?_; intro H)))
    exact ⟨P.length - (k + 1), by omega, k + 1, _, rfl, by omega, sl_back ⟨rfl, rfl, rfl, rfl, trivial⟩, hs, H.sub (.cons _ (.refl _)) (by simp)⟩
  · (repeat (first | refine qq ?_ | (refine qds H ?_; intro H) | (refine qrb H ?_; intro _ w H) | (refine qrs H ?_; intro w H) | (refine qdr H ?_; intro H)))
    exact ⟨rfl, H.mod⟩
end Go.Proofs.YtljpfnjpifhdlaaGreatDoor
