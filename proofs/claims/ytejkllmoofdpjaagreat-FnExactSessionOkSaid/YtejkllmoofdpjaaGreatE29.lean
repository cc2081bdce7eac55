/- Parts of the proof: V52. -/
import Derived.Test.YtejkllmoofdpjaaGreatE26
namespace Go.Proofs.YtejkllmoofdpjaaGreat
open Go
set_option linter.all false
set_option maxRecDepth 100000
set_option maxHeartbeats 4000000
noncomputable section
open Classical
theorem before_of {out : List Sb} {e : Sb} (hs : Strict cSb out) {k : Nat} (h : k = 0 ∨ ∃ y, out[k - 1]? = some y ∧ cSb y e = -1) : ∀ z ∈ out.take k, cSb e z = 1 := fun z hz => by
 obtain ⟨i, hi⟩ := List.getElem?_of_mem hz
 rw [List.getElem?_take] at hi
 split at hi
 ·rename_i hik
  rcases h with h | ⟨y, hy, hye⟩
  ·omega
  ·have hze : cSb z e = -1 := by
    rcases Nat.lt_or_ge i (k - 1) with h1 | h1
    ·exact cSb_tot.trans _ _ _ (asc_get hs hi hy h1) hye
    ·obtain rfl : i = k - 1 := by omega
     rw [hy] at hi; cases hi; exact hye
   rw [cSb_tot.anti, hze]; rfl
 ·cases hi
abbrev pM (l : List Sb) : Sb → Bool := fun e => decide (∀ d ∈ l, d = e ∨ ¬ moreG d e)
abbrev oS (l : List Sb) (j : Nat) : List Sb := sortU cSb ((l.take j).filter (pM l))
theorem oS_yes {l : List Sb} {j : Nat} {e : Sb} (hj : l[j]? = some e) (h : pM l e = true) : oS l (j + 1) = insU cSb e (oS l j) := by
 unfold oS
 rw [List.take_add_one, hj, List.filter_append, ← sortU_snoc cSb_tot]
 simp [List.filter, h]
theorem oS_no {l : List Sb} {j : Nat} {e : Sb} (hj : l[j]? = some e) (h : ¬ pM l e = true) : oS l (j + 1) = oS l j := by
 unfold oS
 rw [List.take_add_one, hj, List.filter_append]
 simp [List.filter, h]
theorem oS_len {l : List Sb} : ∀ j, (oS l j).length ≤ j
 | 0 => by simp [oS, sortU]
 | j + 1 => by
  have := oS_len (l := l) j
  cases hj : l[j]? with
  | none => unfold oS at this ⊢; rw [List.take_add_one, hj]; simp at this ⊢; omega
  | some e =>
   by_cases h : pM l e = true
   ·rw [oS_yes hj h]
    have := len_insU (c := cSb) (x := e) (l := oS l j)
    omega
   ·rw [oS_no hj h]; omega
theorem oS_mem {l : List Sb} {j : Nat} {e : Sb} (h : e ∈ oS l j) : e ∈ l := List.mem_of_mem_take (List.mem_filter.1 ((mem_sortU cSb_tot).1 h)).1
instance minimal_s : Con1 Tryz.prog 246 (List Sb) vSs (fun l => vSs (minF l)) (fun l => (∀ d ∈ l, Sub d) ∧ l.length ≤ 2000000) := ⟨fun l ⟨hs, hl⟩ => by
 have hlen : (l.map eS).length = l.length := by simp
 have hlg : Lng l.length := by unfold Lng; omega
 have hll : ∀ d ∈ l, d.length ≤ 1000000 := fun d hd => by have := (hs d hd).vok.len; omega
 refine pu Tryz.func246 rfl Tryz.ntmps246 rfl rfl fun C => ?_
 (repeat' first | (refine kk ?_; intros) | refine kfk ?_ ?_ <;> intro hb | fail)
 refine kfor (ι := List Sb) l (fun j o => [(0, vSs l), (3, vSs o), (12, vSs l)]) (fun j o => []) (fun j o => o = oS l j) [] (by simp [oS, sortU]) ?_ ?_
 ·rintro j e o hj hdd hjl ho
  have hrow : (l.map eS)[j]? = some (eS e) := by simp [hj]
  have he := hs e (List.mem_of_getElem? hj)
  have hel := hll e (List.mem_of_getElem? hj)
  (repeat' first | (refine kk ?_; intros) | refine kfk ?_ ?_ <;> intro hb | fail)
  refine kfor (ι := Bool) l (fun i k => [(0, vSs l), (3, vSs o), (5, vS e), (6, bv k), (12, vSs l), (13, nv l.length), (14, nv j), (18, vSs l)]) (fun _ _ => []) (fun i k => k = true ↔ ∀ d ∈ l.take i, d = e ∨ ¬ moreG d e) true (by simp) ?_ ?_
  ·rintro i d k hi hid hil hk
   have hrow3 : (l.map eS)[i]? = some (eS d) := by simp [hi]
   have hd := hs d (List.mem_of_getElem? hi)
   have hdl : d.length ≤ 1000000 ∧ e.length ≤ 1000000 := ⟨hll d (List.mem_of_getElem? hi), hel⟩
   have hde : Sub d ∧ Sub e := ⟨hd, he⟩
   have ht1 : ∀ {q : Sb → Prop}, (∀ x ∈ l.take (i + 1), q x) ↔ (∀ x ∈ l.take i, q x) ∧ q d := fun {q} => by
    rw [List.take_add_one, hi]
    simp only [Option.toList_some, List.mem_append, List.mem_singleton]
    exact ⟨fun h => ⟨fun x hx => h x (.inl hx), h d (.inr rfl)⟩, fun h x hx => hx.elim (h.1 x) fun e => e ▸ h.2⟩
   cases k with
   | false =>
    have hk' : ¬ ∀ d ∈ l.take i, d = e ∨ ¬ moreG d e := fun h => by have := hk.2 h; cases this
    (repeat' first | (refine kk ?_; intros) | refine kfk ?_ ?_ <;> intro hb | fail)
    exact ⟨false, by rw [ht1]; simp only [Bool.false_eq_true, false_iff]; exact fun h => hk' h.1, kwk⟩
   | true =>
    have hk' := hk.1 rfl
    by_cases hq : d = e
    ·have hz : cSb d e = 0 := (cSb_tot.eq _ _).2 hq
     (repeat' first | (refine kk ?_; intros) | refine kfk ?_ ?_ <;> intro hb | fail)
     exact ⟨true, by rw [ht1]; simp only [true_iff]; exact ⟨hk', .inl hq⟩, kwk⟩
    ·have hz : ¬ cSb d e = 0 := fun h => hq ((cSb_tot.eq _ _).1 h)
     (repeat' first | (refine kk ?_; intros) | refine kfk ?_ ?_ <;> intro hb | fail)
     exact ⟨!decide (moreG d e), by rw [ht1]; simp only [Bool.not_eq_true', decide_eq_false_iff_not]; exact ⟨fun h => ⟨hk', .inr h⟩, fun h => h.2.resolve_left hq⟩, kwk⟩
  ·rintro k hk
   rw [List.take_length] at hk
   have hkp : k = pM l e := by
    cases hpm : pM l e with
    | true => exact hk.2 (of_decide_eq_true hpm)
    | false =>
     cases k with
     | false => rfl
     | true => exact absurd (decide_eq_true (hk.1 rfl)) (by rw [show decide (∀ d ∈ l, d = e ∨ ¬ moreG d e) = pM l e from rfl, hpm]; simp)
   subst ho
   have hos : Strict cSb (oS l j) := strict_sortU cSb_tot
   have hol := oS_len (l := l) j
   have hoin : ∀ y ∈ oS l j, y.length ≤ 1000000 := fun y hy => hll y (oS_mem hy)
   generalize hO : oS l j = o at hos hol hoin ⊢
   have holen : (o.map eS).length = o.length := by simp
   (repeat' first | (refine kk ?_; intros) | refine kfk ?_ ?_ <;> intro hb | fail)
   refine kloop (ι := Nat) (fun q => q) (fun q => [(0, vSs l), (3, vSs o), (5, vS e), (6, bv k), (9, nv q), (12, vSs l), (13, nv l.length), (14, nv j)]) (fun _ => []) (fun q => q ≤ o.length ∧ ∀ y ∈ o.drop q, cSb y e ≠ -1) o.length ⟨Nat.le_refl _, by simp⟩ ?_
   rintro q ⟨h1, h2⟩
   have hfin : ∀ o', o' = (if k = true then insU cSb e o else o) → o' = oS l (j + 1) := fun o' ho' => by
    rw [ho']
    by_cases hkt : k = true
    ·rw [if_pos hkt, oS_yes hj (by rw [← hkp]; exact hkt), hO]
    ·rw [if_neg hkt, oS_no hj (by rw [← hkp]; exact hkt), hO]
   have key : (∀ z ∈ o.take q, cSb e z = 1) → (∀ z, o[q]? = some z → cSb e z = -1) → (((o.take q).map eS ++ [eS e]) ++ (o.drop q).map eS) = (insU cSb e o).map eS := fun g0 g1 => by
    rw [insU_put h1 g0 g1]; simp
   have hcs : (0 < q ∧ ∃ y, o[q - 1]? = some y ∧ ¬ cSb y e = -1) ∨ (q = 0 ∨ (0 < q ∧ ∃ y, o[q - 1]? = some y ∧ cSb y e = -1)) := by
    by_cases h0 : q = 0
    ·exact .inr (.inl h0)
    ·obtain ⟨y, hy⟩ : ∃ y, o[q - 1]? = some y := ⟨o[q - 1]'(by omega), List.getElem?_eq_getElem (by omega)⟩
     by_cases hye : cSb y e = -1
     ·exact .inr (.inr ⟨by omega, y, hy, hye⟩)
     ·exact .inl ⟨by omega, y, hy, hye⟩
   rcases hcs with ⟨h0, y, hy, hye⟩ | hst
   ·have hrow4 : (o.map eS)[q - 1]? = some (eS y) := by simp [hy]
    have hyl := hoin y (List.mem_of_getElem? hy)
    have hge : 0 ≤ cSb y e := by rcases cSb_tot.val y e with h | h | h <;> omega
    (repeat' first | (refine kk ?_; intros) | refine kfk ?_ ?_ <;> intro hb | fail)
    refine ⟨q - 1, by omega, ⟨by omega, fun z hz => ?_⟩, kwk⟩
    rw [List.drop_eq_getElem_cons (by omega), show q - 1 + 1 = q by omega] at hz
    rcases List.mem_cons.1 hz with rfl | hz
    ·rw [(List.getElem?_eq_some_iff.1 hy).2]; exact hye
    ·exact h2 z hz
   ·have hbf := before_of hos (k := q) (e := e) (hst.imp id fun ⟨_, y, hy, hye⟩ => ⟨y, hy, hye⟩)
    rcases hst with h0 | ⟨h0, y, hy, hye⟩
    rotate_left
    have hrow4 : (o.map eS)[q - 1]? = some (eS y) := by simp [hy]
    have hyl := hoin y (List.mem_of_getElem? hy)
    have hge : ¬ 0 ≤ cSb y e := by omega
    rotate_left
    all_goals
     cases k with
     | false =>
      (repeat' first | (refine kk ?_; intros) | refine kfk ?_ ?_ <;> intro hb | fail)
      exact ⟨o, hfin o (by simp), kwk⟩
     | true =>
      by_cases hql : q < o.length
      ·obtain ⟨z, hz⟩ : ∃ z, o[q]? = some z := ⟨o[q], List.getElem?_eq_getElem hql⟩
       have hrow5 : (o.map eS)[q]? = some (eS z) := by simp [hz]
       have hzl := hoin z (List.mem_of_getElem? hz)
       have hzm : z ∈ o.drop q := by rw [List.drop_eq_getElem_cons hql]; exact List.mem_cons.2 (.inl (List.getElem?_eq_some_iff.1 hz).2.symm)
       have hzn := h2 z hzm
       by_cases hz0 : cSb z e = 0
       ·(repeat' first | (refine kk ?_; intros) | refine kfk ?_ ?_ <;> intro hb | fail)
        exact ⟨o, hfin o (by rw [if_pos rfl, insU_same hbf hz (by rw [cSb_tot.anti, hz0]; rfl)]), kwk⟩
       ·have hz1 : cSb e z = -1 := by
         rw [cSb_tot.anti]
         rcases cSb_tot.val z e with h | h | h <;> omega
        (repeat' first | (refine kkSz [] [3] ?_; intros) | refine kfS [] [3] ?_ ?_ <;> intro hb | fail)
        refine kfO 0 83 ?_
        (repeat' first | (refine kk ?_; intros) | refine kfk ?_ ?_ <;> intro hb | fail)
        refine ⟨insU cSb e o, hfin _ (by rw [if_pos rfl]), kwk (h := ⟨.refl _, .refl _, .refl _, le_eq ?_, .refl _, trivial⟩)⟩
        show AV.one (.s 1 _) = AV.one (.s 1 _)
        rw [← key hbf fun y hy' => by rw [hz] at hy'; cases hy'; exact hz1]
        simp
      ·obtain rfl : q = o.length := by omega
       (repeat' first | (refine kkSz [] [3] ?_; intros) | refine kfS [] [3] ?_ ?_ <;> intro hb | fail)
       refine kfO 0 83 ?_
       (repeat' first | (refine kk ?_; intros) | refine kfk ?_ ?_ <;> intro hb | fail)
       refine ⟨insU cSb e o, hfin _ (by rw [if_pos rfl]), kwk (h := ⟨.refl _, .refl _, .refl _, le_eq ?_, .refl _, trivial⟩)⟩
       show AV.one (.s 1 _) = AV.one (.s 1 _)
       rw [← key hbf fun y hy' => by simp at hy']
       have e1 : List.take o.length (List.map eS o) = List.map eS o := List.take_of_length_le (by simp)
       have e2 : List.drop o.length (List.map eS o) = [] := List.drop_of_length_le (by simp)
       simp [e1, e2]
 ·rintro o ho
  have hm : o = minF l := by rw [ho]; unfold oS; rw [List.take_length]; rfl
  subst hm
  (repeat' first | (refine kk ?_; intros) | refine kfk ?_ ?_ <;> intro hb | fail)
  exact kret rfl⟩
end
end Go.Proofs.YtejkllmoofdpjaaGreat
