/- Parts of the proof: VF VT VM. -/
import Derived.Test.YtbabchapkhlenaaGreatZ5
import Derived.Maps.RangeRun
namespace Go.Proofs.YtbabchapkhlenaaGreat
open Go
set_option linter.all false
set_option maxRecDepth 100000
set_option maxHeartbeats 4000000
def obv : Option Bool → AV
 | some b => .one (.v (.bool b))
 | none => .tup []
theorem yl_obv {M : Nat → Prop} {w : World} {ops : Array Oper} {g : FF} {j t : Nat} {c : Option Bool} (h : (ops[j]?).bind (·.dst) = some t) (h4 : (obv c).rd M w (g t)) : yl ops g j = c := by
 cases c with
 | some c => simp [yl, h, h4.1]
 | none => have := undef_eq h4; simp [yl, h, this, undef]
def RStep (P : Program) (ops : Array Oper) (f : AF) (A : List Atm) (o : Oper) (v : AV) : Prop :=
 match o.guard with
 | none => PuO P f A o v
 | some (j, b) => ∃ t c, (ops[j]?).bind (·.dst) = some t ∧ f t = obv c ∧ if c = some b then PuO P f A o v else v = .tup []
def AR (P : Program) (ops : Array Oper) (A : List Atm) (K : AF → Prop) : List Nat → AF → Prop
 | [], f => K f
 | i :: rest, f => ∃ v, (∀ o, ops[i]? = some o → RStep P ops f A o v) ∧ AR P ops A K rest (auo f (dsts ops i) v)
def ach (ops : Array Oper) (val : Nat → AV) : List Nat → AF → AF
 | [], f => f
 | i :: rest, f => ach ops val rest (auo f (dsts ops i) (val i))
def AD (P : Program) (n : Nat) (C : Cx) (ops : Array Oper) (K : AF → List Atm → Prop) (k : Nat) (f : AF) (A : List Atm) : Prop :=
 ∀ g w, Inv C f A g w → WD P n ops (fun g w => ∃ f A, K f A ∧ Inv C f A g w) k g w
section
variable {P : Program} {ops : Array Oper} {A : List Atm} {val : Nat → AV}
theorem ach_app : ∀ (l l' : List Nat) (f : AF), ach ops val (l ++ l') f = ach ops val l' (ach ops val l f)
 | [], _, _ => rfl
 | _ :: r, l', f => by simp only [List.cons_append, ach]; exact ach_app r l' _
theorem ach_congr {val' : Nat → AV} : ∀ (l : List Nat) (f : AF), (∀ i ∈ l, val i = val' i) → ach ops val l f = ach ops val' l f
 | [], _, _ => rfl
 | i :: r, f, h => by simp only [ach]; rw [h i (by simp)]; exact ach_congr r _ fun j hj => h j (by simp [hj])
theorem auo_ne {f : AF} {d : Option Nat} {v : AV} {t : Nat} (h : d ≠ some t) : auo f d v t = f t := by
 cases d with
 | none => rfl
 | some d =>
  have : t ≠ d := fun e => h (by rw [e])
  have hb : Nat.beq t d = false := by cases hb : Nat.beq t d with | false => rfl | true => exact absurd (Nat.eq_of_beq_eq_true hb) this
  simp [auo, au, hb]
theorem au_same {f : AF} {t : Nat} {v : AV} : au f t v t = v := by simp [au]
theorem ach_old (t : Nat) : ∀ (l : List Nat) (f : AF), (∀ i ∈ l, dsts ops i ≠ some t) → ach ops val l f t = f t
 | [], _, _ => rfl
 | i :: r, f, h => by
  simp only [ach]
  rw [ach_old t r _ fun j hj => h j (by simp [hj]), auo_ne (h i (by simp))]
theorem ach_at (t j : Nat) : ∀ (l : List Nat) (f : AF), j ∈ l → dsts ops j = some t → (∀ i ∈ l, dsts ops i = some t → i = j) → ach ops val l f t = val j
 | i :: r, f, hj, hd, hu => by
  simp only [ach]
  by_cases hr : j ∈ r
  ·exact ach_at t j r _ hr hd fun i hi => hu i (by simp [hi])
  ·have hij : i = j := (List.mem_cons.1 hj).elim Eq.symm fun h => absurd h hr
   subst hij
   rw [ach_old t r _ fun x hx e => hr (hu x (by simp [hx]) e ▸ hx), hd]
   exact au_same
theorem AR_val {K : AF → Prop} : ∀ (n i : Nat) (f : AF), AR P ops A K (List.range' i n) f → ∃ val : Nat → AV, (∀ j o, i ≤ j → j < i + n → ops[j]? = some o → RStep P ops (ach ops val (List.range' i (j - i)) f) A o (val j)) ∧ K (ach ops val (List.range' i n) f)
 | 0, i, f, h => ⟨fun _ => .junk, fun j o h1 h2 => by omega, h⟩
 | n + 1, i, f, ⟨v, h1, h2⟩ => by
  obtain ⟨val, h3, h4⟩ := AR_val n (i + 1) _ h2
  have hc : ∀ (m : Nat) (f : AF), ach ops (fun j => if j = i then v else val j) (List.range' (i + 1) m) f = ach ops val (List.range' (i + 1) m) f := fun m f =>
   ach_congr _ _ fun x hx => by have := (List.mem_range'_1.1 hx).1; rw [if_neg (by omega)]
  refine ⟨fun j => if j = i then v else val j, fun j o hij hjn ho => ?_, ?_⟩
  ·by_cases hji : j = i
   ·subst hji
    simp only [Nat.sub_self, List.range'_zero, ach, if_true]
    exact h1 o ho
   ·show RStep P ops _ A o (if j = i then v else val j)
    rw [if_neg hji, show j - i = (j - (i + 1)) + 1 by omega, List.range'_succ]
    simp only [ach, if_true]
    rw [hc]
    exact h3 j o (by omega) (by omega) ho
  ·rw [List.range'_succ]
   simp only [ach, if_true]
   rw [hc]
   exact h4
theorem eva_congr {f f' : AF} {o : Oper} (h : ∀ t ∈ o.looksAt ops, f t = f' t) : ∀ x ∈ o.op.operands.toList, eva f x = eva f' x := fun x hx => by
 cases x with
 | tmp t => exact h t (List.mem_append_left _ (List.mem_filterMap.2 ⟨.tmp t, hx, rfl⟩))
 | const v => rfl
 | global g => rfl
 | func g => rfl
theorem PuO.congr {f f' : AF} {o : Oper} {v : AV} (h : ∀ t ∈ o.looksAt ops, f t = f' t) (hp : PuO P f A o v) : PuO P f' A o v := fun M w r h1 h2 => hp M w r h1 fun x hx => by rw [eva_congr h x hx]; exact h2 x hx
theorem RStep.congr {f f' : AF} {o : Oper} {v : AV} (h : ∀ t ∈ o.looksAt ops, f t = f' t) (hp : RStep P ops f A o v) : RStep P ops f' A o v := by
 unfold RStep at *
 cases hg : o.guard with
 | none => rw [hg] at hp; exact PuO.congr h hp
 | some gw =>
  obtain ⟨j, b⟩ := gw
  rw [hg] at hp
  obtain ⟨t, c, h1, h2, h3⟩ := hp
  refine ⟨t, c, h1, by rw [← h t (by simp [Oper.looksAt, hg, h1])]; exact h2, ?_⟩
  split
  ·rename_i hc; rw [if_pos hc] at h3; exact PuO.congr h h3
  ·rename_i hc; rw [if_neg hc] at h3; exact h3
section par
variable {n k m : Nat} {f : AF} {M : Nat → Prop}
theorem ach_agree (F : Facts ops n k m) {i : Nat} (hki : k ≤ i) (him : i < m) (p : Nat → Bool) (hp : ∀ j, p j = true → k ≤ j ∧ j < i) (hin : ∀ j, k ≤ j → j ∈ dirs ops i → p j = true) {o : Oper} (ho : ops[i]? = some o) :
 ∀ t ∈ o.looksAt ops, ach ops val (List.range' k (i - k)) f t = ach ops val ((List.range i).filter p) f t := by
 intro t ht
 by_cases hex : ∃ j, k ≤ j ∧ j < i ∧ dsts ops j = some t
 ·obtain ⟨j, hkj, hji, hd⟩ := hex
  have hdir := F.dir i j t hki him hkj (by omega) (by simpa [looks, ho] using ht) hd
  have un : ∀ x, k ≤ x → x < i → dsts ops x = some t → x = j := fun x hkx hxi hx => Classical.byContradiction fun hne => F.one x j hkx (by omega) hkj (by omega) hne (by rw [hx, hd])
  rw [ach_at t j _ _ (List.mem_range'_1.2 ⟨hkj, by omega⟩) hd (fun x hx => un x (List.mem_range'_1.1 hx).1 (by have := (List.mem_range'_1.1 hx).2; omega)),
   ach_at t j _ _ (List.mem_filter.2 ⟨List.mem_range.2 hji, hin j hkj hdir⟩) hd (fun x hx => un x (hp x (List.mem_filter.1 hx).2).1 (hp x (List.mem_filter.1 hx).2).2)]
 ·rw [ach_old t _ _ fun x hx e => hex ⟨x, (List.mem_range'_1.1 hx).1, by have := (List.mem_range'_1.1 hx).2; omega, e⟩,
   ach_old t _ _ fun x hx e => hex ⟨x, (hp x (List.mem_filter.1 hx).2).1, (hp x (List.mem_filter.1 hx).2).2, e⟩]
def ldV (M : Nat → Prop) (val : Nat → AV) (k m : Nat) : Nat → Option (Value → World → Prop) := fun i => if k ≤ i ∧ i < m then some fun u w => (val i).rd M w u else none
theorem WR_ach {w : World} (F : Facts ops n k m) (hv : ∀ j o, k ≤ j → j < m → ops[j]? = some o → RStep P ops (ach ops val (List.range' k (j - k)) f) A o (val j)) (p : Nat → Bool) (hpk : ∀ j, p j = true → k ≤ j ∧ j < m)
 (hcl : ∀ j, p j = true → ∀ x ∈ dirs ops j, k ≤ x → p x = true) : ∀ (x : Nat) (K : FF → World → Prop) (g : FF), (∀ t, (f t).rd M w (g t)) → (∀ g', (∀ t, (ach ops val ((List.range x).filter p) f t).rd M w (g' t)) → K g' w) →
   WR P ops (ldV M val k m) K w ((List.range x).filter p) g
 | 0, K, g, hg, h => h g hg
 | x + 1, K, g, hg, h => by
  rw [List.range_succ, List.filter_append] at h ⊢
  cases hpx : p x with
  | false =>
   simp only [List.filter_cons, hpx, List.filter_nil, List.append_nil, Bool.false_eq_true, if_false] at h ⊢
   exact WR_ach F hv p hpk hcl x K g hg h
  | true =>
   simp only [List.filter_cons, hpx, List.filter_nil, if_true] at h ⊢
   have happ : ∀ (l1 l2 : List Nat) (g : FF), WR P ops (ldV M val k m) (fun g w => WR P ops (ldV M val k m) K w l2 g) w l1 g → WR P ops (ldV M val k m) K w (l1 ++ l2) g := by
    intro l1
    induction l1 with
    | nil => exact fun _ _ h => h
    | cons i r ih => exact fun l2 g h o v ho hv => ih l2 _ (h o v ho hv)
   refine happ _ _ _ (WR_ach F hv p hpk hcl x _ g hg fun g' hg' => ?_)
   intro o v ho hok
   refine h _ fun t => ?_
   rw [ach_app]
   simp only [ach]
   obtain ⟨hkx, hxm⟩ := hpk x hpx
   have hd : dsts ops x = o.dst := by simp [dsts, ho]
   have hag := ach_agree (val := val) (f := f) F hkx hxm (fun j => decide (j < x) && p j) (fun j hj => by simp only [Bool.and_eq_true, decide_eq_true_eq] at hj; exact ⟨(hpk j hj.2).1, hj.1⟩)
    (fun j hkj hj => by simp only [Bool.and_eq_true, decide_eq_true_eq]; exact ⟨F.back x j (Nat.lt_of_lt_of_le hxm F.le) hj, hcl x hpx j hj hkj⟩) ho
   rw [show (List.range x).filter (fun j => decide (j < x) && p j) = (List.range x).filter p from List.filter_congr fun j hj => by simp [List.mem_range.1 hj]] at hag
   have hs := RStep.congr hag (hv x o hkx hxm ho)
   have hval : (val x).rd M w v := by
    unfold okd at hok
    have hl : ldV M val k m x = some fun u w => (val x).rd M w u := by simp [ldV, hkx, hxm]
    unfold RStep at hs
    cases hg0 : o.guard with
    | none =>
     rw [if_pos (by simp [Region.wanted, hg0])] at hok
     rw [hl] at hok; exact hok
    | some gw =>
     obtain ⟨j, b⟩ := gw
     rw [hg0] at hs
     obtain ⟨t', c, h1, h2, h3⟩ := hs
     have h4 := hg' t'
     rw [h2] at h4
     have hy : yl ops g' j = c := yl_obv h1 h4
     by_cases hcb : c = some b
     ·rw [if_pos (by simp [Region.wanted, hg0, hy, hcb])] at hok
      rw [hl] at hok; exact hok
     ·rw [if_neg (by simp [Region.wanted, hg0, hy, hcb])] at hok
      rw [if_neg hcb] at h3
      rw [h3, hok]; exact undef_rd
   rw [hd]
   exact auo_rd hg' hval o.dst t
theorem RStep.pu {M : Nat → Prop} {w : World} {f' : AF} {o : Oper} {v : AV} {g' : FF} (hs : RStep P ops f' A o v) (hg' : ∀ t, (f' t).rd M w (g' t)) (hw : Region.wanted o (yl ops g') = true) : PuO P f' A o v := by
 unfold RStep at hs
 cases hg0 : o.guard with
 | none => rw [hg0] at hs; exact hs
 | some gw =>
  obtain ⟨j, b⟩ := gw
  rw [hg0] at hs
  obtain ⟨t', c, h1, h2, h3⟩ := hs
  have h4 := hg' t'
  rw [h2] at h4
  have hy : yl ops g' j = c := yl_obv h1 h4
  by_cases hcb : c = some b
  ·rw [if_pos hcb] at h3; exact h3
  ·rw [show Region.wanted o (yl ops g') = false by simp [Region.wanted, hg0, hy, hcb]] at hw; cases hw
theorem pre_eq (ops : Array Oper) (k m : Nat) (n : Nat) (h : parChk ops n k m ((span k m).map (preL ops k m)) = true) : Facts ops n k m := (facts_of h).1
theorem AD_par {C : Cx} {K : AF → List Atm → Prop} (m : Nat) (chk : parChk ops n k m ((span k m).map (preL ops k m)) = true) (h : AR P ops A (fun f => AD P n C ops K m f A) (List.range' k (m - k)) f) : AD P n C ops K k f A := by
 intro g w hi
 have F := pre_eq ops k m n chk
 obtain ⟨val, hv, hK⟩ := AR_val _ _ _ h
 have hv' : ∀ j o, k ≤ j → j < m → ops[j]? = some o → RStep P ops (ach ops val (List.range' k (j - k)) f) A o (val j) := fun j o h1 h2 h3 => hv j o h1 (by omega) h3
 have hspan : ∀ i, i < m - k → (span k m)[i]? = some (k + i) := by
  have h1 : span k m = List.range' k (m - k) := by
   have e : m = k + (m - k) := by have := F.km; omega
   rw [span, e, List.range_eq_range', ← List.range'_append_1, List.filter_append, List.filter_eq_nil_iff.2 (fun x hx => by
    have := List.mem_range'_1.1 hx; simp; omega), List.filter_eq_self.2 (fun x hx => by have := List.mem_range'_1.1 hx; simp; omega)]
   simp
  intro i hi
  rw [h1, List.getElem?_range' hi]; simp
 have hsp : span k m = (List.range m).filter fun j => decide (k ≤ j) := rfl
 have hspr : span k m = List.range' k (m - k) := List.ext_getElem? fun i => by
  by_cases hi : i < m - k
  ·rw [hspan i hi, List.getElem?_range' hi]; simp
  ·have hl : (span k m).length = m - k := by
    have e : m = k + (m - k) := by have := F.km; omega
    rw [hsp, e, List.range_eq_range', ← List.range'_append_1, List.filter_append, List.filter_eq_nil_iff.2 (fun x hx => by
     have := List.mem_range'_1.1 hx; simp; omega), List.filter_eq_self.2 (fun x hx => by have := List.mem_range'_1.1 hx; simp; omega)]
    simp
   rw [List.getElem?_eq_none (by omega), List.getElem?_eq_none (by simp; omega)]
 have hfr : ∀ w', Mod [] w w' → ∀ t, (f t).rd (MO C.M A) w' (g t) := fun w' hm t => AV.keep (fun b hb _ => hm.block b hb (by simp)) (hi.fr t)
 refine WD_par (ldV (MO C.M A) val k m) k m _ chk (fun i p hl v w1 w2 hp hm => ?_) (fun i l hl w' hm => ?_) (fun w' hm => ?_)
 ·unfold ldV at hl
  split at hl
  ·cases hl; exact AV.keep (fun b hb _ => hm.block b hb (by simp)) hp
  ·cases hl
 ·rw [List.getElem?_map] at hl
  obtain ⟨j, hj, rfl⟩ := Option.map_eq_some_iff.1 hl
  have him : i < m - k := by
   have := (List.getElem?_eq_some_iff.1 hj).1
   rw [hspr] at this; simpa using this
  rw [hspan i him] at hj
  cases hj
  have hpre : preL ops k m (k + i) = (List.range (k + i)).filter fun j => decide (k ≤ j) && decide (j < m) && (clo ops (k + i)).contains j := rfl
  have hp : ∀ j, (decide (k ≤ j) && decide (j < m) && (clo ops (k + i)).contains j) = true → k ≤ j ∧ j < m := fun j hj => by
   simp only [Bool.and_eq_true, decide_eq_true_eq] at hj; exact hj.1
  have hi0 : k + i < ops.size := by have := F.le; omega
  -- whatever comes ahead of it is below it
  have hclo : ∀ j ∈ clo ops (k + i), j < k + i := by
   refine bfs_all (p := fun j => j < k + i) (fun a ha b hb => ?_) _ _ fun a ha => F.back _ _ hi0 ha
   have := F.back a b (by omega) hb; omega
  rw [hpre]
  have hcl : ∀ j, (decide (j < k + i) && (decide (k ≤ j) && decide (j < m) && (clo ops (k + i)).contains j)) = true → ∀ x ∈ dirs ops j, k ≤ x → (decide (x < k + i) && (decide (k ≤ x) && decide (x < m) && (clo ops (k + i)).contains x)) = true := by
   intro j hj x hx hkx
   simp only [Bool.and_eq_true, decide_eq_true_eq] at hj
   have h1 := F.clos (k + i) j x (by omega) (by omega) (by rw [hpre]; exact List.mem_filter.2 ⟨List.mem_range.2 hj.1, by simpa using hj.2⟩) hx
   have h2 := h1.resolve_left (by omega)
   rw [hpre] at h2
   have h3 := List.mem_filter.1 h2
   simp only [Bool.and_eq_true, decide_eq_true_eq]
   exact ⟨List.mem_range.1 h3.1, by simpa using h3.2⟩
  rw [show ((List.range (k + i)).filter fun j => decide (k ≤ j) && decide (j < m) && (clo ops (k + i)).contains j) = (List.range (k + i)).filter fun j => decide (j < k + i) && (decide (k ≤ j) && decide (j < m) && (clo ops (k + i)).contains j) from List.filter_congr fun j hj => by simp [List.mem_range.1 hj]]
  refine WR_ach F hv' _ (fun j hj => by simp only [Bool.and_eq_true, decide_eq_true_eq] at hj; exact hj.2.1) hcl _ _ g (hfr w' hm) fun g' hg' => ?_
  intro o ho hw
  have hl2 : ldV (MO C.M A) val k m (k + i) = some fun u w => (val (k + i)).rd (MO C.M A) w u := by simp [ldV]; omega
  rw [hl2]
  have hag := ach_agree (val := val) (f := f) F (i := k + i) (by omega) (by omega) (fun j => decide (j < k + i) && (decide (k ≤ j) && decide (j < m) && (clo ops (k + i)).contains j)) (fun j hj => by simp only [Bool.and_eq_true, decide_eq_true_eq] at hj; exact ⟨hj.2.1.1, hj.1⟩)
   (fun j hkj hj => by
     have sub : ∀ (y : Nat) (l : List Nat), j ∈ l → j ∈ bfs ops y l := by
      intro y
      induction y with
      | zero => exact fun l h => h
      | succ y ih => exact fun l h => ih _ (List.mem_eraseDups.2 (List.mem_append.2 (.inl h)))
     have := F.back _ _ hi0 hj
     simp only [Bool.and_eq_true, decide_eq_true_eq, List.contains_iff_mem]
     exact ⟨this, ⟨hkj, by omega⟩, sub _ _ hj⟩) ho
  have hs := RStep.congr hag (hv' (k + i) o (by omega) (by omega) ho)
  exact (hs.pu hg' hw) C.M w' (ev g') (hi.st.pre.mod hm) fun x _ => eva_rd hg' x
 ·have he : span k m = (List.range m).filter fun j => decide (k ≤ j) && decide (j < m) := List.filter_congr fun j hj => by simp [List.mem_range.1 hj]
  rw [he]
  refine WR_ach F hv' _ (fun j hj => by simpa using hj) (fun j hj x hx hkx => ?_) m _ g (hfr w' hm) fun g' hg' => ?_
  ·simp only [Bool.and_eq_true, decide_eq_true_eq] at hj ⊢
   have := F.back j x (by have := F.le; omega) hx
   exact ⟨hkx, by omega⟩
  ·rw [← he, hspr] at hg'
   exact hK g' w' ⟨hi.st.trans (.pure hi.st.pre hm), hg'⟩
end par
section tail
variable {n k : Nat} {C : Cx} {f : AF} {K : AF → List Atm → Prop} {Q : AQ} {o : Oper}
theorem AD_end (hk : ops.size ≤ k) (h : K f A) : AD P n C ops K k f A := fun _ _ hi => WD_end hk ⟨f, A, h, hi⟩
theorem AD_o {Q' : AV → List Atm → Prop} (chk : oneChk ops k = true) (ho : ops[k]? = some o) (hg : o.guard = none) (hd : dlt o.dst n = true) (h : Opn P f A o Q') (kk : ∀ v A', Q' v A' → AD P n C ops K (k + 1) (auo f o.dst v) A') : AD P n C ops K k f A := fun g w hi =>
 WD_one chk ho hg hd ((OW_opn hi hd h).2.mono fun _ w' ⟨v, A', hq, hi'⟩ => kk v A' hq _ w' hi')
theorem AD_gt {Q' : AV → List Atm → Prop} {j t : Nat} {b : Bool} (chk : oneChk ops k = true) (ho : ops[k]? = some o) (hg : o.guard = some (j, b)) (hd : dlt o.dst n = true) (ht : (ops[j]?).bind (·.dst) = some t) (hv : f t = .one (.v (.bool b))) (h : Opn P f A o Q')
 (kk : ∀ v A', Q' v A' → AD P n C ops K (k + 1) (auo f o.dst v) A') : AD P n C ops K k f A := fun g w hi => by
 have hv' := hi.fr t
 rw [hv] at hv'
 exact WD_want chk ho hg hd ht hv'.1 ((OW_opn hi hd h).2.mono fun _ w' ⟨v, A', hq, hi'⟩ => kk v A' hq _ w' hi')
theorem Inv.drew {g : FF} {w : World} (hi : Inv C f A g w) : Inv C f A g w.drew :=
 have hm : Mod [] w w.drew := (Mod.refl _ _).drew
 ⟨hi.st.trans (.pure hi.st.pre hm), fun i => AV.keep (w := w) (w' := w.drew) (fun _ _ _ => rfl) (hi.fr i)⟩
theorem AW_drawn {id : Nat} (mixed : P.follows .mixedOrders = true) (h : AD P n C ops (fun f A => Q .normal f A) 0 f A) : AW P n C (.region id ops true) Q f A := fun g w hi => W_drawn mixed (h g _ hi.drew)
theorem AW_ds {id : Nat} {y : Code} (mixed : P.follows .mixedOrders = true) (h : AD P n C ops (AW P n C y Q) 0 f A) : AW P n C (.seq (.region id ops true) y) Q f A := AW_seq (AW_drawn mixed h)
end tail
end
inductive Tm where
 | mk (k n : Int) (s : ByteArray) (l : List Tm)
def Tm.kind : Tm → Int | .mk k _ _ _ => k
def Tm.int : Tm → Int | .mk _ n _ _ => n
def Tm.name : Tm → ByteArray | .mk _ _ s _ => s
def Tm.args : Tm → List Tm | .mk _ _ _ l => l
@[simp] theorem Tm.kind_mk {k n : Int} {s : ByteArray} {l : List Tm} : (Tm.mk k n s l).kind = k := rfl
@[simp] theorem Tm.int_mk {k n : Int} {s : ByteArray} {l : List Tm} : (Tm.mk k n s l).int = n := rfl
@[simp] theorem Tm.name_mk {k n : Int} {s : ByteArray} {l : List Tm} : (Tm.mk k n s l).name = s := rfl
@[simp] theorem Tm.args_mk {k n : Int} {s : ByteArray} {l : List Tm} : (Tm.mk k n s l).args = l := rfl
mutual
def Tm.argE : Tm → List (List D)
 | .mk _ _ _ l => rowsT l
def rowsT : List Tm → List (List D)
 | [] => []
 | t :: l => [.v (.int .i64 t.kind), .v (.int .i64 t.int), .v (.string t.name), .s 4 t.argE] :: rowsT l
end
def encT (t : Tm) : List D := [.v (.int .i64 t.kind), .v (.int .i64 t.int), .v (.string t.name), .s 4 t.argE]
theorem rowsT_eq : ∀ l : List Tm, rowsT l = l.map encT
 | [] => rfl
 | t :: l => by simp only [rowsT, List.map_cons, rowsT_eq l]; rfl
theorem rowsT_len (l : List Tm) : (rowsT l).length = l.length := by rw [rowsT_eq, List.length_map]
theorem rowsT_get {l : List Tm} {j : Nat} {x : Tm} (h : l[j]? = some x) : (rowsT l)[j]? = some (encT x) := by rw [rowsT_eq, List.getElem?_map, h]; rfl
theorem argE_eq (t : Tm) : t.argE = rowsT t.args := by cases t; rfl
theorem argE_len (t : Tm) : t.argE.length = t.args.length := by rw [argE_eq, rowsT_len]
theorem argE_get {t : Tm} {j : Nat} {x : Tm} (h : t.args[j]? = some x) : t.argE[j]? = some (encT x) := by rw [argE_eq]; exact rowsT_get h
theorem rowsT_app (l m : List Tm) : rowsT (l ++ m) = rowsT l ++ rowsT m := by simp [rowsT_eq]
abbrev iv (n : Int) : AV := .one (.v (.int .i64 n))
abbrev bv (b : Bool) : AV := .one (.v (.bool b))
abbrev sv (s : ByteArray) : AV := .one (.v (.string s))
abbrev tv (t : Tm) : AV := .agg (encT t)
abbrev tsv (l : List Tm) : AV := .one (.s 4 (rowsT l))
abbrev BdR := Int × Tm
def encB (x : BdR) : List D := .v (.int .i64 x.1) :: encT x.2
abbrev VkR := Int × Int
def encK (x : VkR) : List D := [.v (.int .i64 x.1), .v (.int .i64 x.2)]
abbrev MkR := Int × ByteArray
def encM (x : MkR) : List D := [.v (.int .i64 x.1), .v (.string x.2)]
def encI (n : Int) : List D := [.v (.int .i64 n)]
structure StR where
 next : Int
 bind : List BdR
 dis : List (List BdR)
 kinds : List VkR
 marks : List MkR
inductive Gl where
 | mk (k : Int) (s : ByteArray) (ts : List Tm) (gs : List Gl)
def Gl.kind : Gl → Int | .mk k _ _ _ => k
def Gl.name : Gl → ByteArray | .mk _ s _ _ => s
def Gl.terms : Gl → List Tm | .mk _ _ l _ => l
def Gl.goals : Gl → List Gl | .mk _ _ _ l => l
@[simp] theorem Gl.kind_mk {k : Int} {s : ByteArray} {l : List Tm} {m : List Gl} : (Gl.mk k s l m).kind = k := rfl
@[simp] theorem Gl.name_mk {k : Int} {s : ByteArray} {l : List Tm} {m : List Gl} : (Gl.mk k s l m).name = s := rfl
@[simp] theorem Gl.terms_mk {k : Int} {s : ByteArray} {l : List Tm} {m : List Gl} : (Gl.mk k s l m).terms = l := rfl
@[simp] theorem Gl.goals_mk {k : Int} {s : ByteArray} {l : List Tm} {m : List Gl} : (Gl.mk k s l m).goals = m := rfl
mutual
def Gl.subE : Gl → List (List D)
 | .mk _ _ _ l => rowsG l
def rowsG : List Gl → List (List D)
 | [] => []
 | t :: l => [.v (.int .i64 t.kind), .v (.string t.name), .s 4 (rowsT t.terms), .s 4 t.subE] :: rowsG l
end
def encG (t : Gl) : List D := [.v (.int .i64 t.kind), .v (.string t.name), .s 4 (rowsT t.terms), .s 4 t.subE]
theorem rowsG_eq : ∀ l : List Gl, rowsG l = l.map encG
 | [] => rfl
 | t :: l => by simp only [rowsG, List.map_cons, rowsG_eq l]; rfl
theorem rowsG_len (l : List Gl) : (rowsG l).length = l.length := by rw [rowsG_eq, List.length_map]
theorem rowsG_get {l : List Gl} {j : Nat} {x : Gl} (h : l[j]? = some x) : (rowsG l)[j]? = some (encG x) := by rw [rowsG_eq, List.getElem?_map, h]; rfl
theorem subE_eq (t : Gl) : t.subE = rowsG t.goals := by cases t; rfl
theorem subE_len (t : Gl) : t.subE.length = t.goals.length := by rw [subE_eq, rowsG_len]
theorem subE_get {t : Gl} {j : Nat} {x : Gl} (h : t.goals[j]? = some x) : t.subE[j]? = some (encG x) := by rw [subE_eq]; exact rowsG_get h
structure RlR where
 name : ByteArray
 ar : Int
 loc : Int
 body : Gl
def encR (r : RlR) : List D := .v (.string r.name) :: .v (.int .i64 r.ar) :: .v (.int .i64 r.loc) :: encG r.body
def encP (p : List RlR) : List D := [.s 7 (p.map encR)]
structure BrR where
 st : StR
 ch : List Int
inductive Sm where
 | mk (k : Int) (br : BrR) (g : Gl) (kids : List Sm)
def Sm.kind : Sm → Int | .mk k _ _ _ => k
def Sm.br : Sm → BrR | .mk _ b _ _ => b
def Sm.goal : Sm → Gl | .mk _ _ g _ => g
def Sm.kids : Sm → List Sm | .mk _ _ _ l => l
@[simp] theorem Sm.kind_mk {k : Int} {b : BrR} {g : Gl} {m : List Sm} : (Sm.mk k b g m).kind = k := rfl
@[simp] theorem Sm.br_mk {k : Int} {b : BrR} {g : Gl} {m : List Sm} : (Sm.mk k b g m).br = b := rfl
@[simp] theorem Sm.goal_mk {k : Int} {b : BrR} {g : Gl} {m : List Sm} : (Sm.mk k b g m).goal = g := rfl
@[simp] theorem Sm.kids_mk {k : Int} {b : BrR} {g : Gl} {m : List Sm} : (Sm.mk k b g m).kids = m := rfl
theorem rows_get {α : Type} {l : List α} {e : α → List D} {k : Nat} {x : α} (h : l[k]? = some x) : (l.map e)[k]? = some (e x) := by rw [List.getElem?_map, h]; rfl
section
variable {κ : Type} [DecidableEq κ]
abbrev EntK (κ : Type) := κ × Value × Nat
def entK (kv : κ → Value) (x : EntK κ) : MapEntry := ⟨kv x.1, x.2.1, x.2.2⟩
def look : List (EntK κ) → κ → Option Value
 | [], _ => none
 | x :: l, n => if x.1 = n then some x.2.1 else look l n
def lookIx : List (EntK κ) → κ → Nat → Option (Nat × Value)
 | [], _, _ => none
 | x :: l, n, i => if x.1 = n then some (i, x.2.1) else lookIx l n (i + 1)
theorem lookIx_look (n : κ) : ∀ (l : List (EntK κ)) (i : Nat), (lookIx l n i).map (·.2) = look l n
 | [], _ => rfl
 | x :: l, i => by
  unfold lookIx look
  split
  ·rfl
  ·exact lookIx_look n l (i + 1)
theorem lookIx_at (n : κ) : ∀ (l : List (EntK κ)) (i : Nat) (j : Nat) (v : Value), lookIx l n i = some (j, v) → ∃ k x, j = i + k ∧ l[k]? = some x ∧ x.1 = n ∧ x.2.1 = v
 | [], _, _, _, h => by cases h
 | x :: l, i, j, v, h => by
  unfold lookIx at h
  split at h
  ·rename_i hx
   cases h
   exact ⟨0, x, rfl, rfl, hx, rfl⟩
  ·obtain ⟨k, y, h1, h2, h3⟩ := lookIx_at n l (i + 1) j v h
   exact ⟨k + 1, y, by omega, by simpa using h2, h3⟩
theorem look_none {n : κ} : ∀ {l : List (EntK κ)}, look l n = none → ∀ x ∈ l, x.1 ≠ n
 | [], _, _, h => by cases h
 | y :: l, hl, x, h => by
  unfold look at hl
  split at hl
  ·cases hl
  ·rename_i hy
   rcases List.mem_cons.1 h with rfl | h
   ·exact hy
   ·exact look_none hl x h
theorem look_of_mem {x : EntK κ} : ∀ {l : List (EntK κ)}, (l.map (·.1)).Nodup → x ∈ l → look l x.1 = some x.2.1
 | y :: l, hn, h => by
  unfold look
  simp only [List.map_cons, List.nodup_cons] at hn
  rcases List.mem_cons.1 h with rfl | h
  ·simp
  ·have hne : y.1 ≠ x.1 := fun e => hn.1 (e ▸ List.mem_map_of_mem h)
   rw [if_neg hne]
   exact look_of_mem hn.2 h
theorem look_mem {n : κ} {v : Value} : ∀ {l : List (EntK κ)}, look l n = some v → ∃ x ∈ l, x.1 = n ∧ x.2.1 = v
 | [], h => by cases h
 | y :: l, h => by
  unfold look at h
  split at h
  ·rename_i hy; cases h; exact ⟨y, by simp, hy, rfl⟩
  ·obtain ⟨x, hx, h⟩ := look_mem h; exact ⟨x, by simp [hx], h⟩
theorem look_snoc (n k : κ) (b : Nat) (v : Value) : ∀ {l : List (EntK κ)}, look l k = none → look (l ++ [(k, v, b)]) n = if n = k then some v else look l n
 | [], _ => by simp [look, eq_comm]
 | x :: l, h => by
  unfold look at h
  split at h
  ·cases h
  ·rename_i hx
   simp only [List.cons_append, look]
   by_cases h1 : x.1 = n
   ·have hnk : n ≠ k := fun e => hx (h1.trans e)
    simp [h1, hnk]
   ·rw [if_neg h1, if_neg h1]; exact look_snoc n k b v h
theorem look_modify (n : κ) (v : Value) : ∀ {l : List (EntK κ)} {k : Nat} {x : EntK κ}, (l.map (·.1)).Nodup → l[k]? = some x → look (l.modify k fun y => (y.1, v, y.2.2)) n = if n = x.1 then some v else look l n
 | [], k, x, _, h => by simp at h
 | y :: l, 0, x, hn, h => by
  simp at h; subst h
  simp only [List.modify_zero_cons, look]
  by_cases h1 : n = y.1
  ·simp [h1]
  ·simp [h1, Ne.symm h1]
 | y :: l, k + 1, x, hn, h => by
  simp only [List.map_cons, List.nodup_cons] at hn
  simp at h
  simp only [List.modify_succ_cons, look]
  have hx : x ∈ l := List.mem_of_getElem? h
  by_cases h1 : y.1 = n
  ·have hne : n ≠ x.1 := fun e => hn.1 (h1 ▸ e ▸ List.mem_map_of_mem hx)
   simp [h1, hne]
  ·rw [if_neg h1, if_neg h1]; exact look_modify n v hn.2 h
class KeyF (P : Program) (k : TypeId) (κ : outParam Type) [DecidableEq κ] (kv : outParam (κ → Value)) : Prop where
 chk : ∀ w e x, runC P w (Instr.checkKey e 10000 k (kv x)) = some ()
 find : ∀ w x (l : List (EntK κ)), runC P w (Instr.findKey k (kv x) (l.map (entK kv))) = some (lookIx l x 0)
 same : ∀ x, Instr.sameBits 10000 (kv x) (kv x) = true
 rdk : ∀ x, ∃ a : AV, ∀ M w y, a.rd M w y ↔ y = kv x
def optRd (M : Nat → Prop) (w : World) : Option AV → Option Value → Prop
 | none, none => True
 | some a, some v => a.rd M w v
 | _, _ => False
def cput {α : Type} (c : κ → Option α) (k : κ) (v : α) : κ → Option α := fun x => if x = k then some v else c x
structure MapAt (M : Nat → Prop) (w : World) (kv : κ → Value) (b : Nat) (g : κ → Option AV) (l : List (EntK κ)) (clock : Nat) : Prop where
 blk : w.heap[b]? = some (.map (l.map (entK kv)).toArray clock)
 keys : (l.map (·.1)).Nodup
 ages : (l.map (·.2.2)).Nodup
 old : ∀ x ∈ l, x.2.2 < clock
 val : ∀ x, optRd M w (g x) (look l x)
def amap (kv : κ → Value) (b : Nat) (g : κ → Option AV) : Atm := ⟨[b], fun M w => ∃ l c, MapAt M w kv b g l c,
 fun M w w' h1 h2 ⟨l, c, h⟩ => ⟨l, c, by rw [h1 b (by simp)]; exact h.blk, h.keys, h.ages, h.old, fun x => by
  have := h.val x
  cases hg : g x <;> cases hl : look l x <;> rw [hg, hl] at this <;> first | exact this | exact AV.keep h2 this⟩,
 fun M M' w hm ⟨l, c, h⟩ => ⟨l, c, h.blk, h.keys, h.ages, h.old, fun x => by
  have := h.val x
  cases hg : g x <;> cases hl : look l x <;> rw [hg, hl] at this <;> first | exact this | exact AV.grow hm this⟩⟩
end
section
variable {P : Program} {f : AF} {A : List Atm} {d : Option Tmp} {ty : TypeId} {pos : String} {aft : Array Edge} {gg : Option (Nat × Bool)} {M : Nat → Prop} {w : World} {κ : Type} [DecidableEq κ] {kv : κ → Value}
theorem runC_getMap {b : Nat} {es : Array MapEntry} {c : Nat} (h : w.heap[b]? = some (.map es c)) : runC P w (getObj b) = some (.map es c) := by
 simp [getObj, runC, h]
theorem runC_lookup {t k e : TypeId} {agg : Bool} {sz : Nat} {z : Value} [G : MapF P t k e] [I : KeyF P k κ kv] [F : TyF P e agg sz z] {b : Nat} {g : κ → Option AV} {l : List (EntK κ)} {cl : Nat} (h : MapAt M w kv b g l cl) (n : κ) (c : Bool) :
 runC P w (Instr.lookup t (.map (some b)) (kv n) c) = some (if c then .tuple #[(look l n).getD z, .bool (look l n).isSome] else (look l n).getD z) := by
 unfold Instr.lookup
 rw [runC_bind, runC_underlying G.und]
 simp only [Option.bind_some]
 rw [runC_bind, runC_getMap h.blk]
 simp only [Option.bind_some]
 show runC P w (Instr.checkKey _ 10000 k (kv n) >>= _) = _
 rw [runC_bind, I.chk]
 simp only [Option.bind_some]
 rw [runC_bind, I.find]
 simp only [Option.bind_some]
 have hl := lookIx_look n l 0
 cases hx : lookIx l n 0 with
 | none =>
  rw [hx] at hl
  simp only [Option.map_none] at hl
  rw [← hl]
  simp only [runC_bind, F.zero, Option.bind_some, runC_pure]
  cases c <;> rfl
 | some p =>
  rw [hx] at hl
  simp only [Option.map_some] at hl
  rw [← hl]
  cases c <;> rfl
class KeyA (κ : Type) (kv : outParam (κ → Value)) (ka : outParam (κ → AV)) : Prop where
 rd : ∀ M w x y, (ka x).rd M w y → y = kv x
theorem P_look {t k e : TypeId} {agg : Bool} {sz : Nat} {z : Value} {ka : κ → AV} [G : MapF P t k e] [I : KeyF P k κ kv] [KA : KeyA κ kv ka] [F : TyF P e agg sz z] (x y : Operand) {b : Nat} {n : κ} {g : κ → Option AV} {v : AV} (hx : eva f x = .one (.v (.map (some b)))) (hy : eva f y = ka n) (hm : amap kv b g ∈ A) (hv : (g n).getD (cst z) = v) :
 PuO P f A ⟨d, .lookup t x y false, ty, pos, aft, gg⟩ v := PuO_rd fun M w r hp h => by
 obtain ⟨l, c, hm⟩ := hp.ats _ hm
 have e2 := h y (by simp [Op.operands])
 rw [hy] at e2
 have hval := hm.val n
 refine ⟨(look l n).getD z, ?_, ?_⟩
 ·show runC P w (Instr.lookup t (r x) (r y) false >>= fun v => pure (Next.value v)) = _
  rw [runC_bind, exact_of (h x (by simp [Op.operands])) hx, KA.rd _ _ _ _ e2, runC_lookup hm]; rfl
 ·subst hv
  cases hg : g n <;> cases hl : look l n <;> rw [hg, hl] at hval <;> first | exact hval.elim | exact hval | exact cst_rd z
theorem P_lookOk {t k e : TypeId} {agg : Bool} {sz : Nat} {z : Value} {ka : κ → AV} [G : MapF P t k e] [I : KeyF P k κ kv] [KA : KeyA κ kv ka] [F : TyF P e agg sz z] (x y : Operand) {b : Nat} {n : κ} {g : κ → Option AV} {v : AV} {o : Bool} (hx : eva f x = .one (.v (.map (some b)))) (hy : eva f y = ka n) (hm : amap kv b g ∈ A) (hv : (g n).getD (cst z) = v) (ho : (g n).isSome = o) :
 PuO P f A ⟨d, .lookup t x y true, ty, pos, aft, gg⟩ (.tup [v, .one (.v (.bool o))]) := PuO_rd fun M w r hp h => by
 obtain ⟨l, c, hm⟩ := hp.ats _ hm
 have e2 := h y (by simp [Op.operands])
 rw [hy] at e2
 have hval := hm.val n
 refine ⟨.tuple #[(look l n).getD z, .bool (look l n).isSome], ?_, [(look l n).getD z, .bool (look l n).isSome], rfl, _, _, rfl, ?_, _, [], rfl, ?_, rfl⟩
 ·show runC P w (Instr.lookup t (r x) (r y) true >>= fun v => pure (Next.value v)) = _
  rw [runC_bind, exact_of (h x (by simp [Op.operands])) hx, KA.rd _ _ _ _ e2, runC_lookup hm]; rfl
 ·subst hv
  cases hg : g n <;> cases hl : look l n <;> rw [hg, hl] at hval <;> first | exact hval.elim | exact hval | exact cst_rd z
 ·subst ho
  cases hg : g n <;> cases hl : look l n <;> rw [hg, hl] at hval <;> first | exact hval.elim | exact ⟨rfl, rfl⟩
theorem O_makeMap (kv : κ → Value) {t : TypeId} : Opn P f A ⟨d, .makeMap t none, ty, pos, aft, gg⟩ fun v A' => ∃ b, v = .one (.v (.map (some b))) ∧ A' = amap kv b (fun _ => none) :: A := fun M w r hp h => by
 refine S_run (v := .map (some w.heap.size)) (w' := w.alloc (.map #[] 0)) rfl ⟨_, _, ⟨w.heap.size, rfl, rfl⟩, ⟨rfl, rfl⟩, hp.cons ((Mod.refl _ _).alloc _) (by simp [amap]) (by simp [amap]) ⟨[], 0, by show (w.heap.push _)[w.heap.size]? = _; simp, by simp, by simp, by simp, fun _ => trivial⟩⟩
theorem run_update {t k e : TypeId} [G : MapF P t k e] [I : KeyF P k κ kv] {b : Nat} {g : κ → Option AV} {l : List (EntK κ)} {cl : Nat} (h : MapAt M w kv b g l cl) (n : κ) (v : Value) :
 ∃ w' l' cl', (Instr.mapUpdate t (.map (some b)) (kv n) v).run P w = .ok () w' ∧ Mod [b] w w' ∧ w'.heap.size = w.heap.size ∧ w'.heap[b]? = some (.map (l'.map (entK kv)).toArray cl') ∧ (l'.map (·.1)).Nodup ∧ (l'.map (·.2.2)).Nodup ∧ (∀ x ∈ l', x.2.2 < cl') ∧ ∀ x, look l' x = if x = n then some v else look l x := by
 obtain ⟨h1, h2, h3, h4, h5⟩ := h
 have hblt : b < w.heap.size := (Array.getElem?_eq_some_iff.1 h1).1
 have mod : ∀ o, Mod [b] w (ChangeMaps.setBlock w b o) := fun o => ⟨rfl, rfl, rfl, by simp [ChangeMaps.setBlock], fun i _ hi => by
  have hi' : b ≠ i := fun e => hi (by simp [e])
  simp [ChangeMaps.setBlock, Array.getElem?_setIfInBounds_ne hi']⟩
 have at' : ∀ o, (ChangeMaps.setBlock w b o).heap[b]? = some o := fun o => by simp [ChangeMaps.setBlock, hblt]
 have run_set : ∀ o, (setObj b o).run P w = .ok () (ChangeMaps.setBlock w b o) := fun o => by simp [setObj, Sem.run, h1, ChangeMaps.setBlock]
 unfold Instr.mapUpdate
 simp only [Sem.run_bind, runC_run _ _ (runC_underlying G.und), Result.andThen_ok, runC_run _ _ (runC_getMap h1), runC_run _ _ (I.chk w false n), runC_run _ _ (I.find w n l)]
 have hl := lookIx_look n l 0
 cases hx : lookIx l n 0 with
 | none =>
  rw [hx] at hl
  simp only [Option.map_none] at hl
  have hno : look l n = none := hl.symm
  simp only []
  rw [run_set]
  refine ⟨_, l ++ [(n, v, cl)], cl + 1, rfl, mod _, by simp [ChangeMaps.setBlock], ?_, ?_, ?_, ?_, ?_⟩
  ·rw [at']; simp [entK]
  ·rw [List.map_append, List.nodup_append]
   refine ⟨h2, by simp, fun a ha c hc => ?_⟩
   obtain ⟨x, hxl, rfl⟩ := List.mem_map.1 ha
   simp at hc; subst hc
   exact look_none hno x hxl
  ·rw [List.map_append, List.nodup_append]
   refine ⟨h3, by simp, fun a ha c hc => ?_⟩
   obtain ⟨x, hxl, rfl⟩ := List.mem_map.1 ha
   simp at hc; subst hc
   have := h4 x hxl; omega
  ·intro x hxl
   rcases List.mem_append.1 hxl with hxl | hxl
   ·have := h4 x hxl; omega
   ·simp at hxl; subst hxl; simp
  ·intro m
   exact look_snoc m n cl v hno
 | some p =>
  obtain ⟨j, u⟩ := p
  obtain ⟨k', x, hj, hk, hx1, hx2⟩ := lookIx_at n l 0 j u hx
  have hjk : j = k' := by omega
  subst hjk
  have hes : (l.map (entK kv)).toArray[j]? = some (entK kv x) := by simp [hk]
  simp only [hes, Option.map_some, Option.getD_some, entK, hx1, Instr.keyThatStays, I.same, if_true, Sem.run_bind, Sem.run_pure, Result.andThen_ok]
  rw [run_set]
  refine ⟨_, l.modify j (fun y => (y.1, v, y.2.2)), cl, rfl, mod _, by simp [ChangeMaps.setBlock], ?_, ?_, ?_, ?_, ?_⟩
  ·rw [at']
   congr 2
   apply Array.ext'
   simp only [Array.toList_modify]
   apply List.ext_getElem?
   intro i
   simp only [List.getElem?_modify, List.getElem?_map]
   by_cases hij : j = i
   ·subst hij; simp [hk, entK, hx1]
   ·simp [hij]
  ·have : (l.modify j fun y => (y.1, v, y.2.2)).map (·.1) = l.map (·.1) := by
    apply List.ext_getElem?
    intro i
    simp only [List.getElem?_modify, List.getElem?_map]
    by_cases hij : j = i
    ·subst hij; simp [hk]
    ·simp [hij]
   rw [this]; exact h2
  ·have : (l.modify j fun y => (y.1, v, y.2.2)).map (·.2.2) = l.map (·.2.2) := by
    apply List.ext_getElem?
    intro i
    simp only [List.getElem?_modify, List.getElem?_map]
    by_cases hij : j = i
    ·subst hij; simp [hk]
    ·simp [hij]
   rw [this]; exact h3
  ·intro y hy
   obtain ⟨i, hi⟩ := List.getElem?_of_mem hy
   rw [List.getElem?_modify] at hi
   by_cases hij : j = i
   ·subst hij
    simp only [hk, if_true] at hi
    cases hi
    exact h4 x (List.mem_of_getElem? hk)
   ·simp only [hij, if_false, Option.map_eq_map, Option.map_id_fun', id_eq] at hi
    exact h4 y (List.mem_of_getElem? hi)
  ·intro m
   rw [look_modify m v h2 hk, hx1]
theorem O_mapSet {t k e : TypeId} {ka : κ → AV} [G : MapF P t k e] [I : KeyF P k κ kv] [KA : KeyA κ kv ka] (i : Nat) (x y z : Operand) {b : Nat} {n : κ} {g : κ → Option AV} {a : AV} {op : Op} (hop : op.operands = #[x, y, z]) (hex : ∀ r : Operand → Value, execOp r ⟨d, op, ty, pos, aft, gg⟩ = (Instr.mapUpdate t (r x) (r y) (r z) >>= fun _ => pure Next.skip))
 (hi : A[i]? = some (amap kv b g)) (hx : eva f x = .one (.v (.map (some b)))) (hy : eva f y = ka n) (hz : eva f z = a) :
 Opn P f A ⟨d, op, ty, pos, aft, gg⟩ fun v A' => v = .tup [] ∧ A' = A.set i (amap kv b (cput g n a)) := fun M w r hp h => by
 obtain ⟨l, c, hm⟩ := hp.ats _ (List.mem_of_getElem? hi)
 have e2 := h y (by simp [hop])
 rw [hy] at e2
 have e3 := h z (by simp [hop])
 rw [hz] at e3
 obtain ⟨w', l', cl', h1, h2, h3, h4, h5, h6, h7, h8⟩ := run_update (P := P) (t := t) hm n (r z)
 have hblt : b < w.heap.size := (Array.getElem?_eq_some_iff.1 hm.blk).1
 have ho : ∀ g', oA (A.set i (amap kv b g')) = oA A := fun g' => by
  obtain ⟨s1, s2⟩ := set_split (y := amap kv b g') hi
  rw [s2]
  conv => rhs; rw [s1]
  simp [oA, amap]
 have keep : ∀ {a : AV} {u : Value}, a.rd (MO M A) w u → a.rd (MO M A) w' u := fun hr => AV.keep (fun c hc hn => h2.block c hc fun hcb => hn (.inr (mem_oA.2 ⟨_, List.mem_of_getElem? hi, by simpa [amap] using hcb⟩))) hr
 refine S_skip (w' := w') ?_ ⟨_, _, ⟨rfl, rfl⟩, undef_rd, hp.turn hi h2 (by simp [amap]) (fun c hc => ⟨?_, .inl hc⟩) ⟨l', cl', h4, h5, h6, h7, fun u => ?_⟩⟩
 ·rw [hex, exact_of (h x (by simp [hop])) hx, KA.rd _ _ _ _ e2, Sem.run_bind, h1]; rfl
 ·simp only [amap, List.mem_singleton] at hc; subst hc; omega
 ·have hMO : ∀ b', MO M (A.set i (amap kv b (cput g n a))) b' → MO M A b' := fun b' hb' => by unfold MO at hb' ⊢; rwa [ho] at hb'
  rw [h8]
  unfold cput
  by_cases hu : u = n
  ·rw [if_pos hu, if_pos hu]; exact AV.grow (fun b' _ => hMO b') (keep e3)
  ·rw [if_neg hu, if_neg hu]
   have := hm.val u
   cases hg : g u <;> cases hl : look l u <;> rw [hg, hl] at this <;> first | exact this | exact AV.grow (fun b' _ => hMO b') (keep this)
theorem O_update {t k e : TypeId} {ka : κ → AV} [G : MapF P t k e] [I : KeyF P k κ kv] [KA : KeyA κ kv ka] (i : Nat) (x y z : Operand) {b : Nat} {n : κ} {g : κ → Option AV} {a : AV} (hi : A[i]? = some (amap kv b g)) (hx : eva f x = .one (.v (.map (some b)))) (hy : eva f y = ka n) (hz : eva f z = a) :
 Opn P f A ⟨d, .mapUpdate t x y z, ty, pos, aft, gg⟩ fun v A' => v = .tup [] ∧ A' = A.set i (amap kv b (cput g n a)) := O_mapSet i x y z rfl (fun _ => rfl) hi hx hy hz
theorem O_insert {t k e : TypeId} {ka : κ → AV} [G : MapF P t k e] [I : KeyF P k κ kv] [KA : KeyA κ kv ka] (i : Nat) (x y z : Operand) {b : Nat} {n : κ} {g : κ → Option AV} {a : AV} (hi : A[i]? = some (amap kv b g)) (hx : eva f x = .one (.v (.map (some b)))) (hy : eva f y = ka n) (hz : eva f z = a) :
 Opn P f A ⟨d, .insert t x y z, ty, pos, aft, gg⟩ fun v A' => v = .tup [] ∧ A' = A.set i (amap kv b (cput g n a)) := O_mapSet i x y z rfl (fun _ => rfl) hi hx hy hz
end
def kvI (n : Int) : Value := .int .i64 n
class IntF (P : Program) (t : TypeId) : Prop where
 und : P.underlying t = some (.int .i64)
instance : KeyA Int kvI (fun n => .one (.v (.int .i64 n))) := ⟨fun _ _ _ _ h => h.1⟩
theorem findNow_look (n : Int) : ∀ (l : List (EntK Int)) (i : Nat), Instr.findNow (.int .i64) (.int .i64 n) (l.map (entK kvI)) i = some (lookIx l n i)
 | [], _ => rfl
 | x :: l, i => by
  simp only [List.map_cons, Instr.findNow, lookIx, entK, kvI, Instr.sameNow, if_true]
  by_cases h : x.1 = n
  ·subst h; simp
  ·have h1 : ((n : Int) == (x.1 : Int)) = false := by simp; omega
   rw [h1, if_neg h]
   exact findNow_look n l (i + 1)
instance {P : Program} {k : TypeId} [I : IntF P k] : KeyF P k Int kvI := ⟨fun w e x => by
 unfold Instr.checkKey
 rw [runC_bind, runC_underlying I.und]
 rfl, fun w x l => by
 unfold Instr.findKey
 rw [runC_bind, runC_underlying I.und]
 simp only [Option.bind_some]
 have := findNow_look x l 0
 unfold kvI at this ⊢
 rw [this]
 rfl, fun x => by simp [kvI, Instr.sameBits], fun x => ⟨.one (.v (kvI x)), fun M w y => ⟨fun h => h.1, fun h => ⟨h, rfl⟩⟩⟩⟩
def gm {κ α : Type} (enc : α → AV) (c : κ → Option α) : κ → Option AV := fun x => (c x).map enc
theorem gm_put {κ α : Type} [DecidableEq κ] {enc : α → AV} {c : κ → Option α} {k : κ} {v : α} : cput (gm enc c) k (enc v) = gm enc (cput c k v) := by
 funext x; unfold cput gm; by_cases h : x = k <;> simp [h]
end Go.Proofs.YtbabchapkhlenaaGreat
