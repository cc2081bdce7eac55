/- Parts of the proof: V88 VW4. -/
import Derived.Test.YtbabchapkhlenaaGreatZT2
namespace Go.Proofs.YtbabchapkhlenaaGreat
open Go
set_option linter.all false
set_option maxRecDepth 100000
set_option maxHeartbeats 4000000
noncomputable section
open Classical
def fallsG (g : Gr) : Prop := meetsG g g → cG (compG g g) g = 0 → ∃ x ∈ g.arcs, x.1 = x.2.1 ∧ x.2.2 = true
def termV (p : List RlR) : Prop := ∃ l, closeP p = some l ∧ ∀ g ∈ l, fallsG g
theorem closeP_ok {p : List RlR} {l : List Gr} (h : closeP p = some l) : (∀ g ∈ l, GrOk g) ∧ l.length ≤ 200 := by
 unfold closeP at h
 obtain ⟨first, hs, h⟩ := Option.bind_eq_some_iff.1 h
 obtain ⟨hf, _⟩ := sizeF_ok hs
 unfold closeF at h
 split at h
 ·rename_i hx
  cases h
  obtain ⟨h1, h2, h3⟩ := hx.choose_spec
  exact ⟨fun g hg => clo_ok hf ((h3 g).1 hg), h2⟩
 ·cases h
theorem termV_none {p : List RlR} (h : closeP p = none) : ¬ termV p := fun ⟨l, h1, _⟩ => by rw [h] at h1; cases h1
theorem termV_some {p : List RlR} {l : List Gr} (h : closeP p = some l) : termV p ↔ ∀ g ∈ l, fallsG g := ⟨fun ⟨m, h1, h2⟩ => by rw [h] at h1; cases h1; exact h2, fun h2 => ⟨l, h, h2⟩⟩
theorem cmpV_len {a b : Gr} (ha : GrOk a) (hb : GrOk b) : (cmpV a b).arcs.length ≤ 16 := by
 unfold cmpV
 split
 ·exact (compA_ok _ _).len
 ·simp
instance terminates_i : Con1 Tryz.prog 16 (List RlR) vP (fun p => bp (termV p)) InP := ⟨fun p hin => by
 refine pu Tryz.func16 rfl Tryz.ntmps16 rfl rfl fun C => ?_
 (repeat' first | (refine kk ?_; intros) | refine kfk ?_ ?_ <;> intro hb | fail)
 cases hc : closeP p with
 | none =>
  (repeat' first | (refine kk ?_; intros) | refine kfk ?_ ?_ <;> intro hb | fail)
  exact kret (bpF (termV_none hc))
 | some l =>
  rw [show bp (termV p) = bp (∀ g ∈ l, fallsG g) from congrArg bp (propext (termV_some hc))]
  obtain ⟨hok, hl⟩ := closeP_ok hc
  have hlen : (l.map encGr).length = l.length := by simp
  (repeat' first | (refine kk ?_; intros) | refine kfk ?_ ?_ <;> intro hb | fail)
  refine kfor (ι := Unit) l (fun j _ => [(19, vGrs l)]) (fun _ _ => []) (fun j _ => ∀ g ∈ l.take j, fallsG g) () (by simp) ?_ ?_
  ·rintro j g _ hj hdd hjl hp
   have hrow : (l.map encGr)[j]? = some (encGr g) := by simp [hj]
   have hg := hok g (List.mem_of_getElem? hj)
   have p1 : GrOk g ∧ GrOk g := ⟨hg, hg⟩
   have p2 : (cmpV g g).arcs.length ≤ 16 ∧ g.arcs.length ≤ 16 := ⟨cmpV_len hg hg, hg.arcs.len⟩
   have hal : (g.arcs.map encA).length = g.arcs.length := by simp
   have hgl := hg.arcs.len
   by_cases hm : meetsG g g
   case neg =>
    (repeat' first | (refine kkS [45] [] ?_; intros) | refine kfS [45] [] ?_ ?_ <;> intro hb | fail)
    all_goals first
     | exact absurd (by assumption) hm
     | (refine krF ?_
        (repeat' first | (refine kk ?_; intros) | refine kfk ?_ ?_ <;> intro hb | fail)
        exact ⟨(), take_succ_allP hj hp fun h => absurd h hm, kwk⟩)
   have hcv := cmpV_yes hm
   by_cases hc0 : cG (compG g g) g = 0
   case neg =>
    rw [← hcv] at hc0
    (repeat' first | (refine kk ?_; intros) | refine kfk ?_ ?_ <;> intro hb | fail)
    all_goals first
     | exact absurd hm (by assumption)
     | exact ⟨(), take_succ_allP hj hp fun _ h => absurd (hcv ▸ h) hc0, kwk⟩
     | (exfalso; omega)
   rw [← hcv] at hc0
   (repeat' first | (refine kk ?_; intros) | refine kfk ?_ ?_ <;> intro hb | fail)
   all_goals try exact absurd hm (by assumption)
   refine kfor (ι := Bool) g.arcs (fun n s => [(19, vGrs l), (21, iv j), (20, iv l.length), (9, bv s), (40, .one (.s 3 (g.arcs.map encA)))]) (fun n s => []) (fun n s => s = true ↔ ∃ x ∈ g.arcs.take n, x.1 = x.2.1 ∧ x.2.2 = true) false (by simp) ?_ ?_
   ·rintro n ⟨xf, xt, xs⟩ s hn hnd hnl q2
    have hrow2 : (g.arcs.map encA)[n]? = some (encA (xf, xt, xs)) := by simp [hn]
    have hnt : g.arcs.take (n + 1) = g.arcs.take n ++ [(xf, xt, xs)] := by rw [List.take_add_one, hn]; rfl
    have q3 : (∃ x ∈ g.arcs.take (n + 1), x.1 = x.2.1 ∧ x.2.2 = true) ↔ s = true ∨ xf = xt ∧ xs = true := by
     rw [hnt, q2]
     constructor
     ·rintro ⟨x, hx, h⟩
      rcases List.mem_append.1 hx with hx | hx
      ·exact .inl ⟨x, hx, h⟩
      ·obtain rfl := List.mem_singleton.1 hx; exact .inr h
     ·rintro (⟨x, hx, h⟩ | h)
      ·exact ⟨x, by simp [hx], h⟩
      ·exact ⟨(xf, xt, xs), by simp, h⟩
    cases s with
    | true =>
     (repeat' first | (refine kk ?_; intros) | refine kfk ?_ ?_ <;> intro hb | fail)
     exact ⟨true, (by rw [q3]; simp; done), kwk⟩
    | false =>
     by_cases h12 : xf = xt
     ·subst h12
      cases xs with
      | false =>
       (repeat' first | (refine kk ?_; intros) | refine kfk ?_ ?_ <;> intro hb | fail)
       all_goals first
        | exact absurd rfl hb
        | exact ⟨false, by rw [q3]; simp, kwk⟩
      | true =>
       (repeat' first | (refine kk ?_; intros) | refine kfk ?_ ?_ <;> intro hb | fail)
       all_goals first
        | exact absurd rfl hb
        | exact ⟨true, by rw [q3]; simp, kwk⟩
     ·(repeat' first | (refine kk ?_; intros) | refine kfk ?_ ?_ <;> intro hb | fail)
      all_goals first
       | exact absurd (Int.ofNat_inj.1 hb) h12
       | exact ⟨false, by rw [q3]; simp [h12], kwk⟩
   ·rintro s q2
    rw [List.take_length] at q2
    have hfall : fallsG g ↔ s = true := by rw [q2]; exact ⟨fun h => h hm (hcv ▸ hc0), fun h _ _ => h⟩
    cases s with
    | true =>
     (repeat' first | (refine kk ?_; intros) | refine kfk ?_ ?_ <;> intro hb | fail)
     exact ⟨(), take_succ_allP hj hp (hfall.2 rfl), kwk⟩
    | false =>
     (repeat' first | (refine kk ?_; intros) | refine kfk ?_ ?_ <;> intro hb | fail)
     exact kret (bpF fun h => by have := hfall.1 (h g (List.mem_of_getElem? hj)); cases this)
  ·rintro _ hp
   rw [List.take_length] at hp
   (repeat' first | (refine kk ?_; intros) | refine kfk ?_ ?_ <;> intro hb | fail)
   exact kret (bpT hp)⟩
instance terminates_s : Con1 Tryz.prog 15 (List RlR) vP (fun p => bp (termV p)) InP := ⟨fun p hin => by
 refine pu Tryz.func15 rfl Tryz.ntmps15 rfl rfl fun C => ?_
 (repeat' first | (refine kk ?_; intros) | refine kfk ?_ ?_ <;> intro hb | fail)
 cases hc : closeP p with
 | none =>
  (repeat' first | (refine kk ?_; intros) | refine kfk ?_ ?_ <;> intro hb | fail)
  refine kun3 ?_
  (repeat' first | (refine kk ?_; intros) | refine kfk ?_ ?_ <;> intro hb | fail)
  exact kret (bpF (termV_none hc))
 | some l =>
  rw [show bp (termV p) = bp (∀ g ∈ l, fallsG g) from congrArg bp (propext (termV_some hc))]
  obtain ⟨hok, hl⟩ := closeP_ok hc
  have hlen : (l.map encGr).length = l.length := by simp
  (repeat' first | (refine kk ?_; intros) | refine kfk ?_ ?_ <;> intro hb | fail)
  refine kfor (ι := Bool) l (fun j ok => [(4, bv ok), (15, vGrs l)]) (fun _ _ => []) (fun j ok => ok = true ↔ ∀ g ∈ l.take j, fallsG g) true (by simp) ?_ ?_
  ·rintro j g ok hj hdd hjl hp
   have hrow : (l.map encGr)[j]? = some (encGr g) := by simp [hj]
   have hg := hok g (List.mem_of_getElem? hj)
   have p1 : g.arcs.length ≤ 16 ∧ g.arcs.length ≤ 16 := ⟨hg.arcs.len, hg.arcs.len⟩
   have p2 : (compG g g).arcs.length ≤ 16 ∧ g.arcs.length ≤ 16 := ⟨(compA_ok _ _).len, hg.arcs.len⟩
   have hal : (g.arcs.map encA).length = g.arcs.length := by simp
   have hgl := hg.arcs.len
   have hjt : l.take (j + 1) = l.take j ++ [g] := by rw [List.take_add_one, hj]; rfl
   have hstep : (∀ x ∈ l.take (j + 1), fallsG x) ↔ ok = true ∧ fallsG g := by
    rw [hjt, hp]
    exact ⟨fun h => ⟨fun x hx => h x (by simp [hx]), h g (by simp)⟩, fun h x hx => (List.mem_append.1 hx).elim (h.1 x) fun hx => by obtain rfl := List.mem_singleton.1 hx; exact h.2⟩
   by_cases hm : meetsG g g
   case neg =>
    have hm' : ¬ g.caller = g.callee := fun e => hm e.symm
    (repeat' first | (refine kk ?_; intros) | refine kfk ?_ ?_ <;> intro hb | fail)
    all_goals first
     | exact absurd (by assumption) hm'
     | exact ⟨ok, by rw [hstep]; exact ⟨fun h => ⟨h, fun h => absurd h hm⟩, fun h => h.1⟩, kwk⟩
   have hm' : g.caller = g.callee := hm.symm
   by_cases hc0 : cG (compG g g) g = 0
   case neg =>
    (repeat' first | (refine kk ?_; intros) | refine kfk ?_ ?_ <;> intro hb | fail)
    all_goals first
     | exact absurd hm' (by assumption)
     | exact ⟨ok, by rw [hstep]; exact ⟨fun h => ⟨h, fun _ h => absurd h hc0⟩, fun h => h.1⟩, kwk⟩
     | (exfalso; omega)
   (repeat' first | (refine kk ?_; intros) | refine kfk ?_ ?_ <;> intro hb | fail)
   all_goals try exact absurd hm' (by assumption)
   refine kfor (ι := Bool) g.arcs (fun n s => [(4, bv ok), (15, vGrs l), (17, iv j), (16, iv l.length), (7, bv s), (35, .one (.s 3 (g.arcs.map encA)))]) (fun n s => []) (fun n s => s = true ↔ ∃ x ∈ g.arcs.take n, x.1 = x.2.1 ∧ x.2.2 = true) false (by simp) ?_ ?_
   ·rintro n ⟨xf, xt, xs⟩ s hn hnd hnl q2
    have hrow2 : (g.arcs.map encA)[n]? = some (encA (xf, xt, xs)) := by simp [hn]
    have hnt : g.arcs.take (n + 1) = g.arcs.take n ++ [(xf, xt, xs)] := by rw [List.take_add_one, hn]; rfl
    have q3 : (∃ x ∈ g.arcs.take (n + 1), x.1 = x.2.1 ∧ x.2.2 = true) ↔ s = true ∨ xf = xt ∧ xs = true := by
     rw [hnt, q2]
     constructor
     ·rintro ⟨x, hx, h⟩
      rcases List.mem_append.1 hx with hx | hx
      ·exact .inl ⟨x, hx, h⟩
      ·obtain rfl := List.mem_singleton.1 hx; exact .inr h
     ·rintro (⟨x, hx, h⟩ | h)
      ·exact ⟨x, by simp [hx], h⟩
      ·exact ⟨(xf, xt, xs), by simp, h⟩
    cases s with
    | true =>
     (repeat' first | (refine kk ?_; intros) | refine kfk ?_ ?_ <;> intro hb | fail)
     exact ⟨true, (by rw [q3]; simp; done), kwk⟩
    | false =>
     by_cases h12 : xf = xt
     ·subst h12
      cases xs with
      | false =>
       (repeat' first | (refine kk ?_; intros) | refine kfk ?_ ?_ <;> intro hb | fail)
       all_goals first
        | exact absurd rfl hb
        | exact ⟨false, by rw [q3]; simp, kwk⟩
      | true =>
       (repeat' first | (refine kk ?_; intros) | refine kfk ?_ ?_ <;> intro hb | fail)
       all_goals first
        | exact absurd rfl hb
        | exact ⟨true, by rw [q3]; simp, kwk⟩
     ·(repeat' first | (refine kk ?_; intros) | refine kfk ?_ ?_ <;> intro hb | fail)
      all_goals first
       | exact absurd (Int.ofNat_inj.1 hb) h12
       | exact ⟨false, by rw [q3]; simp [h12], kwk⟩
   ·rintro s q2
    rw [List.take_length] at q2
    have hfall : fallsG g ↔ s = true := by rw [q2]; exact ⟨fun h => h hm hc0, fun h _ _ => h⟩
    rw [hfall] at hstep
    cases ok with
    | false =>
     (repeat' first | (refine kk ?_; intros) | refine kfk ?_ ?_ <;> intro hb | fail)
     exact ⟨false, by rw [hstep]; simp, kwk⟩
    | true =>
     cases s with
     | false =>
      (repeat' first | (refine kk ?_; intros) | refine kfk ?_ ?_ <;> intro hb | fail)
      exact ⟨false, by rw [hstep]; simp, kwk⟩
     | true =>
      (repeat' first | (refine kk ?_; intros) | refine kfk ?_ ?_ <;> intro hb | fail)
      exact ⟨true, by rw [hstep]; simp, kwk⟩
  ·rintro ok hp
   rw [List.take_length] at hp
   (repeat' first | (refine kk ?_; intros) | refine kfk ?_ ?_ <;> intro hb | fail)
   exact kret (bpI hp)⟩
end
noncomputable section
open Classical
theorem law_c (p : List RlR) (hp : InP0 p) : Pu Tryz.prog 4 [vP p] (bv true) := by
 have s1 : InP0 p ∧ (0 : Int) ≤ 1048576 ∧ (1048576 : Int) ≤ 1048576 := ⟨hp, by omega, by omega⟩
 refine pu Tryz.func4 rfl Tryz.ntmps4 rfl rfl fun C => ?_
 by_cases hf : p.length + szR p ≤ 1048576
 case neg =>
  have hl : leftV (p.length + szR p) 1048576 = -1 := leftV_not (by omega)
  (repeat' first | (refine kkS [8, 15, 16, 11] [] ?_; intros) | refine kfS [8, 15, 16, 11] [] ?_ ?_ <;> intro hb | fail)
  all_goals first
   | (exfalso; omega)
   | exact kret rfl
 have hl : leftV (p.length + szR p) 1048576 = 1048576 - ((p.length + szR p : Nat) : Int) := leftV_fit (by omega)
 have hin : InP p := p_in_of hp hf
 have p1 : InP0 p ∧ p.length + szR p ≤ 1048576 := ⟨hp, hf⟩
 have p2 : InP p ∧ InP p := ⟨hin, hin⟩
 (repeat' first | (refine kk ?_; intros) | refine kfk ?_ ?_ <;> intro hb | fail)
 refine kr ?_ (h := P_neB _ _ rfl rfl)
 rw [bne_self_eq_false]
 (repeat' first | (refine kk ?_; intros) | refine kfk ?_ ?_ <;> intro hb | fail)
 all_goals first
  | exact kret rfl
  | exact ((by assumption : ¬ (p = p)) rfl).elim
end
end Go.Proofs.YtbabchapkhlenaaGreat
