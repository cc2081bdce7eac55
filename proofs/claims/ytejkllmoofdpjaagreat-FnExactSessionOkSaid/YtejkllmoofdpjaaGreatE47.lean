/- Parts of the proof: V95. -/
import Derived.Test.YtejkllmoofdpjaaGreatE44
namespace Go.Proofs.YtejkllmoofdpjaaGreat
open Go
set_option linter.all false
set_option maxRecDepth 100000
set_option maxHeartbeats 4000000
noncomputable section
open Classical
def negR (g : Gl) : Prop := ∃ u : G, g = u.gl ∧ ∃ x ∈ u.pre, isN x
def fitR2 (p : List RlR) (g : Gl) (n : Int) : Prop := ∃ u : G, g = u.gl ∧ (∀ v ∈ gvars u, (v : Int) < n) ∧ ∀ x ∈ u.pre, okC p x
theorem negR_gl {u : G} : negR u.gl ↔ ∃ x ∈ u.pre, isN x := ⟨fun ⟨_, e, h⟩ => gl_inj e ▸ h, fun h => ⟨u, rfl, h⟩⟩
theorem fitR2_gl {p : List RlR} {u : G} {n : Int} : fitR2 p u.gl n ↔ (∀ v ∈ gvars u, (v : Int) < n) ∧ ∀ x ∈ u.pre, okC p x := ⟨fun ⟨_, e, h⟩ => gl_inj e ▸ h, fun h => ⟨u, rfl, h⟩⟩
theorem goalP_iff {p : List RlR} {g : Gl} {n : Int} : goalP p g n ↔ g.ok ∧ ¬ negR g ∧ fitR2 p g n := by
 constructor
 ·rintro ⟨u, rfl, h1, h2, h3, h4⟩
  exact ⟨okG_iff.2 ⟨u, rfl, h1⟩, fun h => by obtain ⟨x, hx, h5⟩ := negR_gl.1 h; exact h4 x hx h5, fitR2_gl.2 ⟨h3, h2⟩⟩
 ·rintro ⟨h1, h2, h3⟩
  obtain ⟨u, rfl, hu⟩ := okG_iff.1 h1
  obtain ⟨h4, h5⟩ := fitR2_gl.1 h3
  exact ⟨u, rfl, hu, h5, h4, fun x hx h => h2 (negR_gl.2 ⟨x, hx, h⟩)⟩
theorem ok_gvp {g : Gl} (h : g.ok) : ∃ u : G, g = u.gl ∧ GvP u := by
 obtain ⟨u, rfl, hu⟩ := okG_iff.1 h
 exact ⟨u, rfl, hu.ok.gvp⟩
theorem negative_r : Con1 Tryz.prog 111 Gl vg (fun g => bp (negR g)) (fun g => ∃ u : G, g = u.gl ∧ GvP u) := ⟨fun g ⟨u, e, hu⟩ => by
 subst e
 have := hasKind_c.h u hu
 rwa [bpC (negR_gl (u := u)).symm] at this⟩
theorem fits_r : Con3 Tryz.prog 112 (List RlR) Gl Int vP vg iv (fun p g n => bp (fitR2 p g n)) (fun p g _ => p.length ≤ 1000 ∧ ∃ u : G, g = u.gl ∧ GvP u) := ⟨fun p g n ⟨hp, u, e, hu⟩ => by
 subst e
 have p1 : p.length ≤ 1000 ∧ GvP u := ⟨hp, hu⟩
 rw [bpC (fitR2_gl (p := p) (u := u) (n := n))]
 refine pu Tryz.func112 rfl Tryz.ntmps112 rfl rfl fun C => ?_
 (repeat' first | (refine kk ?_; intros) | refine kfk ?_ ?_ <;> intro hb | fail)
 all_goals first
  | exact kret (bpF fun h => absurd h.1 (by assumption))
  | exact kret (bpC ⟨fun h => ⟨hb, h⟩, fun h => h.2⟩)⟩
instance noGoal_i : Con1 Tryz.prog 108 Gl vg (fun g => bp (noG g)) (fun g => g.In) := ⟨fun g hin => by
 obtain ⟨i1, i2, i3, i4, i5, i6⟩ := Gl.in_iff.1 hin
 have e1 : (rowsT g.terms).length = g.terms.length := rowsT_len _
 have e2 : g.subE.length = g.goals.length := subE_len g
 refine pu Tryz.func108 rfl Tryz.ntmps108 rfl rfl fun C => ?_
 by_cases c0 : g.kind = 0
 case neg =>
  (repeat' first | (refine kk ?_; intros) | refine kfk ?_ ?_ <;> intro hb | fail)
  all_goals first
   | exact kret (bpF fun h => c0 h.1)
   | (exfalso; omega)
   | exact absurd (by assumption) c0
 by_cases c1 : g.name = noS
 case neg =>
  (repeat' first | (refine kk ?_; intros) | refine kfk ?_ ?_ <;> intro hb | fail)
  all_goals first
   | exact kret (bpF fun h => c1 h.2.1)
   | (exfalso; omega)
   | exact absurd (by assumption) c1
 by_cases c2 : g.terms = []
 case neg =>
  have n0 : ¬ g.terms.length = 0 := fun h => c2 (List.length_eq_zero_iff.1 h)
  (repeat' first | (refine kk ?_; intros) | refine kfk ?_ ?_ <;> intro hb | fail)
  all_goals first
   | exact kret (bpF fun h => c2 h.2.2.1)
   | (exfalso; omega)
   | exact absurd (by assumption) c2
   | exact absurd c1 (by assumption)
 have n2 : g.terms.length = 0 := by rw [c2]; rfl
 by_cases c3 : g.goals = []
 case neg =>
  have n0 : ¬ g.goals.length = 0 := fun h => c3 (List.length_eq_zero_iff.1 h)
  (repeat' first | (refine kk ?_; intros) | refine kfk ?_ ?_ <;> intro hb | fail)
  all_goals first
   | exact kret (bpF fun h => c3 h.2.2.2)
   | (exfalso; omega)
   | exact absurd (by assumption) c3
   | exact absurd c1 (by assumption)
 have n3 : g.goals.length = 0 := by rw [c3]; rfl
 (repeat' first | (refine kk ?_; intros) | refine kfk ?_ ?_ <;> intro hb | fail)
 all_goals first
  | exact kret (bpT ⟨c0, c1, c2, c3⟩)
  | exact absurd c1 (by assumption)⟩
instance noBranch_i : Con1 Tryz.prog 107 BrR vBr (fun b => bp (noB b)) (fun b => b.In) := ⟨fun b hin => by
 have e1 : (b.st.bind.map encB).length = b.st.bind.length := List.length_map _
 have e2 : (b.st.dis.map (encL 5 encB)).length = b.st.dis.length := List.length_map _
 have e3 : (b.st.kinds.map encK).length = b.st.kinds.length := List.length_map _
 have e4 : (b.st.marks.map encM).length = b.st.marks.length := List.length_map _
 have e5 : (b.ch.map encI).length = b.ch.length := List.length_map _
 have i0 := hin.st.nx
 have i1 := hin.st.bind.1
 have i2 := hin.st.dis.1
 have i3 := hin.st.kinds.1
 have i4 := hin.st.marks.1
 have i5 := hin.ch.1
 have z : ∀ {α : Type} {l : List α}, l = [] ↔ l.length = 0 := fun {_ _} => List.length_eq_zero_iff.symm
 rw [bpC (show noB b ↔ (b.ch.length = 0 ∧ b.st.next = 0 ∧ b.st.bind.length = 0 ∧ b.st.dis.length = 0 ∧ b.st.kinds.length = 0 ∧ b.st.marks.length = 0) by unfold noB noSt; rw [z, z, z, z, z])]
 refine pu Tryz.func107 rfl Tryz.ntmps107 rfl rfl fun C => ?_
 by_cases c6 : b.ch.length = 0
 ·by_cases c : b.st.next = 0 ∧ b.st.bind.length = 0 ∧ b.st.dis.length = 0 ∧ b.st.kinds.length = 0 ∧ b.st.marks.length = 0
  ·obtain ⟨c1, c2, c3, c4, c5⟩ := c
   (repeat' first | (refine kk ?_; intros) | refine kfk ?_ ?_ <;> intro hb | fail)
   exact kret (bpT ⟨c6, c1, c2, c3, c4, c5⟩)
  ·(repeat' first | (refine kk ?_; intros) | refine kfk ?_ ?_ <;> intro hb | fail)
   all_goals first
    | exact kret (bpF fun h => c h.2)
    | (exfalso; omega)
 ·(repeat' first | (refine kk ?_; intros) | refine kfk ?_ ?_ <;> intro hb | fail)
  all_goals exact kret (bpF fun h => c6 h.1)⟩
instance branchOk_i : Con1 Tryz.prog 109 BrR vBr (fun b => bp (brOk b)) (fun b => b.In) := ⟨fun b hin => by
 have e5 : (b.ch.map encI).length = b.ch.length := List.length_map _
 have i5 := hin.ch.1
 have p1 := hin.st
 refine pu Tryz.func109 rfl Tryz.ntmps109 rfl rfl fun C => ?_
 (repeat' first | (refine kk ?_; intros) | refine kfk ?_ ?_ <;> intro hb | fail)
 rename_i b1
 refine kfor (ι := Unit) b.ch (fun j _ => [(1, .one (.v (.pointer (some ⟨b1, 0, none⟩)))), (6, vIs b.ch)]) (fun j _ => [abox b1 (encBr b) 55]) (fun j _ => ∀ c ∈ b.ch.take j, 0 ≤ c ∧ c ≤ 7) () (by simp) ?_ ?_
 ·rintro j c _ hj hdd hjl hp
  have hrow : (b.ch.map encI)[j]? = some [.v (.int .i64 c)] := by simp [hj, encI]
  have hm := List.mem_of_getElem? hj
  (repeat' first | (refine kk ?_; intros) | refine kfk ?_ ?_ <;> intro hb | fail)
  all_goals first
   | exact kret (bpF fun h => by have := h.1 c hm; omega)
   | exact ⟨(), take_succ_all hj hp (by omega), kwk⟩
 ·rintro _ hp
  rw [List.take_length] at hp
  (repeat' first | (refine kk ?_; intros) | refine kfk ?_ ?_ <;> intro hb | fail)
  exact kret (bpC ⟨fun h => ⟨hp, h⟩, fun h => h.2⟩)⟩
instance leastNext_i : Con1 Tryz.prog 65 Sm vS1 (fun s => iv (lst s)) (fun s => s.In) := .ind (fun s => SizeOf.sizeOf s) fun N ih s hN hin => by
 obtain ⟨i1, i2, i3, i4, i5⟩ := Sm.in_iff.1 hin
 have e1 : s.kidE.length = s.kids.length := kidE_len s
 have hl := lst_eq s
 refine pu Tryz.func65 rfl Tryz.ntmps65 rfl rfl fun C => ?_
 by_cases hk : hasB s.kind
 ·rw [hl, if_pos hk]
  (repeat' first | (refine kk ?_; intros) | refine kfk ?_ ?_ <;> intro hb | fail)
  all_goals first
   | exact kret rfl
   | (exfalso; omega)
 rw [hl, if_neg hk]
 have k1 : ¬ s.kind = 1 := fun h => hk (.inl h)
 have k2 : ¬ s.kind = 2 := fun h => hk (.inr h)
 (repeat' first | (refine kk ?_; intros) | refine kfk ?_ ?_ <;> intro hb | fail)
 rename_i b1
 refine kfor (ι := Int) s.kids (fun j m => [(1, .one (.v (.pointer (some ⟨b1, 0, none⟩)))), (3, iv m), (19, .one (.s 12 s.kidE))]) (fun j _ => [abox b1 (encS s) 62]) (fun j m => lstL s.kids 100001 = lstL (s.kids.drop j) m) 100001 rfl ?_ ?_
 ·rintro j x m hj hdd hjl hp
  have hrow : s.kidE[j]? = some (encS x) := kidE_get hj
  have hm := List.mem_of_getElem? hj
  have p1 : SizeOf.sizeOf x < N ∧ x.In := ⟨by have := Sm.kid_lt hm; omega, i5 x hm⟩
  rw [hdd] at hp
  (repeat' first | (refine kk ?_; intros) | refine kfk ?_ ?_ <;> intro hb | fail)
  exact ⟨min m (lst x), hp, kwk⟩
 ·rintro m hp
  rw [List.drop_length] at hp
  (repeat' first | (refine kk ?_; intros) | refine kfk ?_ ?_ <;> intro hb | fail)
  exact kret (congrArg iv hp.symm)
theorem kd_look (k : Int) : ((cput (cput (fun _ => none) 3 (1 : Int)) 4 2) k).getD 0 = (kidsN k : Int) := by
 simp only [cput, kidsN]
 repeat' split
 all_goals simp_all
theorem streamOk_i : Con3 Tryz.prog 53 (List RlR) Sm Bool vP vS1 bv (fun p s t => bp (SmOk p s ∧ (t = true ∨ s.kind ≠ 0))) (fun p s _ => p.length ≤ 1000 ∧ s.In) := .ind (fun _ s _ => SizeOf.sizeOf s) fun N ih p s top hN ⟨hp1, hin⟩ => by
 obtain ⟨i1, i2, i3, i4, i5⟩ := Sm.in_iff.1 hin
 have e1 : s.kidE.length = s.kids.length := kidE_len s
 haveI := negative_r
 haveI := fits_r
 refine pu Tryz.func53 rfl Tryz.ntmps53 rfl rfl fun C => ?_
 (repeat' first | (refine kkS [] [12] ?_; intros) | fail)
 rename_i q3 q4
 refine kmm kvI iv fun ms => ?_
 refine kmi 0 (enc := iv) (c := fun _ => none) (m := 3) (v := (1 : Int)) ?_
 refine kmi 0 (enc := iv) (m := 4) (v := (2 : Int)) ?_
 (repeat' first | (refine kkS [] [7] ?_; intros) | fail)
 rw [kd_look]
 by_cases c1 : 0 ≤ s.kind ∧ s.kind ≤ 4
 case neg =>
  (repeat' first | (refine kk ?_; intros) | refine kfk ?_ ?_ <;> intro hb | fail)
  all_goals first
   | exact kret (bpF fun h => c1 (smOk_iff.1 h.1).1)
   | (exfalso; omega)
 by_cases c2 : top = true ∨ s.kind ≠ 0
 case neg =>
  have t1 : top = false := by cases top <;> simp_all
  have t2 : s.kind = 0 := by simp_all
  subst t1
  (repeat' first | (refine kk ?_; intros) | refine kfk ?_ ?_ <;> intro hb | fail)
  all_goals first
   | exact kret (bpF fun h => c2 h.2)
   | (exfalso; omega)
 have hks : s.kind = 0 ∨ s.kind = 1 ∨ s.kind = 2 ∨ s.kind = 3 ∨ s.kind = 4 := by omega
 rcases hks with hk | hk | hk | hk | hk
 ·have t1 : top = true := c2.resolve_right fun h => h hk
  subst t1
  have hkn : kidsN s.kind = 0 := by rw [hk]; rfl
  have yB : ¬ hasB s.kind := by unfold hasB; omega
  have yG : ¬ hasG s.kind := by unfold hasG; omega
  rw [hkn]
  by_cases c3 : s.kids.length = 0
  case neg =>
   (repeat' first | (refine kk ?_; intros) | refine kfk ?_ ?_ <;> intro hb | fail)
   all_goals first
    | exact kret (bpF fun h => c3 ((smOk_iff.1 h.1).2.1.trans hkn))
    | (exfalso; omega)
  by_cases cb : noB s.br
  case neg =>
   haveI := noBranch_i.no
   have := And.intro i2 cb
   (repeat' first | (refine kk ?_; intros) | refine kfk ?_ ?_ <;> intro hb | fail)
   all_goals exact kret (bpF fun h => cb ((smOk_iff.1 h.1).2.2.2.2.1 yB))
  haveI := noBranch_i.yes
  have z1 := And.intro i2 cb
  by_cases cg : noG s.goal
  case neg =>
   haveI := noGoal_i.no
   have := And.intro i3 cg
   (repeat' first | (refine kk ?_; intros) | refine kfk ?_ ?_ <;> intro hb | fail)
   exact kret (bpF fun h => cg ((smOk_iff.1 h.1).2.2.2.2.2.2 yG))
  haveI := noGoal_i.yes
  have z2 := And.intro i3 cg
  (repeat' first | (refine kk ?_; intros) | refine kfk ?_ ?_ <;> intro hb | fail)
  refine kfor (ι := Unit) s.kids (fun j _ => [(2, bv true), (3, .one (.v (.pointer (some ⟨q3, 0, none⟩)))), (4, .one (.v (.pointer (some ⟨q4, 0, none⟩)))), (9, bv false), (85, .one (.s 12 s.kidE))]) (fun j _ => [abox q4 (encS s) 62, abox q3 (encP p) 46]) (fun j _ => ∀ x ∈ s.kids.take j, SmOk p x ∧ (false = true ∨ x.kind ≠ 0)) () (by simp) ?_ ?_
  ·rintro j x _ hj hdd hjl hp
   exact absurd hjl (by omega)
  ·rintro _ hp
   rw [List.take_length] at hp
   have hkids : ∀ x ∈ s.kids, x.kind ≠ 0 ∧ SmOk p x := fun x hx => ⟨(hp x hx).2.resolve_left (by simp), (hp x hx).1⟩
   (repeat' first | (refine kk ?_; intros) | refine kfk ?_ ?_ <;> intro hb | fail)
   exact kret (bpT ⟨smOk_iff.2 ⟨c1, c3.trans hkn.symm, hkids, fun h => absurd h yB, fun _ => cb, fun h => absurd h yG, fun _ => cg⟩, c2⟩)
 ·have hkn : kidsN s.kind = 0 := by rw [hk]; rfl
  have yB : hasB s.kind := by unfold hasB; omega
  have yG : ¬ hasG s.kind := by unfold hasG; omega
  rw [hkn]
  by_cases c3 : s.kids.length = 0
  case neg =>
   (repeat' first | (refine kk ?_; intros) | refine kfk ?_ ?_ <;> intro hb | fail)
   all_goals first
    | exact kret (bpF fun h => c3 ((smOk_iff.1 h.1).2.1.trans hkn))
    | (exfalso; omega)
  by_cases cb : brOk s.br
  case neg =>
   haveI := branchOk_i.no
   have := And.intro i2 cb
   (repeat' first | (refine kk ?_; intros) | refine kfk ?_ ?_ <;> intro hb | fail)
   all_goals exact kret (bpF fun h => cb ((smOk_iff.1 h.1).2.2.2.1 yB))
  haveI := branchOk_i.yes
  have z1 := And.intro i2 cb
  by_cases cg : noG s.goal
  case neg =>
   haveI := noGoal_i.no
   have := And.intro i3 cg
   (repeat' first | (refine kk ?_; intros) | refine kfk ?_ ?_ <;> intro hb | fail)
   exact kret (bpF fun h => cg ((smOk_iff.1 h.1).2.2.2.2.2.2 yG))
  haveI := noGoal_i.yes
  have z2 := And.intro i3 cg
  (repeat' first | (refine kk ?_; intros) | refine kfk ?_ ?_ <;> intro hb | fail)
  refine kfor (ι := Unit) s.kids (fun j _ => [(2, bv top), (3, .one (.v (.pointer (some ⟨q3, 0, none⟩)))), (4, .one (.v (.pointer (some ⟨q4, 0, none⟩)))), (9, bv false), (85, .one (.s 12 s.kidE))]) (fun j _ => [abox q4 (encS s) 62, abox q3 (encP p) 46]) (fun j _ => ∀ x ∈ s.kids.take j, SmOk p x ∧ (false = true ∨ x.kind ≠ 0)) () (by simp) ?_ ?_
  ·rintro j x _ hj hdd hjl hp
   exact absurd hjl (by omega)
  ·rintro _ hp
   rw [List.take_length] at hp
   have hkids : ∀ x ∈ s.kids, x.kind ≠ 0 ∧ SmOk p x := fun x hx => ⟨(hp x hx).2.resolve_left (by simp), (hp x hx).1⟩
   (repeat' first | (refine kk ?_; intros) | refine kfk ?_ ?_ <;> intro hb | fail)
   exact kret (bpT ⟨smOk_iff.2 ⟨c1, c3.trans hkn.symm, hkids, fun _ => cb, fun h => absurd yB h, fun h => absurd h yG, fun _ => cg⟩, c2⟩)
 ·have hkn : kidsN s.kind = 0 := by rw [hk]; rfl
  have yB : hasB s.kind := by unfold hasB; omega
  have yG : hasG s.kind := by unfold hasG; omega
  rw [hkn]
  by_cases c3 : s.kids.length = 0
  case neg =>
   (repeat' first | (refine kk ?_; intros) | refine kfk ?_ ?_ <;> intro hb | fail)
   all_goals first
    | exact kret (bpF fun h => c3 ((smOk_iff.1 h.1).2.1.trans hkn))
    | (exfalso; omega)
  by_cases cb : brOk s.br
  case neg =>
   haveI := branchOk_i.no
   have := And.intro i2 cb
   (repeat' first | (refine kk ?_; intros) | refine kfk ?_ ?_ <;> intro hb | fail)
   all_goals exact kret (bpF fun h => cb ((smOk_iff.1 h.1).2.2.2.1 yB))
  haveI := branchOk_i.yes
  have z1 := And.intro i2 cb
  (repeat' first | (refine kk ?_; intros) | refine kfk ?_ ?_ <;> intro hb | fail)
  refine kfor (ι := Unit) s.kids (fun j _ => [(2, bv top), (3, .one (.v (.pointer (some ⟨q3, 0, none⟩)))), (4, .one (.v (.pointer (some ⟨q4, 0, none⟩)))), (9, bv true), (85, .one (.s 12 s.kidE))]) (fun j _ => [abox q4 (encS s) 62, abox q3 (encP p) 46]) (fun j _ => ∀ x ∈ s.kids.take j, SmOk p x ∧ (false = true ∨ x.kind ≠ 0)) () (by simp) ?_ ?_
  ·rintro j x _ hj hdd hjl hp
   exact absurd hjl (by omega)
  ·rintro _ hp
   rw [List.take_length] at hp
   have hkids : ∀ x ∈ s.kids, x.kind ≠ 0 ∧ SmOk p x := fun x hx => ⟨(hp x hx).2.resolve_left (by simp), (hp x hx).1⟩
   by_cases ck : s.goal.ok
   case neg =>
    haveI := goalOk_i.no
    have := And.intro i3 ck
    (repeat' first | (refine kk ?_; intros) | refine kfk ?_ ?_ <;> intro hb | fail)
    exact kret (bpF fun h => ck (goalP_iff.1 ((smOk_iff.1 h.1).2.2.2.2.2.1 yG)).1)
   haveI := goalOk_i.yes
   have z3 := And.intro i3 ck
   have p5 := ok_gvp ck
   have p6 : p.length ≤ 1000 ∧ ∃ u : G, s.goal = u.gl ∧ GvP u := ⟨hp1, p5⟩
   by_cases cn : negR s.goal
   ·haveI := negative_r.yes
    have := And.intro p5 cn
    (repeat' first | (refine kk ?_; intros) | refine kfk ?_ ?_ <;> intro hb | fail)
    exact kret (bpF fun h => (goalP_iff.1 ((smOk_iff.1 h.1).2.2.2.2.2.1 yG)).2.1 cn)
   ·haveI := negative_r.no
    have := And.intro p5 cn
    (repeat' first | (refine kk ?_; intros) | refine kfk ?_ ?_ <;> intro hb | fail)
    exact kret (bpC ⟨fun h => ⟨smOk_iff.2 ⟨c1, c3.trans hkn.symm, hkids, fun _ => cb, fun h => absurd yB h, fun _ => goalP_iff.2 ⟨ck, cn, h⟩, fun h => absurd yG h⟩, c2⟩, fun h => (goalP_iff.1 ((smOk_iff.1 h.1).2.2.2.2.2.1 yG)).2.2⟩)
 ·have hkn : kidsN s.kind = 1 := by rw [hk]; rfl
  have yB : ¬ hasB s.kind := by unfold hasB; omega
  have yG : hasG s.kind := by unfold hasG; omega
  rw [hkn]
  by_cases c3 : s.kids.length = 1
  case neg =>
   (repeat' first | (refine kk ?_; intros) | refine kfk ?_ ?_ <;> intro hb | fail)
   all_goals first
    | exact kret (bpF fun h => c3 ((smOk_iff.1 h.1).2.1.trans hkn))
    | (exfalso; omega)
  by_cases cb : noB s.br
  case neg =>
   haveI := noBranch_i.no
   have := And.intro i2 cb
   (repeat' first | (refine kk ?_; intros) | refine kfk ?_ ?_ <;> intro hb | fail)
   all_goals exact kret (bpF fun h => cb ((smOk_iff.1 h.1).2.2.2.2.1 yB))
  haveI := noBranch_i.yes
  have z1 := And.intro i2 cb
  (repeat' first | (refine kk ?_; intros) | refine kfk ?_ ?_ <;> intro hb | fail)
  refine kfor (ι := Unit) s.kids (fun j _ => [(2, bv top), (3, .one (.v (.pointer (some ⟨q3, 0, none⟩)))), (4, .one (.v (.pointer (some ⟨q4, 0, none⟩)))), (9, bv true), (85, .one (.s 12 s.kidE))]) (fun j _ => [abox q4 (encS s) 62, abox q3 (encP p) 46]) (fun j _ => ∀ x ∈ s.kids.take j, SmOk p x ∧ (false = true ∨ x.kind ≠ 0)) () (by simp) ?_ ?_
  ·rintro j x _ hj hdd hjl hp
   have hrow : s.kidE[j]? = some (encS x) := kidE_get hj
   have hm := List.mem_of_getElem? hj
   have s1 : SizeOf.sizeOf x < N ∧ p.length ≤ 1000 ∧ x.In := ⟨by have := Sm.kid_lt hm; omega, hp1, i5 x hm⟩
   (repeat' first | (refine kk ?_; intros) | refine kfk ?_ ?_ <;> intro hb | fail)
   all_goals first
    | exact ⟨(), take_succ_all hj hp (by assumption), kwk⟩
    | exact kret (bpF fun h => absurd ((smOk_iff.1 h.1).2.2.1 x hm) fun w => (by assumption : ¬ (SmOk p x ∧ (false = true ∨ x.kind ≠ 0))) ⟨w.2, .inr w.1⟩)
  ·rintro _ hp
   rw [List.take_length] at hp
   have hkids : ∀ x ∈ s.kids, x.kind ≠ 0 ∧ SmOk p x := fun x hx => ⟨(hp x hx).2.resolve_left (by simp), (hp x hx).1⟩
   by_cases ck : s.goal.ok
   case neg =>
    haveI := goalOk_i.no
    have := And.intro i3 ck
    (repeat' first | (refine kk ?_; intros) | refine kfk ?_ ?_ <;> intro hb | fail)
    exact kret (bpF fun h => ck (goalP_iff.1 ((smOk_iff.1 h.1).2.2.2.2.2.1 yG)).1)
   haveI := goalOk_i.yes
   have z3 := And.intro i3 ck
   have p5 := ok_gvp ck
   have p6 : p.length ≤ 1000 ∧ ∃ u : G, s.goal = u.gl ∧ GvP u := ⟨hp1, p5⟩
   by_cases cn : negR s.goal
   ·haveI := negative_r.yes
    have := And.intro p5 cn
    (repeat' first | (refine kk ?_; intros) | refine kfk ?_ ?_ <;> intro hb | fail)
    exact kret (bpF fun h => (goalP_iff.1 ((smOk_iff.1 h.1).2.2.2.2.2.1 yG)).2.1 cn)
   ·haveI := negative_r.no
    have := And.intro p5 cn
    (repeat' first | (refine kk ?_; intros) | refine kfk ?_ ?_ <;> intro hb | fail)
    exact kret (bpC ⟨fun h => ⟨smOk_iff.2 ⟨c1, c3.trans hkn.symm, hkids, fun h => absurd h yB, fun _ => cb, fun _ => goalP_iff.2 ⟨ck, cn, h⟩, fun h => absurd yG h⟩, c2⟩, fun h => (goalP_iff.1 ((smOk_iff.1 h.1).2.2.2.2.2.1 yG)).2.2⟩)
 ·have hkn : kidsN s.kind = 2 := by rw [hk]; rfl
  have yB : ¬ hasB s.kind := by unfold hasB; omega
  have yG : ¬ hasG s.kind := by unfold hasG; omega
  rw [hkn]
  by_cases c3 : s.kids.length = 2
  case neg =>
   (repeat' first | (refine kk ?_; intros) | refine kfk ?_ ?_ <;> intro hb | fail)
   all_goals first
    | exact kret (bpF fun h => c3 ((smOk_iff.1 h.1).2.1.trans hkn))
    | (exfalso; omega)
  by_cases cb : noB s.br
  case neg =>
   haveI := noBranch_i.no
   have := And.intro i2 cb
   (repeat' first | (refine kk ?_; intros) | refine kfk ?_ ?_ <;> intro hb | fail)
   all_goals exact kret (bpF fun h => cb ((smOk_iff.1 h.1).2.2.2.2.1 yB))
  haveI := noBranch_i.yes
  have z1 := And.intro i2 cb
  by_cases cg : noG s.goal
  case neg =>
   haveI := noGoal_i.no
   have := And.intro i3 cg
   (repeat' first | (refine kk ?_; intros) | refine kfk ?_ ?_ <;> intro hb | fail)
   exact kret (bpF fun h => cg ((smOk_iff.1 h.1).2.2.2.2.2.2 yG))
  haveI := noGoal_i.yes
  have z2 := And.intro i3 cg
  (repeat' first | (refine kk ?_; intros) | refine kfk ?_ ?_ <;> intro hb | fail)
  refine kfor (ι := Unit) s.kids (fun j _ => [(2, bv top), (3, .one (.v (.pointer (some ⟨q3, 0, none⟩)))), (4, .one (.v (.pointer (some ⟨q4, 0, none⟩)))), (9, bv false), (85, .one (.s 12 s.kidE))]) (fun j _ => [abox q4 (encS s) 62, abox q3 (encP p) 46]) (fun j _ => ∀ x ∈ s.kids.take j, SmOk p x ∧ (false = true ∨ x.kind ≠ 0)) () (by simp) ?_ ?_
  ·rintro j x _ hj hdd hjl hp
   have hrow : s.kidE[j]? = some (encS x) := kidE_get hj
   have hm := List.mem_of_getElem? hj
   have s1 : SizeOf.sizeOf x < N ∧ p.length ≤ 1000 ∧ x.In := ⟨by have := Sm.kid_lt hm; omega, hp1, i5 x hm⟩
   (repeat' first | (refine kk ?_; intros) | refine kfk ?_ ?_ <;> intro hb | fail)
   all_goals first
    | exact ⟨(), take_succ_all hj hp (by assumption), kwk⟩
    | exact kret (bpF fun h => absurd ((smOk_iff.1 h.1).2.2.1 x hm) fun w => (by assumption : ¬ (SmOk p x ∧ (false = true ∨ x.kind ≠ 0))) ⟨w.2, .inr w.1⟩)
  ·rintro _ hp
   rw [List.take_length] at hp
   have hkids : ∀ x ∈ s.kids, x.kind ≠ 0 ∧ SmOk p x := fun x hx => ⟨(hp x hx).2.resolve_left (by simp), (hp x hx).1⟩
   (repeat' first | (refine kk ?_; intros) | refine kfk ?_ ?_ <;> intro hb | fail)
   exact kret (bpT ⟨smOk_iff.2 ⟨c1, c3.trans hkn.symm, hkids, fun h => absurd h yB, fun _ => cb, fun h => absurd h yG, fun _ => cg⟩, c2⟩)
instance StreamOk_i : Con2 Tryz.prog 14 (List RlR) Sm vP vS1 (fun p s => bp (posOk p ∧ SmOk p s)) (fun p s => InP p ∧ s.In) := ⟨fun p s ⟨hp, hs⟩ => by
 haveI := streamOk_i
 refine pu Tryz.func14 rfl Tryz.ntmps14 rfl rfl fun C => ?_
 by_cases h : posOk p
 ·have p1 : p.length ≤ 1000 ∧ s.In := ⟨by have := h.1.1; omega, hs⟩
  (repeat' first | (refine kk ?_; intros) | refine kfk ?_ ?_ <;> intro hb | fail)
  all_goals first
   | exact absurd h (by assumption)
   | exact kret (bpC (p := SmOk p s ∧ (true = true ∨ s.kind ≠ 0)) ⟨fun w => ⟨h, w.1⟩, fun w => ⟨w.2, .inl rfl⟩⟩)
 ·(repeat' first | (refine kk ?_; intros) | refine kfk ?_ ?_ <;> intro hb | fail)
  all_goals first
   | exact kret (bpF fun w => h w.1)
   | exact absurd (by assumption) h⟩
end
end Go.Proofs.YtejkllmoofdpjaaGreat
