/- Parts of the proof: V96. -/
import Derived.Test.YtejkllmoofdpjaaGreatE47
import Derived.Test.YtejkllmoofdpjaaGreatE46
namespace Go.Proofs.YtejkllmoofdpjaaGreat
open Go
set_option linter.all false
set_option maxRecDepth 100000
set_option maxHeartbeats 4000000
noncomputable section
open Classical
instance none_s : Con1 Tryz.prog 58 Gl vg (fun g => bp (noG g)) (fun g => g.In) := ⟨fun g hin => by
 obtain ⟨i1, i2, i3, i4, i5, i6⟩ := Gl.in_iff.1 hin
 have e1 : (rowsT g.terms).length = g.terms.length := rowsT_len _
 have e2 : g.subE.length = g.goals.length := subE_len g
 refine pu Tryz.func58 rfl Tryz.ntmps58 rfl rfl fun C => ?_
 by_cases c0 : g.kind = 0
 case neg =>
  (repeat' first | (refine kk ?_; intros) | refine kfk ?_ ?_ <;> intro hb | fail)
  all_goals first
   | exact kret (bpF fun h => c0 h.1)
   | (exfalso; omega)
   | exact absurd (by assumption) c0
 by_cases c1 : g.name = noS
 case neg =>
  (repeat' first | (refine kk ?_; intros) | refine kfk ?_ ?_ <;> intro hb | fail)
  all_goals first
   | exact kret (bpF fun h => c1 h.2.1)
   | (exfalso; omega)
   | exact absurd (by assumption) c1
 by_cases c2 : g.terms = []
 case neg =>
  have n0 : ¬ g.terms.length = 0 := fun h => c2 (List.length_eq_zero_iff.1 h)
  (repeat' first | (refine kk ?_; intros) | refine kfk ?_ ?_ <;> intro hb | fail)
  all_goals first
   | exact kret (bpF fun h => c2 h.2.2.1)
   | (exfalso; omega)
   | exact absurd (by assumption) c2
   | exact absurd c1 (by assumption)
 have n2 : g.terms.length = 0 := by rw [c2]; rfl
 by_cases c3 : g.goals = []
 case neg =>
  have n0 : ¬ g.goals.length = 0 := fun h => c3 (List.length_eq_zero_iff.1 h)
  (repeat' first | (refine kk ?_; intros) | refine kfk ?_ ?_ <;> intro hb | fail)
  all_goals first
   | exact kret (bpF fun h => c3 h.2.2.2)
   | (exfalso; omega)
   | exact absurd (by assumption) c3
   | exact absurd c1 (by assumption)
 have n3 : g.goals.length = 0 := by rw [c3]; rfl
 (repeat' first | (refine kk ?_; intros) | refine kfk ?_ ?_ <;> intro hb | fail)
 all_goals first
  | exact kret (bpT ⟨c0, c1, c2, c3⟩)
  | exact absurd c1 (by assumption)⟩
theorem cmpZ_s : Con2 Tryz.prog 165 (List BdR) Value vBs (fun v => .one (.v v)) (fun l _ => iv (if l = [] then 0 else 1)) (fun l v => l.length ≤ 1048576 ∧ v = .slice none 0 0) := ⟨fun l v ⟨hl, hv⟩ => by
 subst hv
 have hlen : (l.map encB).length = l.length := List.length_map _
 refine pu Tryz.func165 rfl Tryz.ntmps165 rfl rfl fun C => ?_
 (repeat' first | (refine kk ?_; intros) | refine kfk ?_ ?_ <;> intro hb | fail)
 refine kloop (ι := Unit) (fun _ => 0) (fun _ => [(0, vBs l), (1, .one (.v (.slice none 0 0))), (5, iv 0)]) (fun _ => []) (fun _ => True) () trivial ?_
 intro _ _
 by_cases h : l = []
 ·subst h
  (repeat' first | (refine kk ?_; intros) | refine kfk ?_ ?_ <;> intro hb | fail)
  exact kret rfl
 ·have h0 : ¬ l.length = 0 := fun e => h (List.length_eq_zero_iff.1 e)
  rw [if_neg h]
  (repeat' first | (refine kk ?_; intros) | refine kfk ?_ ?_ <;> intro hb | fail)
  exact kret rfl⟩
theorem sameZ_s : Con2 Tryz.prog 118 StR (List D) vStr AV.agg (fun s _ => bp (noSt s)) (fun s z => s.In ∧ z = zCs) := ⟨fun s z0 ⟨hin, hz0⟩ => by
 subst hz0
 have p1 : s.bind.length ≤ 1048576 ∧ (Value.slice none 0 0) = .slice none 0 0 := ⟨hin.bind.1, rfl⟩
 haveI := cmpZ_s
 have e1 : (s.bind.map encB).length = s.bind.length := List.length_map _
 have e2 : (s.dis.map (encL 5 encB)).length = s.dis.length := List.length_map _
 have e3 : (s.kinds.map encK).length = s.kinds.length := List.length_map _
 have e4 : (s.marks.map encM).length = s.marks.length := List.length_map _
 have i0 := hin.nx
 have i1 := hin.bind.1
 have i2 := hin.dis.1
 have i3 := hin.kinds.1
 have i4 := hin.marks.1
 have z : ∀ {α : Type} {l : List α}, l = [] ↔ l.length = 0 := fun {_ _} => List.length_eq_zero_iff.symm
 refine pu Tryz.func118 rfl Tryz.ntmps118 rfl rfl fun C => ?_
 by_cases c1 : s.next = 0
 case neg =>
  (repeat' first | (refine kk ?_; intros) | refine kfk ?_ ?_ <;> intro hb | fail)
  exact kret (bpF fun h => c1 h.1)
 by_cases c2 : s.bind = []
 case neg =>
  have hc : (if s.bind = [] then (0 : Int) else 1) = 1 := if_neg c2
  (repeat' first | (refine kk ?_; intros) | refine kfk ?_ ?_ <;> intro hb | fail)
  exact kret (bpF fun h => c2 h.2.1)
 have hc : (if s.bind = [] then (0 : Int) else 1) = 0 := if_pos c2
 by_cases c3 : s.dis.length = 0
 case neg =>
  (repeat' first | (refine kk ?_; intros) | refine kfk ?_ ?_ <;> intro hb | fail)
  exact kret (bpF fun h => c3 (z.1 h.2.2.1))
 by_cases c4 : s.kinds.length = 0
 case neg =>
  (repeat' first | (refine kk ?_; intros) | refine kfk ?_ ?_ <;> intro hb | fail)
  exact kret (bpF fun h => c4 (z.1 h.2.2.2.1))
 by_cases c5 : s.marks.length = 0
 case neg =>
  (repeat' first | (refine kk ?_; intros) | refine kfk ?_ ?_ <;> intro hb | fail)
  exact kret (bpF fun h => c5 (z.1 h.2.2.2.2))
 (repeat' first | (refine kk ?_; intros) | refine kfk ?_ ?_ <;> intro hb | fail)
 rename_i q2 q3
 rw [c3]
 refine kfor (ι := Unit) ([] : List Unit) (fun j _ => [(2, .one (.v (.pointer (some ⟨q2, 0, none⟩)))), (3, .one (.v (.pointer (some ⟨q3, 0, none⟩))))]) (fun j _ => [abox q3 zCs 53, abox q2 (encSt s) 53]) (fun _ _ => True) () trivial (fun _ _ _ h => by simp at h) ?_
 intro _ _
 (repeat' first | (refine kk ?_; intros) | refine kfk ?_ ?_ <;> intro hb | fail)
 rw [c4]
 refine kfor (ι := Unit) ([] : List Unit) (fun j _ => [(2, .one (.v (.pointer (some ⟨q2, 0, none⟩)))), (3, .one (.v (.pointer (some ⟨q3, 0, none⟩))))]) (fun j _ => [abox q3 zCs 53, abox q2 (encSt s) 53]) (fun _ _ => True) () trivial (fun _ _ _ h => by simp at h) ?_
 intro _ _
 (repeat' first | (refine kk ?_; intros) | refine kfk ?_ ?_ <;> intro hb | fail)
 rw [c5]
 refine kfor (ι := Unit) ([] : List Unit) (fun j _ => [(2, .one (.v (.pointer (some ⟨q2, 0, none⟩)))), (3, .one (.v (.pointer (some ⟨q3, 0, none⟩))))]) (fun j _ => [abox q3 zCs 53, abox q2 (encSt s) 53]) (fun _ _ => True) () trivial (fun _ _ _ h => by simp at h) ?_
 intro _ _
 (repeat' first | (refine kk ?_; intros) | refine kfk ?_ ?_ <;> intro hb | fail)
 exact kret (bpT ⟨c1, c2, z.2 c3, z.2 c4, z.2 c5⟩)⟩
instance empty_s : Con1 Tryz.prog 59 BrR vBr (fun b => bp (noB b)) (fun b => b.In) := ⟨fun b hin => by
 haveI := sameZ_s
 have p2 : b.st.In ∧ zCs = zCs := ⟨hin.st, rfl⟩
 have e5 : (b.ch.map encI).length = b.ch.length := List.length_map _
 have i5 := hin.ch.1
 have p1 := hin.st
 refine pu Tryz.func59 rfl Tryz.ntmps59 rfl rfl fun C => ?_
 by_cases c : b.ch = []
 ·have c0 : b.ch.length = 0 := by rw [c]; rfl
  (repeat' first | (refine kk ?_; intros) | refine kfk ?_ ?_ <;> intro hb | fail)
  all_goals first
   | exact kret (bpC ⟨fun h => ⟨c, h⟩, fun h => h.2⟩)
   | (exfalso; omega)
 ·have c0 : ¬ b.ch.length = 0 := fun h => c (List.length_eq_zero_iff.1 h)
  (repeat' first | (refine kk ?_; intros) | refine kfk ?_ ?_ <;> intro hb | fail)
  all_goals first
   | exact kret (bpF fun h => c h.1)
   | (exfalso; omega)⟩
instance branchOk_s : Con1 Tryz.prog 102 BrR vBr (fun b => bp (brOk b)) (fun b => b.In) := ⟨fun b hin => by
 have e5 : (b.ch.map encI).length = b.ch.length := List.length_map _
 have i5 := hin.ch.1
 have p1 := hin.st
 have p0 : True := trivial
 refine pu Tryz.func102 rfl Tryz.ntmps102 rfl rfl fun C => ?_
 (repeat' first | (refine kk ?_; intros) | refine kfk ?_ ?_ <;> intro hb | fail)
 rename_i b1
 refine kfor (ι := Unit) b.ch (fun j _ => [(1, .one (.v (.pointer (some ⟨b1, 0, none⟩)))), (6, vIs b.ch)]) (fun j _ => [abox b1 (encBr b) 55]) (fun j _ => ∀ c ∈ b.ch.take j, 0 ≤ c ∧ c ≤ 7) () (by simp) ?_ ?_
 ·rintro j c _ hj hdd hjl hp
  have hrow : (b.ch.map encI)[j]? = some [.v (.int .i64 c)] := by simp [hj, encI]
  have hm := List.mem_of_getElem? hj
  (repeat' first | (refine kk ?_; intros) | refine kfk ?_ ?_ <;> intro hb | fail)
  all_goals first
   | exact kret (bpF fun h => absurd (h.1 c hm) (by assumption))
   | exact ⟨(), take_succ_all hj hp (by assumption), kwk⟩
 ·rintro _ hp
  rw [List.take_length] at hp
  (repeat' first | (refine kk ?_; intros) | refine kfk ?_ ?_ <;> intro hb | fail)
  exact kret (bpC ⟨fun h => ⟨hp, h⟩, fun h => h.2⟩)⟩
instance least_s : Con2 Tryz.prog 61 Sm Int vS1 iv (fun s n => iv (lsr s n)) (fun s _ => s.In) := .ind (fun s _ => SizeOf.sizeOf s) fun N ih s n hN hin => by
 obtain ⟨i1, i2, i3, i4, i5⟩ := Sm.in_iff.1 hin
 have e1 : s.kidE.length = s.kids.length := kidE_len s
 have hl := lsr_eq s n
 refine pu Tryz.func61 rfl Tryz.ntmps61 rfl rfl fun C => ?_
 (repeat' first | (refine kkS [] [7] ?_; intros) | fail)
 rename_i b1
 refine kcutO (ι := Int) (fun m => [(1, iv m), (2, .one (.v (.pointer (some ⟨b1, 0, none⟩))))]) (fun _ => [abox b1 (encS s) 62]) (fun m => m = if hasB s.kind ∧ s.br.st.next < n then s.br.st.next else n) ?_ ?_
 ·(repeat' first | (refine kk ?_; intros) | refine kfk ?_ ?_ <;> intro hb | fail)
  all_goals first
   | exact ⟨s.br.st.next, (if_pos ⟨by unfold hasB; omega, by omega⟩).symm, kwk⟩
   | exact ⟨n, (if_neg (by unfold hasB; omega)).symm, kwk⟩
 ·rintro m0 e0
  rw [← e0] at hl
  rw [hl]
  clear e0 hl
  (repeat' first | (refine kk ?_; intros) | refine kfk ?_ ?_ <;> intro hb | fail)
  refine kfor (ι := Int) s.kids (fun j m => [(1, iv m), (2, .one (.v (.pointer (some ⟨b1, 0, none⟩)))), (28, .one (.s 12 s.kidE))]) (fun j _ => [abox b1 (encS s) 62]) (fun j m => lsrL s.kids m0 = lsrL (s.kids.drop j) m) m0 rfl ?_ ?_
  ·rintro j x m hj hdd hjl hp
   have hrow : s.kidE[j]? = some (encS x) := kidE_get hj
   have hm := List.mem_of_getElem? hj
   have p1 : SizeOf.sizeOf x < N ∧ x.In := ⟨by have := Sm.kid_lt hm; omega, i5 x hm⟩
   rw [hdd] at hp
   (repeat' first | (refine kk ?_; intros) | refine kfk ?_ ?_ <;> intro hb | fail)
   exact ⟨lsr x m, hp, kwk⟩
  ·rintro m hp
   rw [List.drop_length] at hp
   (repeat' first | (refine kk ?_; intros) | refine kfk ?_ ?_ <;> intro hb | fail)
   exact kret (congrArg iv hp.symm)
theorem only_r : Con2 Tryz.prog 151 Gl Bool vg bv (fun g _ => bp (¬ negR g)) (fun g b => (∃ u : G, g = u.gl ∧ GvS u) ∧ b = false) := ⟨fun g b ⟨⟨u, e, hu⟩, hb⟩ => by
 subst e
 have := only_s.h u b ⟨hu, hb⟩
 rwa [bpC (show (∀ x ∈ u.pre, ¬ isN x) ↔ ¬ negR u.gl by rw [negR_gl]; simp)] at this⟩
theorem fitsR_gvs {p : List RlR} {g : Gl} {n : Int} (h : fitsR p g n) : ∃ u : G, g = u.gl ∧ GvS u := by
 obtain ⟨u, rfl, hu, _⟩ := h
 exact ⟨u, rfl, hu.ok.gvs⟩
theorem goalP_fits {p : List RlR} {g : Gl} {n : Int} : goalP p g n ↔ fitsR p g n ∧ ¬ negR g := by
 constructor
 ·rintro ⟨u, rfl, h1, h2, h3, h4⟩
  exact ⟨⟨u, rfl, h1, h2, h3⟩, fun h => by obtain ⟨x, hx, h5⟩ := negR_gl.1 h; exact h4 x hx h5⟩
 ·rintro ⟨⟨u, rfl, h1, h2, h3⟩, h⟩
  exact ⟨u, rfl, h1, h2, h3, fun x hx h5 => h (negR_gl.2 ⟨x, hx, h5⟩)⟩
instance goal_s : Con3 Tryz.prog 103 (List RlR) Gl Int vP vg iv (fun p g n => bp (goalP p g n)) (fun p g _ => p.length ≤ 1000 ∧ g.In) := ⟨fun p g n ⟨hp, hin⟩ => by
 haveI := only_r
 have p1 : p.length ≤ 1000 ∧ g.In := ⟨hp, hin⟩
 refine pu Tryz.func103 rfl Tryz.ntmps103 rfl rfl fun C => ?_
 by_cases h : fitsR p g n
 ·have p2 : (∃ u : G, g = u.gl ∧ GvS u) ∧ false = false := ⟨fitsR_gvs h, rfl⟩
  (repeat' first | (refine kk ?_; intros) | refine kfk ?_ ?_ <;> intro hb | fail)
  all_goals first
   | exact kret (bpC ⟨fun w => goalP_fits.2 ⟨h, w⟩, fun w => (goalP_fits.1 w).2⟩)
   | exact absurd h (by assumption)
 ·(repeat' first | (refine kk ?_; intros) | refine kfk ?_ ?_ <;> intro hb | fail)
  all_goals first
   | exact kret (bpF fun w => h (goalP_fits.1 w).1)
   | exact absurd (by assumption) h⟩
theorem ok21_s : Con2 Tryz.prog 48 (List RlR) Sm vP vS1 (fun p s => bp (SmOk p s)) (fun p s => p.length ≤ 1000 ∧ s.In) := .ind (fun _ s => SizeOf.sizeOf s) fun N ih p s hN ⟨hp1, hin⟩ => by
 obtain ⟨i1, i2, i3, i4, i5⟩ := Sm.in_iff.1 hin
 have e1 : s.kidE.length = s.kids.length := kidE_len s
 have p0 : True := trivial
 refine pu Tryz.func48 rfl Tryz.ntmps48 rfl rfl fun C => ?_
 by_cases c1 : 0 ≤ s.kind ∧ s.kind ≤ 4
 case neg =>
  haveI := l01In_c.no
  have := And.intro p0 c1
  (repeat' first | (refine kk ?_; intros) | refine kfk ?_ ?_ <;> intro hb | fail)
  exact kret (bpF fun h => c1 (smOk_iff.1 h).1)
 have hks : s.kind = 0 ∨ s.kind = 1 ∨ s.kind = 2 ∨ s.kind = 3 ∨ s.kind = 4 := by omega
 haveI := l01In_c.yes
 have c1' : True ∧ 0 ≤ s.kind ∧ s.kind ≤ 4 := ⟨trivial, c1⟩
 rcases hks with hk | hk | hk | hk | hk
 ·have hkn : kidsN s.kind = 0 := by rw [hk]; rfl
  have yB : ¬ hasB s.kind := by unfold hasB; omega
  have yG : ¬ hasG s.kind := by unfold hasG; omega
  have hix : ([[.v (.int .i64 0)], [.v (.int .i64 0)], [.v (.int .i64 0)], [.v (.int .i64 1)], [.v (.int .i64 2)]] : List (List D))[0]? = some [.v (.int .i64 0)] := rfl
  by_cases c3 : s.kids.length = 0
  case neg =>
   (repeat' first | (refine kk ?_; intros) | refine kfk ?_ ?_ <;> intro hb | fail)
   rw [hk]
   (repeat' first | (refine kk ?_; intros) | refine kfk ?_ ?_ <;> intro hb | fail)
   exact kret (bpF fun h => c3 ((smOk_iff.1 h).2.1.trans hkn))
  (repeat' first | (refine kk ?_; intros) | refine kfk ?_ ?_ <;> intro hb | fail)
  rw [hk]
  (repeat' first | (refine kk ?_; intros) | refine kfk ?_ ?_ <;> intro hb | fail)
  rename_i q2 q3
  refine kfor (ι := Unit) s.kids (fun j _ => [(2, .one (.v (.pointer (some ⟨q2, 0, none⟩)))), (3, .one (.v (.pointer (some ⟨q3, 0, none⟩)))), (23, .one (.s 12 s.kidE))]) (fun j _ => [abox q3 (encS s) 62, abox q2 (encP p) 46]) (fun j _ => ∀ x ∈ s.kids.take j, x.kind ≠ 0 ∧ SmOk p x) () (by simp) ?_ ?_
  ·rintro j x _ hj hdd hjl hp
   exact absurd hjl (by omega)
  ·rintro _ hkids
   rw [List.take_length] at hkids
   by_cases cb : noB s.br
   case neg =>
    haveI := empty_s.no
    have := And.intro i2 cb
    (repeat' first | (refine kk ?_; intros) | refine kfk ?_ ?_ <;> intro hb | fail)
    exact kret (bpF fun h => cb ((smOk_iff.1 h).2.2.2.2.1 yB))
   haveI := empty_s.yes
   have z1 := And.intro i2 cb
   have z2 : p.length ≤ 1000 ∧ s.goal.In := ⟨hp1, i3⟩
   (repeat' first | (refine kk ?_; intros) | refine kfk ?_ ?_ <;> intro hb | fail)
   exact kret (bpC ⟨fun h => smOk_iff.2 ⟨c1, c3.trans hkn.symm, hkids, fun h => absurd h yB, fun _ => cb, fun h => absurd h yG, fun _ => h⟩, fun h => (smOk_iff.1 h).2.2.2.2.2.2 yG⟩)
 ·have hkn : kidsN s.kind = 0 := by rw [hk]; rfl
  have yB : hasB s.kind := by unfold hasB; omega
  have yG : ¬ hasG s.kind := by unfold hasG; omega
  have hix : ([[.v (.int .i64 0)], [.v (.int .i64 0)], [.v (.int .i64 0)], [.v (.int .i64 1)], [.v (.int .i64 2)]] : List (List D))[1]? = some [.v (.int .i64 0)] := rfl
  by_cases c3 : s.kids.length = 0
  case neg =>
   (repeat' first | (refine kk ?_; intros) | refine kfk ?_ ?_ <;> intro hb | fail)
   rw [hk]
   (repeat' first | (refine kk ?_; intros) | refine kfk ?_ ?_ <;> intro hb | fail)
   exact kret (bpF fun h => c3 ((smOk_iff.1 h).2.1.trans hkn))
  (repeat' first | (refine kk ?_; intros) | refine kfk ?_ ?_ <;> intro hb | fail)
  rw [hk]
  (repeat' first | (refine kk ?_; intros) | refine kfk ?_ ?_ <;> intro hb | fail)
  rename_i q2 q3
  refine kfor (ι := Unit) s.kids (fun j _ => [(2, .one (.v (.pointer (some ⟨q2, 0, none⟩)))), (3, .one (.v (.pointer (some ⟨q3, 0, none⟩)))), (23, .one (.s 12 s.kidE))]) (fun j _ => [abox q3 (encS s) 62, abox q2 (encP p) 46]) (fun j _ => ∀ x ∈ s.kids.take j, x.kind ≠ 0 ∧ SmOk p x) () (by simp) ?_ ?_
  ·rintro j x _ hj hdd hjl hp
   exact absurd hjl (by omega)
  ·rintro _ hkids
   rw [List.take_length] at hkids
   by_cases cb : brOk s.br
   case neg =>
    haveI := branchOk_s.no
    have := And.intro i2 cb
    (repeat' first | (refine kk ?_; intros) | refine kfk ?_ ?_ <;> intro hb | fail)
    exact kret (bpF fun h => cb ((smOk_iff.1 h).2.2.2.1 yB))
   haveI := branchOk_s.yes
   have z1 := And.intro i2 cb
   have z2 : p.length ≤ 1000 ∧ s.goal.In := ⟨hp1, i3⟩
   (repeat' first | (refine kk ?_; intros) | refine kfk ?_ ?_ <;> intro hb | fail)
   exact kret (bpC ⟨fun h => smOk_iff.2 ⟨c1, c3.trans hkn.symm, hkids, fun _ => cb, fun h => absurd yB h, fun h => absurd h yG, fun _ => h⟩, fun h => (smOk_iff.1 h).2.2.2.2.2.2 yG⟩)
 ·have hkn : kidsN s.kind = 0 := by rw [hk]; rfl
  have yB : hasB s.kind := by unfold hasB; omega
  have yG : hasG s.kind := by unfold hasG; omega
  have hix : ([[.v (.int .i64 0)], [.v (.int .i64 0)], [.v (.int .i64 0)], [.v (.int .i64 1)], [.v (.int .i64 2)]] : List (List D))[2]? = some [.v (.int .i64 0)] := rfl
  by_cases c3 : s.kids.length = 0
  case neg =>
   (repeat' first | (refine kk ?_; intros) | refine kfk ?_ ?_ <;> intro hb | fail)
   rw [hk]
   (repeat' first | (refine kk ?_; intros) | refine kfk ?_ ?_ <;> intro hb | fail)
   exact kret (bpF fun h => c3 ((smOk_iff.1 h).2.1.trans hkn))
  (repeat' first | (refine kk ?_; intros) | refine kfk ?_ ?_ <;> intro hb | fail)
  rw [hk]
  (repeat' first | (refine kk ?_; intros) | refine kfk ?_ ?_ <;> intro hb | fail)
  rename_i q2 q3
  refine kfor (ι := Unit) s.kids (fun j _ => [(2, .one (.v (.pointer (some ⟨q2, 0, none⟩)))), (3, .one (.v (.pointer (some ⟨q3, 0, none⟩)))), (23, .one (.s 12 s.kidE))]) (fun j _ => [abox q3 (encS s) 62, abox q2 (encP p) 46]) (fun j _ => ∀ x ∈ s.kids.take j, x.kind ≠ 0 ∧ SmOk p x) () (by simp) ?_ ?_
  ·rintro j x _ hj hdd hjl hp
   exact absurd hjl (by omega)
  ·rintro _ hkids
   rw [List.take_length] at hkids
   by_cases cb : brOk s.br
   case neg =>
    haveI := branchOk_s.no
    have := And.intro i2 cb
    (repeat' first | (refine kk ?_; intros) | refine kfk ?_ ?_ <;> intro hb | fail)
    exact kret (bpF fun h => cb ((smOk_iff.1 h).2.2.2.1 yB))
   haveI := branchOk_s.yes
   have z1 := And.intro i2 cb
   have z2 : p.length ≤ 1000 ∧ s.goal.In := ⟨hp1, i3⟩
   have el : lst s = s.br.st.next := by rw [lst_eq, if_pos yB]
   (repeat' first | (refine kk ?_; intros) | refine kfk ?_ ?_ <;> intro hb | fail)
   exact kret (bpC ⟨fun h => smOk_iff.2 ⟨c1, c3.trans hkn.symm, hkids, fun _ => cb, fun h => absurd yB h, fun _ => el ▸ h, fun h => absurd yG h⟩, fun h => el ▸ (smOk_iff.1 h).2.2.2.2.2.1 yG⟩)
 ·have hkn : kidsN s.kind = 1 := by rw [hk]; rfl
  have yB : ¬ hasB s.kind := by unfold hasB; omega
  have yG : hasG s.kind := by unfold hasG; omega
  have hix : ([[.v (.int .i64 0)], [.v (.int .i64 0)], [.v (.int .i64 0)], [.v (.int .i64 1)], [.v (.int .i64 2)]] : List (List D))[3]? = some [.v (.int .i64 1)] := rfl
  by_cases c3 : s.kids.length = 1
  case neg =>
   (repeat' first | (refine kk ?_; intros) | refine kfk ?_ ?_ <;> intro hb | fail)
   rw [hk]
   (repeat' first | (refine kk ?_; intros) | refine kfk ?_ ?_ <;> intro hb | fail)
   exact kret (bpF fun h => c3 ((smOk_iff.1 h).2.1.trans hkn))
  (repeat' first | (refine kk ?_; intros) | refine kfk ?_ ?_ <;> intro hb | fail)
  rw [hk]
  (repeat' first | (refine kk ?_; intros) | refine kfk ?_ ?_ <;> intro hb | fail)
  rename_i q2 q3
  refine kfor (ι := Unit) s.kids (fun j _ => [(2, .one (.v (.pointer (some ⟨q2, 0, none⟩)))), (3, .one (.v (.pointer (some ⟨q3, 0, none⟩)))), (23, .one (.s 12 s.kidE))]) (fun j _ => [abox q3 (encS s) 62, abox q2 (encP p) 46]) (fun j _ => ∀ x ∈ s.kids.take j, x.kind ≠ 0 ∧ SmOk p x) () (by simp) ?_ ?_
  ·rintro j x _ hj hdd hjl hp
   have hrow : s.kidE[j]? = some (encS x) := kidE_get hj
   have hm := List.mem_of_getElem? hj
   have s1 : SizeOf.sizeOf x < N ∧ p.length ≤ 1000 ∧ x.In := ⟨by have := Sm.kid_lt hm; omega, hp1, i5 x hm⟩
   by_cases k0 : x.kind = 0
   ·(repeat' first | (refine kk ?_; intros) | refine kfk ?_ ?_ <;> intro hb | fail)
    exact kret (bpF fun h => ((smOk_iff.1 h).2.2.1 x hm).1 k0)
   ·(repeat' first | (refine kk ?_; intros) | refine kfk ?_ ?_ <;> intro hb | fail)
    all_goals first
     | exact ⟨(), take_succ_all hj hp ⟨k0, by assumption⟩, kwk⟩
     | exact kret (bpF fun h => absurd ((smOk_iff.1 h).2.2.1 x hm).2 (by assumption))
  ·rintro _ hkids
   rw [List.take_length] at hkids
   by_cases cb : noB s.br
   case neg =>
    haveI := empty_s.no
    have := And.intro i2 cb
    (repeat' first | (refine kk ?_; intros) | refine kfk ?_ ?_ <;> intro hb | fail)
    exact kret (bpF fun h => cb ((smOk_iff.1 h).2.2.2.2.1 yB))
   haveI := empty_s.yes
   have z1 := And.intro i2 cb
   have z2 : p.length ≤ 1000 ∧ s.goal.In := ⟨hp1, i3⟩
   have el : lst s = lsr s 100000 := by
    have hne : s.kids ≠ [] := fun e => by rw [e] at c3; cases c3
    have h1 := lstL_le (l := s.kids) (n := 100001) (fun x hx => ⟨(hkids x hx).2, (hkids x hx).1⟩) (by omega) (.inr hne)
    have h2 := (lstL_min (l := s.kids) (n := 100001)).2 100000 (by omega)
    rw [lst_eq, lsr_eq, if_neg yB, if_neg fun h => yB h.1, lsrL_lstL (fun x hx => (hkids x hx).2) _ (by omega)]
    omega
   (repeat' first | (refine kk ?_; intros) | refine kfk ?_ ?_ <;> intro hb | fail)
   exact kret (bpC ⟨fun h => smOk_iff.2 ⟨c1, c3.trans hkn.symm, hkids, fun h => absurd h yB, fun _ => cb, fun _ => el ▸ h, fun h => absurd yG h⟩, fun h => el ▸ (smOk_iff.1 h).2.2.2.2.2.1 yG⟩)
 ·have hkn : kidsN s.kind = 2 := by rw [hk]; rfl
  have yB : ¬ hasB s.kind := by unfold hasB; omega
  have yG : ¬ hasG s.kind := by unfold hasG; omega
  have hix : ([[.v (.int .i64 0)], [.v (.int .i64 0)], [.v (.int .i64 0)], [.v (.int .i64 1)], [.v (.int .i64 2)]] : List (List D))[4]? = some [.v (.int .i64 2)] := rfl
  by_cases c3 : s.kids.length = 2
  case neg =>
   (repeat' first | (refine kk ?_; intros) | refine kfk ?_ ?_ <;> intro hb | fail)
   rw [hk]
   (repeat' first | (refine kk ?_; intros) | refine kfk ?_ ?_ <;> intro hb | fail)
   exact kret (bpF fun h => c3 ((smOk_iff.1 h).2.1.trans hkn))
  (repeat' first | (refine kk ?_; intros) | refine kfk ?_ ?_ <;> intro hb | fail)
  rw [hk]
  (repeat' first | (refine kk ?_; intros) | refine kfk ?_ ?_ <;> intro hb | fail)
  rename_i q2 q3
  refine kfor (ι := Unit) s.kids (fun j _ => [(2, .one (.v (.pointer (some ⟨q2, 0, none⟩)))), (3, .one (.v (.pointer (some ⟨q3, 0, none⟩)))), (23, .one (.s 12 s.kidE))]) (fun j _ => [abox q3 (encS s) 62, abox q2 (encP p) 46]) (fun j _ => ∀ x ∈ s.kids.take j, x.kind ≠ 0 ∧ SmOk p x) () (by simp) ?_ ?_
  ·rintro j x _ hj hdd hjl hp
   have hrow : s.kidE[j]? = some (encS x) := kidE_get hj
   have hm := List.mem_of_getElem? hj
   have s1 : SizeOf.sizeOf x < N ∧ p.length ≤ 1000 ∧ x.In := ⟨by have := Sm.kid_lt hm; omega, hp1, i5 x hm⟩
   by_cases k0 : x.kind = 0
   ·(repeat' first | (refine kk ?_; intros) | refine kfk ?_ ?_ <;> intro hb | fail)
    exact kret (bpF fun h => ((smOk_iff.1 h).2.2.1 x hm).1 k0)
   ·(repeat' first | (refine kk ?_; intros) | refine kfk ?_ ?_ <;> intro hb | fail)
    all_goals first
     | exact ⟨(), take_succ_all hj hp ⟨k0, by assumption⟩, kwk⟩
     | exact kret (bpF fun h => absurd ((smOk_iff.1 h).2.2.1 x hm).2 (by assumption))
  ·rintro _ hkids
   rw [List.take_length] at hkids
   by_cases cb : noB s.br
   case neg =>
    haveI := empty_s.no
    have := And.intro i2 cb
    (repeat' first | (refine kk ?_; intros) | refine kfk ?_ ?_ <;> intro hb | fail)
    exact kret (bpF fun h => cb ((smOk_iff.1 h).2.2.2.2.1 yB))
   haveI := empty_s.yes
   have z1 := And.intro i2 cb
   have z2 : p.length ≤ 1000 ∧ s.goal.In := ⟨hp1, i3⟩
   (repeat' first | (refine kk ?_; intros) | refine kfk ?_ ?_ <;> intro hb | fail)
   exact kret (bpC ⟨fun h => smOk_iff.2 ⟨c1, c3.trans hkn.symm, hkids, fun h => absurd h yB, fun _ => cb, fun h => absurd h yG, fun _ => h⟩, fun h => (smOk_iff.1 h).2.2.2.2.2.2 yG⟩)
theorem streamOk_s : Con2 Tryz.prog 11 (List RlR) Sm vP vS1 (fun p s => bp (posOk p ∧ SmOk p s)) (fun p s => InP p ∧ s.In) := ⟨fun p s ⟨hp, hs⟩ => by
 haveI := ok21_s
 refine pu Tryz.func11 rfl Tryz.ntmps11 rfl rfl fun C => ?_
 by_cases h : posOk p
 ·have p1 : p.length ≤ 1000 ∧ s.In := ⟨by have := h.1.1; omega, hs⟩
  haveI := isPositive_s.yes
  have := And.intro hp h
  (repeat' first | (refine kk ?_; intros) | refine kfk ?_ ?_ <;> intro hb | fail)
  exact kret (bpC (p := SmOk p s) ⟨fun w => ⟨h, w⟩, fun w => w.2⟩)
 ·haveI := isPositive_s.no
  have := And.intro hp h
  (repeat' first | (refine kk ?_; intros) | refine kfk ?_ ?_ <;> intro hb | fail)
  exact kret (bpF fun w => h w.1)⟩
end
end Go.Proofs.YtejkllmoofdpjaaGreat
