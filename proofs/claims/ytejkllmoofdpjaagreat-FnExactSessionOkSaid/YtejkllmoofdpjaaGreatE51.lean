/- Parts of the proof: VT8 VT9. -/
import Derived.Test.YtejkllmoofdpjaaGreatE50
import Derived.Test.YtejkllmoofdpjaaGreatE48
import Derived.Test.YtejkllmoofdpjaaGreatE37
import Derived.Test.YtejkllmoofdpjaaGreatE49
namespace Go.Proofs.YtejkllmoofdpjaaGreat
open Go
set_option linter.all false
set_option maxRecDepth 100000
set_option maxHeartbeats 4000000
noncomputable section
open Classical
def noSe (s : SeR) : Prop := noG s.goal ∧ s.vars = 0 ∧ s.st.kind = 0 ∧ noB s.st.br ∧ noG s.st.goal ∧ s.st.kids = []
def startP (p : List RlR) (g : Gl) (n : Int) : Prop := (0 ≤ n ∧ n ≤ 100000) ∧ posOk p ∧ goalP p g n
def SeOk (s : SeR) : Prop := progOk s.prog ∧ (noSe s ∨ startP s.prog s.goal s.vars ∧ SmOk s.prog s.st ∧ s.vars ≤ lst s.st)
instance canStart_i : Con3 Tryz.prog 64 (List RlR) Gl Int vP vg iv (fun p g n => bp (startP p g n)) (fun p g _ => InP p ∧ g.In) := ⟨fun p g n ⟨hp, hg⟩ => by
 refine pu Tryz.func64 rfl Tryz.ntmps64 rfl rfl fun C => ?_
 by_cases c1 : 0 ≤ n ∧ n ≤ 100000
 case neg =>
  have h0 : n < 0 ∨ 100000 < n := by omega
  rcases h0 with h0 | h0
  all_goals
   (repeat' first | (refine kk ?_; intros) | refine kfk ?_ ?_ <;> intro hb | fail)
   exact kret (bpF fun h => c1 h.1)
 by_cases c2 : posOk p
 case neg =>
  haveI := isPositive_i.no
  have := And.intro hp c2
  (repeat' first | (refine kk ?_; intros) | refine kfk ?_ ?_ <;> intro hb | fail)
  exact kret (bpF fun h => c2 h.2.1)
 haveI := isPositive_i.yes
 have zc2 := And.intro hp c2
 have hl : p.length ≤ 1000 := by have := c2.1.1; omega
 by_cases c3 : g.ok
 case neg =>
  haveI := goalOk_i.no
  have := And.intro hg c3
  (repeat' first | (refine kk ?_; intros) | refine kfk ?_ ?_ <;> intro hb | fail)
  exact kret (bpF fun h => c3 (goalP_iff.1 h.2.2).1)
 haveI := goalOk_i.yes
 have zc3 := And.intro hg c3
 have p5 := ok_gvp c3
 have p6 : p.length ≤ 1000 ∧ ∃ u : G, g = u.gl ∧ GvP u := ⟨hl, p5⟩
 by_cases c4 : fitR2 p g n
 case neg =>
  haveI := fits_r.no
  have := And.intro p6 c4
  (repeat' first | (refine kk ?_; intros) | refine kfk ?_ ?_ <;> intro hb | fail)
  exact kret (bpF fun h => c4 (goalP_iff.1 h.2.2).2.2)
 haveI := fits_r.yes
 have zc4 := And.intro p6 c4
 by_cases c5 : negR g
 ·haveI := negative_r.yes
  have := And.intro p5 c5
  (repeat' first | (refine kk ?_; intros) | refine kfk ?_ ?_ <;> intro hb | fail)
  exact kret (bpF fun h => (goalP_iff.1 h.2.2).2.1 c5)
 ·haveI := negative_r.no
  have := And.intro p5 c5
  (repeat' first | (refine kk ?_; intros) | refine kfk ?_ ?_ <;> intro hb | fail)
  exact kret (bpT ⟨c1, c2, goalP_iff.2 ⟨c3, c5, c4⟩⟩)⟩
instance noSearch_i : Con1 Tryz.prog 63 SeR vSe (fun s => bp (noSe s)) (fun s => s.In) := ⟨fun s hin => by
 have i1 := hin.g
 have i2 := hin.v
 obtain ⟨j1, j2, j3, j4, j5⟩ := Sm.in_iff.1 hin.st
 have e1 : s.st.kidE.length = s.st.kids.length := kidE_len s.st
 refine pu Tryz.func63 rfl Tryz.ntmps63 rfl rfl fun C => ?_
 by_cases c1 : noG s.goal
 case neg =>
  haveI := noGoal_i.no
  have := And.intro i1 c1
  (repeat' first | (refine kk ?_; intros) | refine kfk ?_ ?_ <;> intro hb | fail)
  exact kret (bpF fun h => c1 h.1)
 have zy := And.intro i1 c1
 haveI := noGoal_i.yes
 by_cases c2 : s.vars = 0
 case neg =>
  (repeat' first | (refine kk ?_; intros) | refine kfk ?_ ?_ <;> intro hb | fail)
  exact kret (bpF fun h => c2 h.2.1)
 by_cases c3 : s.st.kind = 0
 case neg =>
  (repeat' first | (refine kk ?_; intros) | refine kfk ?_ ?_ <;> intro hb | fail)
  exact kret (bpF fun h => c3 h.2.2.1)
 by_cases c4 : noB s.st.br
 case neg =>
  haveI := noBranch_i.no
  have := And.intro j2 c4
  (repeat' first | (refine kk ?_; intros) | refine kfk ?_ ?_ <;> intro hb | fail)
  exact kret (bpF fun h => c4 h.2.2.2.1)
 haveI := noBranch_i.yes
 have zc4 := And.intro j2 c4
 by_cases c5 : noG s.st.goal
 case neg =>
  haveI : Con1 Tryz.prog 108 Gl vg (fun g => bp (noG g)) (fun g => g.In) := noGoal_i
  (repeat' first | (refine kk ?_; intros) | refine kfk ?_ ?_ <;> intro hb | fail)
  all_goals first
   | exact kret (bpF fun h => c5 h.2.2.2.2.1)
   | exact absurd c1 (by assumption)
   | exact absurd (by assumption) c5
 have zz := And.intro j3 c5
 by_cases c6 : s.st.kids.length = 0
 ·(repeat' first | (refine kk ?_; intros) | refine kfk ?_ ?_ <;> intro hb | fail)
  exact kret (bpT ⟨c1, c2, c3, c4, c5, List.length_eq_zero_iff.1 c6⟩)
 ·(repeat' first | (refine kk ?_; intros) | refine kfk ?_ ?_ <;> intro hb | fail)
  exact kret (bpF fun h => c6 (by rw [h.2.2.2.2.2]; rfl))⟩
instance sessionOk_i : Con1 Tryz.prog 20 SeR vSe (fun s => bp (SeOk s)) (fun s => s.In) := ⟨fun s hin => by
 have p1 := hin.p
 have i1 := hin.g
 have i2 := hin.v
 have i3 := hin.st
 have p2 : InP s.prog ∧ s.goal.In := ⟨p1, i1⟩
 have p3 : InP s.prog ∧ s.st.In := ⟨p1, i3⟩
 refine pu Tryz.func20 rfl Tryz.ntmps20 rfl rfl fun C => ?_
 by_cases c1 : progOk s.prog
 case neg =>
  haveI := programOk_i.no
  have := And.intro p1 c1
  (repeat' first | (refine kk ?_; intros) | refine kfk ?_ ?_ <;> intro hb | fail)
  exact kret (bpF fun h => c1 h.1)
 haveI := programOk_i.yes
 have zc1 := And.intro p1 c1
 by_cases c2 : noSe s
 ·haveI := noSearch_i.yes
  have := And.intro hin c2
  (repeat' first | (refine kk ?_; intros) | refine kfk ?_ ?_ <;> intro hb | fail)
  exact kret (bpT ⟨c1, .inl c2⟩)
 haveI := noSearch_i.no
 have z2 := And.intro hin c2
 by_cases c3 : startP s.prog s.goal s.vars
 case neg =>
  haveI := canStart_i.no
  have := And.intro p2 c3
  (repeat' first | (refine kk ?_; intros) | refine kfk ?_ ?_ <;> intro hb | fail)
  exact kret (bpF fun h => h.2.elim c2 fun h => c3 h.1)
 haveI := canStart_i.yes
 have zc3 := And.intro p2 c3
 by_cases c4 : posOk s.prog ∧ SmOk s.prog s.st
 case neg =>
  haveI := StreamOk_i.no
  have := And.intro p3 c4
  (repeat' first | (refine kk ?_; intros) | refine kfk ?_ ?_ <;> intro hb | fail)
  exact kret (bpF fun h => h.2.elim c2 fun h => c4 ⟨c3.2.1, h.2.1⟩)
 haveI := StreamOk_i.yes
 have zc4 := And.intro p3 c4
 by_cases c5 : s.vars ≤ lst s.st
 ·(repeat' first | (refine kk ?_; intros) | refine kfk ?_ ?_ <;> intro hb | fail)
  exact kret (bpT ⟨c1, .inr ⟨c3, c4.2, c5⟩⟩)
 ·(repeat' first | (refine kk ?_; intros) | refine kfk ?_ ?_ <;> intro hb | fail)
  exact kret (bpF fun h => c5 (h.2.resolve_left c2).2.2)⟩
theorem pause_s : Con2 Tryz.prog 119 (List D) Gl (fun l => .agg l) vg (fun l g => .agg (.v (.int .i64 2) :: (l ++ (encG g ++ [.v (.slice none 0 0)])))) (fun l _ => l.length = 6) := ⟨fun l g hl => by
 obtain ⟨a, b, c, d, e, f, rfl⟩ : ∃ a b c d e f, l = [a, b, c, d, e, f] := by
  match l, hl with
  | [a, b, c, d, e, f], _ => exact ⟨a, b, c, d, e, f, rfl⟩
 refine pu Tryz.func119 rfl Tryz.ntmps119 rfl rfl fun C => ?_
 (repeat' first | (refine kk ?_; intros) | refine kfk ?_ ?_ <;> intro hb | fail)
 refine kr1 (rvw ?_)
 (exact wV)⟩
theorem copyG_r : Con1 Tryz.prog 120 Gl vg (fun g => vg g) (fun g => ∃ u : G, g = u.gl ∧ GvS u) := ⟨fun g ⟨u, e, hu⟩ => by
 subst e
 exact copyG_s.h u hu⟩
theorem ok_gvs {g : Gl} (h : g.ok) : ∃ u : G, g = u.gl ∧ GvS u := by
 obtain ⟨u, rfl, hu⟩ := okG_iff.1 h
 exact ⟨u, rfl, hu.ok.gvs⟩
abbrev zGlR : Gl := .mk 0 noS [] []
def startS (n : Int) (g : Gl) : Sm := .mk 2 ⟨⟨n, [], [], [], []⟩, []⟩ g []
def zSm : Sm := .mk 0 ⟨⟨0, [], [], [], []⟩, []⟩ zGlR []
theorem start_s : Con3 Tryz.prog 60 (List RlR) Gl Int vP vg iv (fun p g n => .tup [vS1 (if startP p g n then startS n g else zSm), bp (startP p g n)]) (fun p g n => InP p ∧ g.In) := ⟨fun p g n ⟨hp, hg⟩ => by
 haveI := copyG_r
 haveI := pause_s
 have p0 : True := trivial
 have fin : ¬ startP p g n → AV.tup [vS1 (if startP p g n then startS n g else zSm), bp (startP p g n)] = .tup [vS1 zSm, bv false] := fun c => by rw [if_neg c, show bp (startP p g n) = bv false from (bpF c).symm]
 have fin2 : startP p g n → AV.tup [vS1 (if startP p g n then startS n g else zSm), bp (startP p g n)] = .tup [vS1 (startS n g), bv true] := fun c => by rw [if_pos c, show bp (startP p g n) = bv true from (bpT c).symm]
 refine pu Tryz.func60 rfl Tryz.ntmps60 rfl rfl fun C => ?_
 by_cases c2 : posOk p
 case neg =>
  haveI := isPositive_s.no
  have := And.intro hp c2
  rw [fin fun h => c2 h.2.1]
  (repeat' first | (refine kk ?_; intros) | refine kfk ?_ ?_ <;> intro hb | fail)
  refine kr2 (rvw ?_) (rvT rfl)
  (exact wV)
 haveI := isPositive_s.yes
 have z2 := And.intro hp c2
 have hl : p.length ≤ 1000 := by have := c2.1.1; omega
 have p1 : p.length ≤ 1000 ∧ g.In := ⟨hl, hg⟩
 by_cases c1 : 0 ≤ n ∧ n ≤ 100000
 case neg =>
  haveI := l01In_c.no
  have := And.intro p0 c1
  rw [fin fun h => c1 h.1]
  (repeat' first | (refine kk ?_; intros) | refine kfk ?_ ?_ <;> intro hb | fail)
  refine kr2 (rvw ?_) (rvT rfl)
  (exact wV)
 haveI := l01In_c.yes
 have z1 := And.intro p0 c1
 by_cases c3 : goalP p g n
 case neg =>
  haveI := goal_s.no
  have := And.intro p1 c3
  rw [fin fun h => c3 h.2.2]
  (repeat' first | (refine kk ?_; intros) | refine kfk ?_ ?_ <;> intro hb | fail)
  refine kr2 (rvw ?_) (rvT rfl)
  (exact wV)
 haveI := goal_s.yes
 have z3 := And.intro p1 c3
 have p2 := ok_gvs (goalP_iff.1 c3).1
 rw [fin2 ⟨c1, c2, c3⟩]
 (repeat' first | (refine kk ?_; intros) | refine kfk ?_ ?_ <;> intro hb | fail)
 refine kr2 (rvw ?_) (rvT rfl)
 (exact wV)⟩
theorem start_yes : Con3 Tryz.prog 60 (List RlR) Gl Int vP vg iv (fun _ g n => .tup [vS1 (startS n g), bv true]) (fun p g n => (InP p ∧ g.In) ∧ startP p g n) := ⟨fun p g n ⟨h, c⟩ => by
 have := start_s.h p g n h
 rwa [if_pos c, show bp (startP p g n) = bv true from (bpT c).symm] at this⟩
theorem start_no : Con3 Tryz.prog 60 (List RlR) Gl Int vP vg iv (fun _ _ _ => .tup [vS1 zSm, bv false]) (fun p g n => (InP p ∧ g.In) ∧ ¬ startP p g n) := ⟨fun p g n ⟨h, c⟩ => by
 have := start_s.h p g n h
 rwa [if_neg c, show bp (startP p g n) = bv false from (bpF c).symm] at this⟩
theorem sessionOk_s : Con1 Tryz.prog 18 SeR vSe (fun s => bp (SeOk s)) (fun s => s.In) := ⟨fun s hin => by
 haveI := streamOk_s
 have p1 := hin.p
 have i1 := hin.g
 have i2 := hin.v
 have i3 := hin.st
 obtain ⟨j1, j2, j3, j4, j5⟩ := Sm.in_iff.1 hin.st
 have e1 : s.st.kidE.length = s.st.kids.length := kidE_len s.st
 have p2 : InP s.prog ∧ s.goal.In := ⟨p1, i1⟩
 have p3 : InP s.prog ∧ s.st.In := ⟨p1, i3⟩
 refine pu Tryz.func18 rfl Tryz.ntmps18 rfl rfl fun C => ?_
 by_cases c1 : progOk s.prog
 case neg =>
  haveI := programOk_s.no
  have := And.intro p1 c1
  (repeat' first | (refine kk ?_; intros) | refine kfk ?_ ?_ <;> intro hb | fail)
  exact kret (bpF fun h => c1 h.1)
 haveI := programOk_s.yes
 have zc1 := And.intro p1 c1
 by_cases c2 : noSe s
 ·obtain ⟨d1, d2, d3, d4, d5, d6⟩ := id c2
  have d6 : s.st.kids.length = 0 := by rw [d6]; rfl
  haveI := none_s.yes
  haveI := empty_s.yes
  have y1 := And.intro i1 d1
  have y2 := And.intro j2 d4
  have y3 := And.intro j3 d5
  (repeat' first | (refine kk ?_; intros) | refine kfk ?_ ?_ <;> intro hb | fail)
  exact kret (bpT ⟨c1, .inl c2⟩)
 have e6 : s.st.kids.length = 0 ↔ s.st.kids = [] := List.length_eq_zero_iff
 have hout : ∀ {X : Prop}, noG s.goal → s.vars = 0 → s.st.kind = 0 → s.st.kids.length = 0 → noB s.st.br → noG s.st.goal → X := fun a b c d e f => absurd ⟨a, b, c, e, f, e6.1 d⟩ c2
 (repeat' first | (refine kkS [] [9] ?_; intros) | fail)
 rename_i b1
 refine kcutO (ι := Unit) (fun _ => [(1, .one (.v (.pointer (some ⟨b1, 0, none⟩))))]) (fun _ => [abox b1 (encSe s) 72]) (fun _ => True) ?_ ?_
 ·(repeat' first | (refine kk ?_; intros) | refine kfk ?_ ?_ <;> intro hb | fail)
  all_goals first
   | exact ⟨(), trivial, kwk⟩
   | exact hout (by assumption) (by omega) (by omega) (by omega) (by assumption) (by assumption)
 rintro _ _
 by_cases c3 : startP s.prog s.goal s.vars
 case neg =>
  haveI := start_no
  have := And.intro p2 c3
  (repeat' first | (refine kk ?_; intros) | refine kfk ?_ ?_ <;> intro hb | fail)
  exact kret (bpF fun h => h.2.elim c2 fun h => c3 h.1)
 haveI := start_yes
 have zc3 := And.intro p2 c3
 by_cases c4 : posOk s.prog ∧ SmOk s.prog s.st
 case neg =>
  haveI := streamOk_s.no
  have := And.intro p3 c4
  (repeat' first | (refine kk ?_; intros) | refine kfk ?_ ?_ <;> intro hb | fail)
  exact kret (bpF fun h => h.2.elim c2 fun h => c4 ⟨c3.2.1, h.2.1⟩)
 haveI := streamOk_s.yes
 have zc4 := And.intro p3 c4
 have hls : s.vars ≤ lsr s.st 100000 ↔ s.vars ≤ lst s.st := by
  have h1 := (lsr_lst c4.2).2 100000 (by omega)
  have h2 := c3.1.2
  omega
 by_cases c5 : s.vars ≤ lsr s.st 100000
 ·(repeat' first | (refine kk ?_; intros) | refine kfk ?_ ?_ <;> intro hb | fail)
  exact kret (bpT ⟨c1, .inr ⟨c3, c4.2, hls.1 c5⟩⟩)
 ·(repeat' first | (refine kk ?_; intros) | refine kfk ?_ ?_ <;> intro hb | fail)
  exact kret (bpF fun h => c5 (hls.2 (h.2.resolve_left c2).2.2))⟩
end
noncomputable section
open Classical
theorem lawSession_c (s : SeR) (hs : s.In0) : Pu Tryz.prog 4 [vSe s] (bv true) := by
 have s1 : s.In0 ∧ (0 : Int) ≤ 1048576 ∧ (1048576 : Int) ≤ 1048576 := ⟨hs, by omega, by omega⟩
 haveI := sessionOk_s
 refine pu Tryz.func4 rfl Tryz.ntmps4 rfl rfl fun C => ?_
 by_cases hf : s.sz ≤ 1048576
 case neg =>
  have hl : leftV s.sz 1048576 = -1 := leftV_not (by omega)
  (repeat' first | (refine kkS [19] [] ?_; intros) | refine kfS [19] [] ?_ ?_ <;> intro hb | fail)
  all_goals first
   | (exfalso; omega)
   | exact kret rfl
 have hl : leftV s.sz 1048576 = 1048576 - (s.sz : Int) := leftV_fit (by omega)
 have hin : s.In := se_in hs hf
 have p2 : s.In0 ∧ s.sz ≤ 1048576 := ⟨hs, hf⟩
 have p5 : s.In ∧ s.In := ⟨hin, hin⟩
 (repeat' first | (refine kk ?_; intros) | refine kfk ?_ ?_ <;> intro hb | fail)
 refine kr ?_ (h := P_neB _ _ rfl rfl)
 rw [bne_self_eq_false]
 (repeat' first | (refine kk ?_; intros) | refine kfk ?_ ?_ <;> intro hb | fail)
 all_goals first
  | exact kret rfl
  | exact ((by assumption : ¬ (s = s)) rfl).elim
section
variable {H : Type} {enc : TypeId × Value → H} {P : Program} {w : World} {spare : Nat → Bool} {held : Bool}
theorem opn_se {T TP TG TS : TypeId} {f0 f1 f2 f3 : Field} (hs : P.underlying T = some (.struct #[f0, f1, f2, f3])) (hC : P.cellsOf T = 18)
 (o0 : f0.offset = 0 ∧ P.cellsOf f0.type = 1) (o1 : f1.offset = 1 ∧ P.cellsOf f1.type = 4) (o2 : f2.offset = 5 ∧ P.cellsOf f2.type = 1) (o3 : f3.offset = 6 ∧ P.cellsOf f3.type = 12)
 (t0 : f0.type = TP) (t1 : f1.type = TG) (t2 : P.underlying f2.type = some (.int .i64)) (t3 : f3.type = TS)
 (h0 : Rdg enc P w spare held TP encP InP0) (h1 : Rdg enc P w spare held TG encG Gl.In0) (h3 : Rdg enc P w spare held TS encS Sm.In0) : Rdg enc P w spare held T encSe SeR.In0 := fun n cs x h => by
 obtain ⟨ys, n, hn, hx, hl, hlen, hf⟩ := DataW.trod_struct hs h
 obtain ⟨o0, k0⟩ := o0
 obtain ⟨o1, k1⟩ := o1
 obtain ⟨o2, k2⟩ := o2
 obtain ⟨o3, k3⟩ := o3
 rw [hC] at hl
 match cs, hl, ys, hlen with
 | [v0, g0, g1, g2, g3, v2, s0, s1, s2, s3, s4, s5, s6, s7, s8, s9, s10, s11], _, [y0, y1, y2, y3], _ =>
  have e0 : DataW.trod enc P w 0 spare held n f0.type [v0] = some y0 := by simpa [o0, k0] using hf 0 f0 rfl
  have e1 : DataW.trod enc P w 0 spare held n f1.type [g0, g1, g2, g3] = some y1 := by simpa [o1, k1] using hf 1 f1 rfl
  have e2 : DataW.trod enc P w 0 spare held n f2.type [v2] = some y2 := by simpa [o2, k2] using hf 2 f2 rfl
  have e3 : DataW.trod enc P w 0 spare held n f3.type [s0, s1, s2, s3, s4, s5, s6, s7, s8, s9, s10, s11] = some y3 := by simpa [o3, k3] using hf 3 f3 rfl
  rw [t0] at e0
  rw [t1] at e1
  rw [t3] at e3
  obtain ⟨p, ⟨_, _, hp1, hp2, hp3⟩, hp4⟩ := h0 _ _ _ e0
  obtain ⟨g, hg1, hg2⟩ := h1 _ _ _ e1
  obtain ⟨k, c0, _, w0⟩ := DataW.trod_int t2 e2
  obtain ⟨s, hs1, hs2⟩ := h3 _ _ _ e3
  cases c0
  cases hp1
  exact ⟨⟨p, g, k, s⟩, ⟨_, _, rfl, hp2, rdC_append (vs := [g0, g1, g2, g3]) hg1 ⟨_, _, rfl, ⟨rfl, rfl⟩, hs1⟩⟩, ⟨hp4, hg2, i64_wf w0, hs2⟩⟩
end
section
variable {H : Type} {enc : TypeId × Value → H} {w : World}
theorem opn_prog : OpA enc w 24 encP InP0 := fun n cs x h => open_pr Tryz.underlying24 (by kernel_rfl) (by kernel_rfl) (by kernel_rfl) Tryz.underlying22
 (fun n cs x h => open_rl Tryz.underlying150 (by kernel_rfl) ⟨rfl, by kernel_rfl⟩ ⟨rfl, by kernel_rfl⟩ ⟨rfl, by kernel_rfl⟩ ⟨rfl, by kernel_rfl⟩ Tryz.underlying9 Tryz.underlying3 Tryz.underlying3 rfl (fun n cs x h => opn_goal n cs x h) h) h
theorem opn_session : OpA enc w 68 encSe SeR.In0 := opn_se Tryz.underlying68 (by kernel_rfl) ⟨rfl, by kernel_rfl⟩ ⟨rfl, by kernel_rfl⟩ ⟨rfl, by kernel_rfl⟩ ⟨rfl, by kernel_rfl⟩ rfl rfl Tryz.underlying3 rfl opn_prog opn_goal opn_stream
end
end
end Go.Proofs.YtejkllmoofdpjaaGreat
