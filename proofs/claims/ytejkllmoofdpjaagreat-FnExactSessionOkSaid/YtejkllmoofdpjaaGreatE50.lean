/- Parts of the proof: VT7. -/
import Derived.Test.YtejkllmoofdpjaaGreatE42
namespace Go.Proofs.YtejkllmoofdpjaaGreat
open Go
set_option linter.all false
set_option maxRecDepth 100000
set_option maxHeartbeats 4000000
noncomputable section
open Classical
structure SeR where
 prog : List RlR
 goal : Gl
 vars : Int
 st : Sm
def encSe (s : SeR) : List D := .s 7 (s.prog.map encR) :: (encG s.goal ++ (.v (.int .i64 s.vars) :: encS s.st))
abbrev vSe (s : SeR) : AV := .agg (encSe s)
structure SeR.In0 (s : SeR) : Prop where
 p : InP0 s.prog
 g : s.goal.In0
 v : I64 s.vars
 st : s.st.In0
def SeR.sz (s : SeR) : Nat := s.prog.length + szR s.prog + s.goal.sz + s.st.sz
structure SeR.In (s : SeR) : Prop where
 p : InP s.prog
 g : s.goal.In
 v : I64 s.vars
 st : s.st.In
theorem se_in {s : SeR} (h : s.In0) (hs : s.sz ≤ 1048576) : s.In := by
 unfold SeR.sz at hs
 exact ⟨p_in_of h.p (by omega), gl_in_of _ _ (Nat.le_refl _) h.g (by omega), h.v, sm_in _ (Nat.le_refl _) h.st (by omega)⟩
instance szSession_c : Con2 Tryz.prog 17 SeR Int vSe iv (fun x left => iv (leftV (x.sz) left)) (fun x left => x.In0 ∧ 0 ≤ left ∧ left ≤ 1048576) := ⟨fun x left ⟨hin, h0, h1⟩ => by
 have hsz : x.sz = x.prog.length + szR x.prog + x.goal.sz + x.st.sz := rfl
 rw [hsz]
 refine pu Tryz.func17 rfl Tryz.ntmps17 rfl rfl fun C => ?_
 have p0 : InP0 x.prog ∧ 0 ≤ left ∧ left ≤ 1048576 := ⟨hin.p, by omega, by omega⟩
 have hb0 := leftV_le (z := x.prog.length + szR x.prog) (left := left) (b := 1048576) (by omega) (by omega)
 by_cases hf0 : ((x.prog.length + szR x.prog : Nat) : Int) ≤ left
 case neg =>
  have hl0 := leftV_not hf0
  (repeat' first | (refine kkS [22, 10] [] ?_; intros) | refine kfS [22, 10] [] ?_ ?_ <;> intro hb | fail)
  all_goals first
   | (exfalso; omega)
   | exact kret (congrArg iv (leftV_not (by omega)).symm)
 have hl0 := leftV_fit hf0
 have p1 : x.goal.In0 ∧ 0 ≤ (leftV (x.prog.length + szR x.prog) left) ∧ (leftV (x.prog.length + szR x.prog) left) ≤ 1048576 := ⟨hin.g, by omega, by omega⟩
 have hb1 := leftV_le (z := x.goal.sz) (left := (leftV (x.prog.length + szR x.prog) left)) (b := 1048576) (by omega) (by omega)
 by_cases hf1 : ((x.goal.sz : Nat) : Int) ≤ (leftV (x.prog.length + szR x.prog) left)
 case neg =>
  have hl1 := leftV_not hf1
  (repeat' first | (refine kkS [10] [] ?_; intros) | refine kfS [10] [] ?_ ?_ <;> intro hb | fail)
  all_goals first
   | (exfalso; omega)
   | exact kret (congrArg iv (leftV_not (by omega)).symm)
 have hl1 := leftV_fit hf1
 have p2 : x.st.In0 ∧ 0 ≤ (leftV (x.goal.sz) (leftV (x.prog.length + szR x.prog) left)) ∧ (leftV (x.goal.sz) (leftV (x.prog.length + szR x.prog) left)) ≤ 1048576 := ⟨hin.st, by omega, by omega⟩
 have hb2 := leftV_le (z := x.st.sz) (left := (leftV (x.goal.sz) (leftV (x.prog.length + szR x.prog) left))) (b := 1048576) (by omega) (by omega)
 by_cases hf2 : ((x.st.sz : Nat) : Int) ≤ (leftV (x.goal.sz) (leftV (x.prog.length + szR x.prog) left))
 case neg =>
  have hl2 := leftV_not hf2
  (repeat' first | (refine kk ?_; intros) | refine kfk ?_ ?_ <;> intro hb | fail)
  all_goals first
   | (exfalso; omega)
   | exact kret (congrArg iv (leftV_not (by omega)).symm)
 have hl2 := leftV_fit hf2
 (repeat' first | (refine kk ?_; intros) | refine kfk ?_ ?_ <;> intro hb | fail)
 all_goals first
  | (exfalso; omega)
  | exact kret (congrArg iv (show leftV (x.st.sz) (leftV (x.goal.sz) (leftV (x.prog.length + szR x.prog) left)) = leftV (x.prog.length + szR x.prog + x.goal.sz + x.st.sz) left by rw [hl2, hl1, hl0, leftV_fit (by omega)]; omega))⟩
instance toSession_c : Con1 Tryz.prog 19 SeR vSe vSe (fun x => x.In0 ∧ x.sz ≤ 1048576) := ⟨fun x hin => by
 obtain ⟨h1, h2⟩ := hin
 have hsz : x.sz = x.prog.length + szR x.prog + x.goal.sz + x.st.sz := rfl
 have p1 : InP0 x.prog ∧ x.prog.length + szR x.prog ≤ 1048576 := ⟨h1.p, by omega⟩
 have p2 : x.goal.In0 ∧ x.goal.sz ≤ 1048576 := ⟨h1.g, by omega⟩
 have p3 : x.st.In0 ∧ x.st.sz ≤ 1048576 := ⟨h1.st, by omega⟩
 refine pu Tryz.func19 rfl Tryz.ntmps19 rfl rfl fun C => ?_
 (repeat' first | (refine kk ?_; intros) | refine kfk ?_ ?_ <;> intro hb | fail)
 refine kr1 (rvw ?_)
 (exact wV)⟩
instance eqSession_c : Con2 Tryz.prog 21 SeR SeR vSe vSe (fun a b => bp (a = b)) (fun a b => SeR.In a ∧ SeR.In b) := ⟨fun a b ⟨ha, hb⟩ => by
 have i1 := ha.v
 have j1 := hb.v
 have p1 : InP a.prog ∧ InP b.prog := ⟨ha.p, hb.p⟩
 have p2 : a.goal.In ∧ b.goal.In := ⟨ha.g, hb.g⟩
 have p3 : a.st.In ∧ b.st.In := ⟨ha.st, hb.st⟩
 rw [show (a = b) = (a.prog = b.prog ∧ a.goal = b.goal ∧ a.vars = b.vars ∧ a.st = b.st) from propext (by cases a; cases b; simp only [SeR.mk.injEq])]
 refine pu Tryz.func21 rfl Tryz.ntmps21 rfl rfl fun C => ?_
 (repeat' first | (refine kk ?_; intros) | refine kfk ?_ ?_ <;> intro hb | fail)
 all_goals first
  | (refine kret (bpF ?_); rintro ⟨q0, q1, q2, q3⟩; first | exact hb q0 | exact hb q1 | exact hb q2 | exact hb q3)
  | (refine kret (bpT ?_); refine ⟨?_, ?_, ?_, ?_⟩ <;> assumption)⟩
end
end Go.Proofs.YtejkllmoofdpjaaGreat
