/- Parts of the proof: V69. -/
import Derived.Test.YtbabchapkhlenaaGreatZ18
namespace Go.Proofs.YtbabchapkhlenaaGreat
open Go
set_option linter.all false
set_option maxRecDepth 100000
set_option maxHeartbeats 4000000
noncomputable section
def T.part (t : T) : T → Prop
 | .pair a b => t = .pair a b ∨ T.part t a ∨ T.part t b
 | u => t = u
instance partOf_c : Con2 Tryz.prog 34 T T vT vT (fun t u => bp (T.part t u)) (fun _ _ => True) := .ind (fun _ u => u.nodes) fun N ih t u hN _ => by
 refine pu Tryz.func34 rfl Tryz.ntmps34 rfl rfl fun C => ?_
 cases u with
 | pair a b =>
  have := nodes_pos a
  have := nodes_pos b
  simp only [T.nodes] at hN
  have s1 : a.nodes < N ∧ True := ⟨by omega, trivial⟩
  have s2 : b.nodes < N ∧ True := ⟨by omega, trivial⟩
  have hr0 : (rowsT (T.pair a b).tm.args)[0]? = some (encT a.tm) := rfl
  have hr1 : (rowsT (T.pair a b).tm.args)[1]? = some (encT b.tm) := rfl
  by_cases h1 : t = .pair a b
  ·rw [show bp (T.part t (.pair a b)) = bv true from (bpT (.inl h1)).symm]
   (repeat' first | (refine kk ?_; intros) | refine kfk ?_ ?_ <;> intro hb | fail)
   all_goals first
    | exact kret rfl
    | exact absurd h1 hb
    | exact absurd h1 (by assumption)
  ·rw [show bp (T.part t (.pair a b)) = bp (T.part t a ∨ T.part t b) from congrArg bp (propext ⟨fun h => h.resolve_left h1, .inr⟩)]
   (repeat' first | (refine kk ?_; intros) | refine kfk ?_ ?_ <;> intro hb | fail)
   all_goals first
    | exact absurd (by assumption) h1
    | exact kret (bpT (.inl hb))
    | exact kret (bpT (.inl (by assumption)))
    | exact kret (show bp (T.part t b) = bp (T.part t a ∨ T.part t b) from congrArg bp (propext ⟨.inr, fun h => h.resolve_left hb⟩))
    | exact kret (bpT (.inr hb))
    | (rename_i g1 _; exact kret (bpF fun h => h.elim g1 hb))
    | fail
 | _ =>
  (repeat' first | (refine kk ?_; intros) | refine kfk ?_ ?_ <;> intro hb | fail)
  all_goals first
   | exact kret (bpT hb)
   | exact kret (bpF hb)
   | exact kret rfl
   | fail
instance contains31_s : Con2 Tryz.prog 25 T T vT vT (fun u t => bp (T.part t u)) (fun _ _ => True) := .ind (fun u _ => u.nodes) fun N ih u t hN _ => by
 refine pu Tryz.func25 rfl Tryz.ntmps25 rfl rfl fun C => ?_
 cases u with
 | pair a b =>
  have := nodes_pos a
  have := nodes_pos b
  simp only [T.nodes] at hN
  have s1 : a.nodes < N ∧ True := ⟨by omega, trivial⟩
  have s2 : b.nodes < N ∧ True := ⟨by omega, trivial⟩
  (repeat' first | (refine kk ?_; intros) | refine kfk ?_ ?_ <;> intro hb | fail)
  refine kun3 ?_
  (repeat' first | (refine kk ?_; intros) | refine kfk ?_ ?_ <;> intro hb | fail)
  all_goals first
   | exact kret (bpT (.inr (.inl hb)))
   | exact kret (bpT (.inr (.inr hb)))
   | (rename_i g1 _; exact kret (show bp (T.pair a b = t) = bp (T.part t (.pair a b)) from congrArg bp (propext ⟨fun h => .inl h.symm, fun h => h.elim Eq.symm fun h => (h.elim g1 hb).elim⟩)))
   | fail
 | _ =>
  (repeat' first | (refine kk ?_; intros) | refine kfk ?_ ?_ <;> intro hb | fail)
  refine kun3 ?_
  (repeat' first | (refine kk ?_; intros) | refine kfk ?_ ?_ <;> intro hb | fail)
  all_goals first
   | exact kret (congrArg bp (propext ⟨Eq.symm, Eq.symm⟩))
   | fail
end
end Go.Proofs.YtbabchapkhlenaaGreat
