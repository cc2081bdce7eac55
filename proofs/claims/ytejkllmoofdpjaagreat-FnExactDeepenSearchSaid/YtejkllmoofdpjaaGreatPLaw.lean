/- The law FnExactDeepenSearch holds of every program, every goal and all numbers: its given statement FnExactDeepenSearchSaid is proved, without conditions. -/
import Derived.Test.YtejkllmoofdpjaaGreatP55
namespace Go.Proofs.YtejkllmoofdpjaaGreat
open Go
set_option linter.all false
set_option maxRecDepth 100000
set_option maxHeartbeats 4000000
section
open Go Go.RowKit Go.Joins Go.ChangeShapes Go.Deep
noncomputable section
namespace fnExactDeepenSearch
open Go.ChangeShapes Go.WideShapes Go.ChangeAt
theorem and_true_of {a b:Bool} (h:a=true) (k:b=true):(a && b)=true:=by rw [h,k];rfl
set_option maxRecDepth 100000 in
set_option maxHeartbeats 4000000 in
theorem closed:joinedFacts Tryz.prog 8 Tryz.f8 Rows.fnExactDeepenSearchSpec Rows.fnExactDeepenSearchRow=true:=by
 unfold joinedFacts
 repeat' refine and_true_of ?_ ?_
 all_goals as_aux_lemma=>kernel_rfl
theorem over:Rows.fnExactDeepenSearchRow.holds Tryz.pinned (OpenSpec.ofChange Rows.fnExactDeepenSearchSpec):=
 OpenClaim.holds_of_wide 8 Tryz.f8 rfl rfl rfl rfl rfl rfl rfl ⟨rfl,rfl,rfl,rfl,rfl⟩ rfl rfl rfl rfl rfl (by kernel_rfl) Tryz.func8 closed
  (of_decide_eq_true (by kernel_rfl)) (by unfold Func.isWrapper;first|(rw [if_pos (by decide +kernel)];kernel_rfl)|(rw [if_neg (by decide +kernel)];exact ⟨rfl,rfl⟩))
  (fun os started H enc _=>lifted os started H enc)
theorem proved:Rows.FnExactDeepenSearchSaid:=over
end fnExactDeepenSearch
end
end
end Go.Proofs.YtejkllmoofdpjaaGreat
