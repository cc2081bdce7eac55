/-
  NARROWER THAN 'FOR EVERY INPUT', by the rows' own cells (each row's printed sentence says how): FnExactSizeGraphs: loops · FnExactTerminates: loops · FnExactSizeClosure: loops.
  DERIVED. THE GIVEN ROWS OF THIS SEAT. 3 by the template 'for every input the law returns true; each argument reads behind the call as it read before'; 0 by the template 'total and deterministic' (their statements: YtbabchapkhlenaaGreatTotals.lean).
  GIVEN WITH THE SEED: the statements are not yours to turn. If you find one false, say at which input.
  Laid BY PROGRAM, IN A SANDBOX (cutbox-rows.mjs): the forced cells as the released guide's own fill.sh prints them over the translation b3a48d86d4c317a4… (all of the seat's roots in one cut). By AI agents, Wed Nov 11 2026. No macro, syntax, notation, axiom, sorry.
-/
import Derived.Test.YtbabchapkhlenaaGreatChecked
import GoSem.Claim
import GoSem.ClaimJoined
import GoSem.ClaimMapViews
import Derived.JoinedTies
import Derived.KernelRfl
namespace Go.Proofs.YtbabchapkhlenaaGreat
/- THE CELL 'sum', in the pinned program and in every row, IS THE sha256 OF THE DUMP (.gsa) THAT YtbabchapkhlenaaGreatProg.lean LOADS. Nothing in Lean hashes anything: it is a label: what it is worth is what the hold of that sum in a sandbox is worth. -/
noncomputable def Tryz.pinned : Pinned := { name := "ytbabchapkhlenaagreat", sum := "b3a48d86d4c317a42ac0578163727e67e46ac87d79cb219e2af8ce8e7bbc8d97", checked := Tryz.checked }
namespace Rows
def none {H : Type} : Left H := { results := [], args := [] }

/-- 'laws.FnExactSizeGraphs': WHATEVER THE INPUT: true; the input reads as it did. -/
def fnExactSizeGraphsSpec : ChangeSpec := { name := "fnExactSizeGraphs", fn := fun _ => fun
  | [d] => { results := [.lit (.bool true)], args := [d] }
  | _ => none }
def fnExactSizeGraphsRow : OpenClaim := { program := "ytbabchapkhlenaagreat", sum := "b3a48d86d4c317a42ac0578163727e67e46ac87d79cb219e2af8ce8e7bbc8d97", func := "loop.example/g03210/laws.FnExactSizeGraphs", spec := "fnExactSizeGraphs", inPlace := ["internal/reflectlite.ValueOf", "internal/reflectlite.Swapper", "(internal/reflectlite.Value).Len"], unfollowed := true, recurses := true, loops := true, plainKeys := false, apart := false }
def FnExactSizeGraphsSaid : Prop := fnExactSizeGraphsRow.holds Tryz.pinned (OpenSpec.ofChange fnExactSizeGraphsSpec)

/-- ITS FALSE NEIGHBOUR: 'it returns false'. Refute it at one input. -/
def fnExactSizeGraphsWrong : ChangeSpec := { name := "fnExactSizeGraphs", fn := fun _ => fun
  | [d] => { results := [.lit (.bool false)], args := [d] }
  | _ => none }
def FnExactSizeGraphsWrongFalsely : Prop := fnExactSizeGraphsRow.holds Tryz.pinned (OpenSpec.ofChange fnExactSizeGraphsWrong)

/-- 'laws.FnExactTerminates': WHATEVER THE INPUT: true; the input reads as it did. -/
def fnExactTerminatesSpec : ChangeSpec := { name := "fnExactTerminates", fn := fun _ => fun
  | [d] => { results := [.lit (.bool true)], args := [d] }
  | _ => none }
def fnExactTerminatesRow : OpenClaim := { program := "ytbabchapkhlenaagreat", sum := "b3a48d86d4c317a42ac0578163727e67e46ac87d79cb219e2af8ce8e7bbc8d97", func := "loop.example/g03210/laws.FnExactTerminates", spec := "fnExactTerminates", inPlace := ["internal/reflectlite.ValueOf", "internal/reflectlite.Swapper", "(internal/reflectlite.Value).Len"], unfollowed := true, recurses := true, loops := true, plainKeys := false, apart := false }
def FnExactTerminatesSaid : Prop := fnExactTerminatesRow.holds Tryz.pinned (OpenSpec.ofChange fnExactTerminatesSpec)

/-- ITS FALSE NEIGHBOUR: 'it returns false'. Refute it at one input. -/
def fnExactTerminatesWrong : ChangeSpec := { name := "fnExactTerminates", fn := fun _ => fun
  | [d] => { results := [.lit (.bool false)], args := [d] }
  | _ => none }
def FnExactTerminatesWrongFalsely : Prop := fnExactTerminatesRow.holds Tryz.pinned (OpenSpec.ofChange fnExactTerminatesWrong)

/-- 'laws.FnExactSizeClosure': WHATEVER THE INPUT: true; the input reads as it did. -/
def fnExactSizeClosureSpec : ChangeSpec := { name := "fnExactSizeClosure", fn := fun _ => fun
  | [d] => { results := [.lit (.bool true)], args := [d] }
  | _ => none }
def fnExactSizeClosureRow : OpenClaim := { program := "ytbabchapkhlenaagreat", sum := "b3a48d86d4c317a42ac0578163727e67e46ac87d79cb219e2af8ce8e7bbc8d97", func := "loop.example/g03210/laws.FnExactSizeClosure", spec := "fnExactSizeClosure", inPlace := ["internal/reflectlite.ValueOf", "internal/reflectlite.Swapper", "(internal/reflectlite.Value).Len"], unfollowed := true, recurses := true, loops := true, plainKeys := false, apart := false }
def FnExactSizeClosureSaid : Prop := fnExactSizeClosureRow.holds Tryz.pinned (OpenSpec.ofChange fnExactSizeClosureSpec)

/-- ITS FALSE NEIGHBOUR: 'it returns false'. Refute it at one input. -/
def fnExactSizeClosureWrong : ChangeSpec := { name := "fnExactSizeClosure", fn := fun _ => fun
  | [d] => { results := [.lit (.bool false)], args := [d] }
  | _ => none }
def FnExactSizeClosureWrongFalsely : Prop := fnExactSizeClosureRow.holds Tryz.pinned (OpenSpec.ofChange fnExactSizeClosureWrong)

/- THE SECOND FORM. 'bulk': how many values and letters a reading holds, each counted each time it is reached (what is shared counts as often as it is met; a slice's spare places count too). A statement '..UptoSaid' is the law's where the arguments, and the package variables that the reading takes, are together of bulk at most 1048576: NARROWER than '..Said'. Prove '..Said' where nothing that the law and all that it calls make is longer than what came in: it says more and counts as full. Else prove '..UptoSaid'. A law counts once. -/
mutual
def uptoBulk {H : Type} : DataW H → Nat
  | .lit (.string bytes) => bytes.length + 1
  | .lit _ => 1
  | .nil => 1
  | .ptr d => uptoBulk d + 1
  | .slice elems spare => uptoBulkAll elems + uptoBulkAll spare + 1
  | .agg parts => uptoBulkAll parts + 1
  | .iface _ d => uptoBulk d + 1
  | .map entries => uptoBulkEntries entries + 1
  | .held _ => 1
def uptoBulkAll {H : Type} : List (DataW H) → Nat
  | [] => 0
  | d :: r => uptoBulk d + uptoBulkAll r
def uptoBulkEntries {H : Type} : List (Lit × DataW H) → Nat
  | [] => 0
  | x :: r => uptoBulkEntry x + uptoBulkEntries r
def uptoBulkEntry {H : Type} : Lit × DataW H → Nat
  | (.string bytes, d) => bytes.length + uptoBulk d + 1
  | (_, d) => uptoBulk d + 1
 end
def uptoSmall : (H : Type) → List (DataW H) → Bool := fun _ ds => decide (uptoBulkAll ds ≤ 1048576)
def OpenSpec.upto (s : _root_.Go.ChangeSpec) : _root_.Go.OpenSpec := { _root_.Go.OpenSpec.ofChange s with cond := some uptoSmall }

/-- 'laws.FnExactSizeGraphs', WHERE WHAT IT READS IS OF BULK AT MOST 1048576: true; the input reads as it did. -/
def fnExactSizeGraphsUptoRow : OpenClaim := { program := "ytbabchapkhlenaagreat", sum := "b3a48d86d4c317a42ac0578163727e67e46ac87d79cb219e2af8ce8e7bbc8d97", func := "loop.example/g03210/laws.FnExactSizeGraphs", spec := "fnExactSizeGraphs", inPlace := ["internal/reflectlite.ValueOf", "internal/reflectlite.Swapper", "(internal/reflectlite.Value).Len"], unfollowed := true, recurses := true, loops := true, plainKeys := false, apart := false, narrowed := true }
def FnExactSizeGraphsUptoSaid : Prop := fnExactSizeGraphsUptoRow.holds Tryz.pinned (OpenSpec.upto fnExactSizeGraphsSpec)

/-- 'laws.FnExactTerminates', WHERE WHAT IT READS IS OF BULK AT MOST 1048576: true; the input reads as it did. -/
def fnExactTerminatesUptoRow : OpenClaim := { program := "ytbabchapkhlenaagreat", sum := "b3a48d86d4c317a42ac0578163727e67e46ac87d79cb219e2af8ce8e7bbc8d97", func := "loop.example/g03210/laws.FnExactTerminates", spec := "fnExactTerminates", inPlace := ["internal/reflectlite.ValueOf", "internal/reflectlite.Swapper", "(internal/reflectlite.Value).Len"], unfollowed := true, recurses := true, loops := true, plainKeys := false, apart := false, narrowed := true }
def FnExactTerminatesUptoSaid : Prop := fnExactTerminatesUptoRow.holds Tryz.pinned (OpenSpec.upto fnExactTerminatesSpec)

/-- 'laws.FnExactSizeClosure', WHERE WHAT IT READS IS OF BULK AT MOST 1048576: true; the input reads as it did. -/
def fnExactSizeClosureUptoRow : OpenClaim := { program := "ytbabchapkhlenaagreat", sum := "b3a48d86d4c317a42ac0578163727e67e46ac87d79cb219e2af8ce8e7bbc8d97", func := "loop.example/g03210/laws.FnExactSizeClosure", spec := "fnExactSizeClosure", inPlace := ["internal/reflectlite.ValueOf", "internal/reflectlite.Swapper", "(internal/reflectlite.Value).Len"], unfollowed := true, recurses := true, loops := true, plainKeys := false, apart := false, narrowed := true }
def FnExactSizeClosureUptoSaid : Prop := fnExactSizeClosureUptoRow.holds Tryz.pinned (OpenSpec.upto fnExactSizeClosureSpec)

end Rows
end Go.Proofs.YtbabchapkhlenaaGreat
