/-
  NARROWER THAN 'FOR EVERY INPUT', by the rows' own cells (each row's printed sentence says how): FnExactStreamOk: loops · FnExactSessionOk: loops · FnExactReplay: loops · FnExactDepthSearch: loops · FnExactLevelSearch: loops · FnExactDeepenSearch: loops.
  DERIVED. THE GIVEN ROWS OF THIS SEAT. 6 by the template 'for every input the law returns true; each argument reads behind the call as it read before'; 0 by the template 'total and deterministic' (their statements: YtejkllmoofdpjaaGreatTotals.lean).
  GIVEN WITH THE SEED: the statements are not yours to turn. If you find one false, say at which input.
  Laid BY PROGRAM, IN A SANDBOX (cutbox-rows.mjs): the forced cells as the released guide's own fill.sh prints them over the translation 0a0e95355a772e76… (all of the seat's roots in one cut). By AI agents, Wed Nov 11 2026. No macro, syntax, notation, axiom, sorry.
-/
import Derived.Test.YtejkllmoofdpjaaGreatChecked
import GoSem.Claim
import GoSem.ClaimJoined
import GoSem.ClaimMapViews
import Derived.JoinedTies
import Derived.KernelRfl
namespace Go.Proofs.YtejkllmoofdpjaaGreat
/- THE CELL 'sum', in the pinned program and in every row, IS THE sha256 OF THE DUMP (.gsa) THAT YtejkllmoofdpjaaGreatProg.lean LOADS. Nothing in Lean hashes anything: it is a label: what it is worth is what the hold of that sum in a sandbox is worth. -/
noncomputable def Tryz.pinned : Pinned := { name := "ytejkllmoofdpjaagreat", sum := "0a0e95355a772e7643bd52218c07c46c3570b12f12bde364bb35efa37a17e13a", checked := Tryz.checked }
namespace Rows
def none {H : Type} : Left H := { results := [], args := [] }

/-- 'laws.FnExactStreamOk': WHATEVER THE INPUT: true; the input reads as it did. -/
def fnExactStreamOkSpec : ChangeSpec := { name := "fnExactStreamOk", fn := fun _ => fun
  | [d1, d2] => { results := [.lit (.bool true)], args := [d1, d2] }
  | _ => none }
def fnExactStreamOkRow : OpenClaim := { program := "ytejkllmoofdpjaagreat", sum := "0a0e95355a772e7643bd52218c07c46c3570b12f12bde364bb35efa37a17e13a", func := "loop.example/g03210/laws.FnExactStreamOk", spec := "fnExactStreamOk", inPlace := ["internal/reflectlite.ValueOf", "internal/reflectlite.Swapper", "(internal/reflectlite.Value).Len"], unfollowed := true, recurses := true, loops := true, plainKeys := false, apart := false }
def FnExactStreamOkSaid : Prop := fnExactStreamOkRow.holds Tryz.pinned (OpenSpec.ofChange fnExactStreamOkSpec)

/-- ITS FALSE NEIGHBOUR: 'it returns false'. Refute it at one input. -/
def fnExactStreamOkWrong : ChangeSpec := { name := "fnExactStreamOk", fn := fun _ => fun
  | [d1, d2] => { results := [.lit (.bool false)], args := [d1, d2] }
  | _ => none }
def FnExactStreamOkWrongFalsely : Prop := fnExactStreamOkRow.holds Tryz.pinned (OpenSpec.ofChange fnExactStreamOkWrong)

/-- 'laws.FnExactSessionOk': WHATEVER THE INPUT: true; the input reads as it did. -/
def fnExactSessionOkSpec : ChangeSpec := { name := "fnExactSessionOk", fn := fun _ => fun
  | [d] => { results := [.lit (.bool true)], args := [d] }
  | _ => none }
def fnExactSessionOkRow : OpenClaim := { program := "ytejkllmoofdpjaagreat", sum := "0a0e95355a772e7643bd52218c07c46c3570b12f12bde364bb35efa37a17e13a", func := "loop.example/g03210/laws.FnExactSessionOk", spec := "fnExactSessionOk", inPlace := ["internal/reflectlite.ValueOf", "internal/reflectlite.Swapper", "(internal/reflectlite.Value).Len"], unfollowed := true, recurses := true, loops := true, plainKeys := false, apart := false }
def FnExactSessionOkSaid : Prop := fnExactSessionOkRow.holds Tryz.pinned (OpenSpec.ofChange fnExactSessionOkSpec)

/-- ITS FALSE NEIGHBOUR: 'it returns false'. Refute it at one input. -/
def fnExactSessionOkWrong : ChangeSpec := { name := "fnExactSessionOk", fn := fun _ => fun
  | [d] => { results := [.lit (.bool false)], args := [d] }
  | _ => none }
def FnExactSessionOkWrongFalsely : Prop := fnExactSessionOkRow.holds Tryz.pinned (OpenSpec.ofChange fnExactSessionOkWrong)

/-- 'laws.FnExactReplay': WHATEVER THE INPUT: true; the input reads as it did. -/
def fnExactReplaySpec : ChangeSpec := { name := "fnExactReplay", fn := fun _ => fun
  | [d1, d2, d3, d4] => { results := [.lit (.bool true)], args := [d1, d2, d3, d4] }
  | _ => none }
def fnExactReplayRow : OpenClaim := { program := "ytejkllmoofdpjaagreat", sum := "0a0e95355a772e7643bd52218c07c46c3570b12f12bde364bb35efa37a17e13a", func := "loop.example/g03210/laws.FnExactReplay", spec := "fnExactReplay", inPlace := ["internal/reflectlite.ValueOf", "internal/reflectlite.Swapper", "(internal/reflectlite.Value).Len"], unfollowed := true, recurses := true, loops := true, plainKeys := false, apart := false }
def FnExactReplaySaid : Prop := fnExactReplayRow.holds Tryz.pinned (OpenSpec.ofChange fnExactReplaySpec)

/-- ITS FALSE NEIGHBOUR: 'it returns false'. Refute it at one input. -/
def fnExactReplayWrong : ChangeSpec := { name := "fnExactReplay", fn := fun _ => fun
  | [d1, d2, d3, d4] => { results := [.lit (.bool false)], args := [d1, d2, d3, d4] }
  | _ => none }
def FnExactReplayWrongFalsely : Prop := fnExactReplayRow.holds Tryz.pinned (OpenSpec.ofChange fnExactReplayWrong)

/-- 'laws.FnExactDepthSearch': WHATEVER THE INPUT: true; the input reads as it did. -/
def fnExactDepthSearchSpec : ChangeSpec := { name := "fnExactDepthSearch", fn := fun _ => fun
  | [d1, d2, d3, d4, d5] => { results := [.lit (.bool true)], args := [d1, d2, d3, d4, d5] }
  | _ => none }
def fnExactDepthSearchRow : OpenClaim := { program := "ytejkllmoofdpjaagreat", sum := "0a0e95355a772e7643bd52218c07c46c3570b12f12bde364bb35efa37a17e13a", func := "loop.example/g03210/laws.FnExactDepthSearch", spec := "fnExactDepthSearch", inPlace := ["internal/reflectlite.ValueOf", "internal/reflectlite.Swapper", "(internal/reflectlite.Value).Len"], unfollowed := true, recurses := true, loops := true, plainKeys := false, apart := false }
def FnExactDepthSearchSaid : Prop := fnExactDepthSearchRow.holds Tryz.pinned (OpenSpec.ofChange fnExactDepthSearchSpec)

/-- ITS FALSE NEIGHBOUR: 'it returns false'. Refute it at one input. -/
def fnExactDepthSearchWrong : ChangeSpec := { name := "fnExactDepthSearch", fn := fun _ => fun
  | [d1, d2, d3, d4, d5] => { results := [.lit (.bool false)], args := [d1, d2, d3, d4, d5] }
  | _ => none }
def FnExactDepthSearchWrongFalsely : Prop := fnExactDepthSearchRow.holds Tryz.pinned (OpenSpec.ofChange fnExactDepthSearchWrong)

/-- 'laws.FnExactLevelSearch': WHATEVER THE INPUT: true; the input reads as it did. -/
def fnExactLevelSearchSpec : ChangeSpec := { name := "fnExactLevelSearch", fn := fun _ => fun
  | [d1, d2, d3, d4, d5] => { results := [.lit (.bool true)], args := [d1, d2, d3, d4, d5] }
  | _ => none }
def fnExactLevelSearchRow : OpenClaim := { program := "ytejkllmoofdpjaagreat", sum := "0a0e95355a772e7643bd52218c07c46c3570b12f12bde364bb35efa37a17e13a", func := "loop.example/g03210/laws.FnExactLevelSearch", spec := "fnExactLevelSearch", inPlace := ["internal/reflectlite.ValueOf", "internal/reflectlite.Swapper", "(internal/reflectlite.Value).Len"], unfollowed := true, recurses := true, loops := true, plainKeys := false, apart := false }
def FnExactLevelSearchSaid : Prop := fnExactLevelSearchRow.holds Tryz.pinned (OpenSpec.ofChange fnExactLevelSearchSpec)

/-- ITS FALSE NEIGHBOUR: 'it returns false'. Refute it at one input. -/
def fnExactLevelSearchWrong : ChangeSpec := { name := "fnExactLevelSearch", fn := fun _ => fun
  | [d1, d2, d3, d4, d5] => { results := [.lit (.bool false)], args := [d1, d2, d3, d4, d5] }
  | _ => none }
def FnExactLevelSearchWrongFalsely : Prop := fnExactLevelSearchRow.holds Tryz.pinned (OpenSpec.ofChange fnExactLevelSearchWrong)

/-- 'laws.FnExactDeepenSearch': WHATEVER THE INPUT: true; the input reads as it did. -/
def fnExactDeepenSearchSpec : ChangeSpec := { name := "fnExactDeepenSearch", fn := fun _ => fun
  | [d1, d2, d3, d4, d5] => { results := [.lit (.bool true)], args := [d1, d2, d3, d4, d5] }
  | _ => none }
def fnExactDeepenSearchRow : OpenClaim := { program := "ytejkllmoofdpjaagreat", sum := "0a0e95355a772e7643bd52218c07c46c3570b12f12bde364bb35efa37a17e13a", func := "loop.example/g03210/laws.FnExactDeepenSearch", spec := "fnExactDeepenSearch", inPlace := ["internal/reflectlite.ValueOf", "internal/reflectlite.Swapper", "(internal/reflectlite.Value).Len"], unfollowed := true, recurses := true, loops := true, plainKeys := false, apart := false }
def FnExactDeepenSearchSaid : Prop := fnExactDeepenSearchRow.holds Tryz.pinned (OpenSpec.ofChange fnExactDeepenSearchSpec)

/-- ITS FALSE NEIGHBOUR: 'it returns false'. Refute it at one input. -/
def fnExactDeepenSearchWrong : ChangeSpec := { name := "fnExactDeepenSearch", fn := fun _ => fun
  | [d1, d2, d3, d4, d5] => { results := [.lit (.bool false)], args := [d1, d2, d3, d4, d5] }
  | _ => none }
def FnExactDeepenSearchWrongFalsely : Prop := fnExactDeepenSearchRow.holds Tryz.pinned (OpenSpec.ofChange fnExactDeepenSearchWrong)

/- THE SECOND FORM. 'bulk': how many values and letters a reading holds, each counted each time it is reached (what is shared counts as often as it is met; a slice's spare places count too). A statement '..UptoSaid' is the law's where the arguments, and the package variables that the reading takes, are together of bulk at most 1048576: NARROWER than '..Said'. Prove '..Said' where nothing that the law and all that it calls make is longer than what came in: it says more and counts as full. Else prove '..UptoSaid'. A law counts once. -/
mutual
def uptoBulk {H : Type} : DataW H → Nat
  | .lit (.string bytes) => bytes.length + 1
  | .lit _ => 1
  | .nil => 1
  | .ptr d => uptoBulk d + 1
  | .slice elems spare => uptoBulkAll elems + uptoBulkAll spare + 1
  | .agg parts => uptoBulkAll parts + 1
  | .iface _ d => uptoBulk d + 1
  | .map entries => uptoBulkEntries entries + 1
  | .held _ => 1
def uptoBulkAll {H : Type} : List (DataW H) → Nat
  | [] => 0
  | d :: r => uptoBulk d + uptoBulkAll r
def uptoBulkEntries {H : Type} : List (Lit × DataW H) → Nat
  | [] => 0
  | x :: r => uptoBulkEntry x + uptoBulkEntries r
def uptoBulkEntry {H : Type} : Lit × DataW H → Nat
  | (.string bytes, d) => bytes.length + uptoBulk d + 1
  | (_, d) => uptoBulk d + 1
 end
def uptoSmall : (H : Type) → List (DataW H) → Bool := fun _ ds => decide (uptoBulkAll ds ≤ 1048576)
def OpenSpec.upto (s : _root_.Go.ChangeSpec) : _root_.Go.OpenSpec := { _root_.Go.OpenSpec.ofChange s with cond := some uptoSmall }

/-- 'laws.FnExactStreamOk', WHERE WHAT IT READS IS OF BULK AT MOST 1048576: true; the input reads as it did. -/
def fnExactStreamOkUptoRow : OpenClaim := { program := "ytejkllmoofdpjaagreat", sum := "0a0e95355a772e7643bd52218c07c46c3570b12f12bde364bb35efa37a17e13a", func := "loop.example/g03210/laws.FnExactStreamOk", spec := "fnExactStreamOk", inPlace := ["internal/reflectlite.ValueOf", "internal/reflectlite.Swapper", "(internal/reflectlite.Value).Len"], unfollowed := true, recurses := true, loops := true, plainKeys := false, apart := false, narrowed := true }
def FnExactStreamOkUptoSaid : Prop := fnExactStreamOkUptoRow.holds Tryz.pinned (OpenSpec.upto fnExactStreamOkSpec)

/-- 'laws.FnExactSessionOk', WHERE WHAT IT READS IS OF BULK AT MOST 1048576: true; the input reads as it did. -/
def fnExactSessionOkUptoRow : OpenClaim := { program := "ytejkllmoofdpjaagreat", sum := "0a0e95355a772e7643bd52218c07c46c3570b12f12bde364bb35efa37a17e13a", func := "loop.example/g03210/laws.FnExactSessionOk", spec := "fnExactSessionOk", inPlace := ["internal/reflectlite.ValueOf", "internal/reflectlite.Swapper", "(internal/reflectlite.Value).Len"], unfollowed := true, recurses := true, loops := true, plainKeys := false, apart := false, narrowed := true }
def FnExactSessionOkUptoSaid : Prop := fnExactSessionOkUptoRow.holds Tryz.pinned (OpenSpec.upto fnExactSessionOkSpec)

/-- 'laws.FnExactReplay', WHERE WHAT IT READS IS OF BULK AT MOST 1048576: true; the input reads as it did. -/
def fnExactReplayUptoRow : OpenClaim := { program := "ytejkllmoofdpjaagreat", sum := "0a0e95355a772e7643bd52218c07c46c3570b12f12bde364bb35efa37a17e13a", func := "loop.example/g03210/laws.FnExactReplay", spec := "fnExactReplay", inPlace := ["internal/reflectlite.ValueOf", "internal/reflectlite.Swapper", "(internal/reflectlite.Value).Len"], unfollowed := true, recurses := true, loops := true, plainKeys := false, apart := false, narrowed := true }
def FnExactReplayUptoSaid : Prop := fnExactReplayUptoRow.holds Tryz.pinned (OpenSpec.upto fnExactReplaySpec)

/-- 'laws.FnExactDepthSearch', WHERE WHAT IT READS IS OF BULK AT MOST 1048576: true; the input reads as it did. -/
def fnExactDepthSearchUptoRow : OpenClaim := { program := "ytejkllmoofdpjaagreat", sum := "0a0e95355a772e7643bd52218c07c46c3570b12f12bde364bb35efa37a17e13a", func := "loop.example/g03210/laws.FnExactDepthSearch", spec := "fnExactDepthSearch", inPlace := ["internal/reflectlite.ValueOf", "internal/reflectlite.Swapper", "(internal/reflectlite.Value).Len"], unfollowed := true, recurses := true, loops := true, plainKeys := false, apart := false, narrowed := true }
def FnExactDepthSearchUptoSaid : Prop := fnExactDepthSearchUptoRow.holds Tryz.pinned (OpenSpec.upto fnExactDepthSearchSpec)

/-- 'laws.FnExactLevelSearch', WHERE WHAT IT READS IS OF BULK AT MOST 1048576: true; the input reads as it did. -/
def fnExactLevelSearchUptoRow : OpenClaim := { program := "ytejkllmoofdpjaagreat", sum := "0a0e95355a772e7643bd52218c07c46c3570b12f12bde364bb35efa37a17e13a", func := "loop.example/g03210/laws.FnExactLevelSearch", spec := "fnExactLevelSearch", inPlace := ["internal/reflectlite.ValueOf", "internal/reflectlite.Swapper", "(internal/reflectlite.Value).Len"], unfollowed := true, recurses := true, loops := true, plainKeys := false, apart := false, narrowed := true }
def FnExactLevelSearchUptoSaid : Prop := fnExactLevelSearchUptoRow.holds Tryz.pinned (OpenSpec.upto fnExactLevelSearchSpec)

/-- 'laws.FnExactDeepenSearch', WHERE WHAT IT READS IS OF BULK AT MOST 1048576: true; the input reads as it did. -/
def fnExactDeepenSearchUptoRow : OpenClaim := { program := "ytejkllmoofdpjaagreat", sum := "0a0e95355a772e7643bd52218c07c46c3570b12f12bde364bb35efa37a17e13a", func := "loop.example/g03210/laws.FnExactDeepenSearch", spec := "fnExactDeepenSearch", inPlace := ["internal/reflectlite.ValueOf", "internal/reflectlite.Swapper", "(internal/reflectlite.Value).Len"], unfollowed := true, recurses := true, loops := true, plainKeys := false, apart := false, narrowed := true }
def FnExactDeepenSearchUptoSaid : Prop := fnExactDeepenSearchUptoRow.holds Tryz.pinned (OpenSpec.upto fnExactDeepenSearchSpec)

end Rows
end Go.Proofs.YtejkllmoofdpjaaGreat
