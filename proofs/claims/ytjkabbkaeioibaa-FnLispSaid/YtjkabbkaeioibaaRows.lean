/-
  NARROWER THAN 'FOR EVERY INPUT', by the rows' own cells (each row's printed sentence says how): FnExactNumberOf: loops · FnExactAddNumerals: loops · FnExactLookupLisp: loops · FnExactStepsLisp: loops · FnExactEvalLisp: loops.
  DERIVED. THE GIVEN ROWS OF THIS SEAT. 11 by the template 'for every input the law returns true; each argument reads behind the call as it read before'; 0 by the template 'total and deterministic' (their statements: YtjkabbkaeioibaaTotals.lean).
  GIVEN WITH THE SEED: the statements are not yours to turn. If you find one false, say at which input.
  Laid BY PROGRAM, IN A SANDBOX (cutbox-rows.mjs): the forced cells as the released guide's own fill.sh prints them over the translation b5c4d94ed52a2621… (all of the seat's roots in one cut). By AI agents, Wed Nov 11 2026. No macro, syntax, notation, axiom, sorry.
-/
import Derived.Test.YtjkabbkaeioibaaChecked
import GoSem.Claim
import GoSem.ClaimJoined
import GoSem.ClaimMapViews
import Derived.JoinedTies
import Derived.KernelRfl
namespace Go.Proofs.Ytjkabbkaeioibaa
/- THE CELL 'sum', in the pinned program and in every row, IS THE sha256 OF THE DUMP (.gsa) THAT YtjkabbkaeioibaaProg.lean LOADS. Nothing in Lean hashes anything: it is a label: what it is worth is what the hold of that sum in a sandbox is worth. -/
noncomputable def Try.pinned : Pinned := { name := "ytjkabbkaeioibaa", sum := "b5c4d94ed52a262151619fce1f123ffbaf2f47155731802b6f57662149169762", checked := Try.checked }
namespace Rows
def none {H : Type} : Left H := { results := [], args := [] }

/-- 'laws.FnExactLispText': WHATEVER THE INPUT: true; the input reads as it did. -/
def fnExactLispTextSpec : ChangeSpec := { name := "fnExactLispText", fn := fun _ => fun
  | [] => { results := [.lit (.bool true)], args := [] }
  | _ => none }
def fnExactLispTextRow : OpenClaim := { program := "ytjkabbkaeioibaa", sum := "b5c4d94ed52a262151619fce1f123ffbaf2f47155731802b6f57662149169762", func := "loop.example/g03210/laws.FnExactLispText", spec := "fnExactLispText", apart := false }
def FnExactLispTextSaid : Prop := fnExactLispTextRow.holds Try.pinned (OpenSpec.ofChange fnExactLispTextSpec)

/-- ITS FALSE NEIGHBOUR: 'it returns false'. Refute it at one input. -/
def fnExactLispTextWrong : ChangeSpec := { name := "fnExactLispText", fn := fun _ => fun
  | [] => { results := [.lit (.bool false)], args := [] }
  | _ => none }
def FnExactLispTextWrongFalsely : Prop := fnExactLispTextRow.holds Try.pinned (OpenSpec.ofChange fnExactLispTextWrong)

/-- 'laws.FnExactArithmeticText': WHATEVER THE INPUT: true; the input reads as it did. -/
def fnExactArithmeticTextSpec : ChangeSpec := { name := "fnExactArithmeticText", fn := fun _ => fun
  | [] => { results := [.lit (.bool true)], args := [] }
  | _ => none }
def fnExactArithmeticTextRow : OpenClaim := { program := "ytjkabbkaeioibaa", sum := "b5c4d94ed52a262151619fce1f123ffbaf2f47155731802b6f57662149169762", func := "loop.example/g03210/laws.FnExactArithmeticText", spec := "fnExactArithmeticText", apart := false }
def FnExactArithmeticTextSaid : Prop := fnExactArithmeticTextRow.holds Try.pinned (OpenSpec.ofChange fnExactArithmeticTextSpec)

/-- ITS FALSE NEIGHBOUR: 'it returns false'. Refute it at one input. -/
def fnExactArithmeticTextWrong : ChangeSpec := { name := "fnExactArithmeticText", fn := fun _ => fun
  | [] => { results := [.lit (.bool false)], args := [] }
  | _ => none }
def FnExactArithmeticTextWrongFalsely : Prop := fnExactArithmeticTextRow.holds Try.pinned (OpenSpec.ofChange fnExactArithmeticTextWrong)

/-- 'laws.FnExactNumeralOf': WHATEVER THE INPUT: true; the input reads as it did. -/
def fnExactNumeralOfSpec : ChangeSpec := { name := "fnExactNumeralOf", fn := fun _ => fun
  | [d] => { results := [.lit (.bool true)], args := [d] }
  | _ => none }
def fnExactNumeralOfRow : OpenClaim := { program := "ytjkabbkaeioibaa", sum := "b5c4d94ed52a262151619fce1f123ffbaf2f47155731802b6f57662149169762", func := "loop.example/g03210/laws.FnExactNumeralOf", spec := "fnExactNumeralOf", recurses := true, apart := false }
def FnExactNumeralOfSaid : Prop := fnExactNumeralOfRow.holds Try.pinned (OpenSpec.ofChange fnExactNumeralOfSpec)

/-- ITS FALSE NEIGHBOUR: 'it returns false'. Refute it at one input. -/
def fnExactNumeralOfWrong : ChangeSpec := { name := "fnExactNumeralOf", fn := fun _ => fun
  | [d] => { results := [.lit (.bool false)], args := [d] }
  | _ => none }
def FnExactNumeralOfWrongFalsely : Prop := fnExactNumeralOfRow.holds Try.pinned (OpenSpec.ofChange fnExactNumeralOfWrong)

/-- 'laws.FnExactNumeralPairs': WHATEVER THE INPUT: true; the input reads as it did. -/
def fnExactNumeralPairsSpec : ChangeSpec := { name := "fnExactNumeralPairs", fn := fun _ => fun
  | [d] => { results := [.lit (.bool true)], args := [d] }
  | _ => none }
def fnExactNumeralPairsRow : OpenClaim := { program := "ytjkabbkaeioibaa", sum := "b5c4d94ed52a262151619fce1f123ffbaf2f47155731802b6f57662149169762", func := "loop.example/g03210/laws.FnExactNumeralPairs", spec := "fnExactNumeralPairs", recurses := true, apart := false }
def FnExactNumeralPairsSaid : Prop := fnExactNumeralPairsRow.holds Try.pinned (OpenSpec.ofChange fnExactNumeralPairsSpec)

/-- ITS FALSE NEIGHBOUR: 'it returns false'. Refute it at one input. -/
def fnExactNumeralPairsWrong : ChangeSpec := { name := "fnExactNumeralPairs", fn := fun _ => fun
  | [d] => { results := [.lit (.bool false)], args := [d] }
  | _ => none }
def FnExactNumeralPairsWrongFalsely : Prop := fnExactNumeralPairsRow.holds Try.pinned (OpenSpec.ofChange fnExactNumeralPairsWrong)

/-- 'laws.FnNumerals': WHATEVER THE INPUT: true; the input reads as it did. -/
def fnNumeralsSpec : ChangeSpec := { name := "fnNumerals", fn := fun _ => fun
  | [d] => { results := [.lit (.bool true)], args := [d] }
  | _ => none }
def fnNumeralsRow : OpenClaim := { program := "ytjkabbkaeioibaa", sum := "b5c4d94ed52a262151619fce1f123ffbaf2f47155731802b6f57662149169762", func := "loop.example/g03210/laws.FnNumerals", spec := "fnNumerals", recurses := true, apart := false }
def FnNumeralsSaid : Prop := fnNumeralsRow.holds Try.pinned (OpenSpec.ofChange fnNumeralsSpec)

/-- ITS FALSE NEIGHBOUR: 'it returns false'. Refute it at one input. -/
def fnNumeralsWrong : ChangeSpec := { name := "fnNumerals", fn := fun _ => fun
  | [d] => { results := [.lit (.bool false)], args := [d] }
  | _ => none }
def FnNumeralsWrongFalsely : Prop := fnNumeralsRow.holds Try.pinned (OpenSpec.ofChange fnNumeralsWrong)

/-- 'laws.FnExactNumberOf': WHATEVER THE INPUT: true; the input reads as it did. -/
def fnExactNumberOfSpec : ChangeSpec := { name := "fnExactNumberOf", fn := fun _ => fun
  | [d] => { results := [.lit (.bool true)], args := [d] }
  | _ => none }
def fnExactNumberOfRow : OpenClaim := { program := "ytjkabbkaeioibaa", sum := "b5c4d94ed52a262151619fce1f123ffbaf2f47155731802b6f57662149169762", func := "loop.example/g03210/laws.FnExactNumberOf", spec := "fnExactNumberOf", recurses := true, loops := true, apart := false }
def FnExactNumberOfSaid : Prop := fnExactNumberOfRow.holds Try.pinned (OpenSpec.ofChange fnExactNumberOfSpec)

/-- ITS FALSE NEIGHBOUR: 'it returns false'. Refute it at one input. -/
def fnExactNumberOfWrong : ChangeSpec := { name := "fnExactNumberOf", fn := fun _ => fun
  | [d] => { results := [.lit (.bool false)], args := [d] }
  | _ => none }
def FnExactNumberOfWrongFalsely : Prop := fnExactNumberOfRow.holds Try.pinned (OpenSpec.ofChange fnExactNumberOfWrong)

/-- 'laws.FnExactAddNumerals': WHATEVER THE INPUT: true; the input reads as it did. -/
def fnExactAddNumeralsSpec : ChangeSpec := { name := "fnExactAddNumerals", fn := fun _ => fun
  | [d1, d2] => { results := [.lit (.bool true)], args := [d1, d2] }
  | _ => none }
def fnExactAddNumeralsRow : OpenClaim := { program := "ytjkabbkaeioibaa", sum := "b5c4d94ed52a262151619fce1f123ffbaf2f47155731802b6f57662149169762", func := "loop.example/g03210/laws.FnExactAddNumerals", spec := "fnExactAddNumerals", recurses := true, loops := true, apart := false }
def FnExactAddNumeralsSaid : Prop := fnExactAddNumeralsRow.holds Try.pinned (OpenSpec.ofChange fnExactAddNumeralsSpec)

/-- ITS FALSE NEIGHBOUR: 'it returns false'. Refute it at one input. -/
def fnExactAddNumeralsWrong : ChangeSpec := { name := "fnExactAddNumerals", fn := fun _ => fun
  | [d1, d2] => { results := [.lit (.bool false)], args := [d1, d2] }
  | _ => none }
def FnExactAddNumeralsWrongFalsely : Prop := fnExactAddNumeralsRow.holds Try.pinned (OpenSpec.ofChange fnExactAddNumeralsWrong)

/-- 'laws.FnExactLookupLisp': WHATEVER THE INPUT: true; the input reads as it did. -/
def fnExactLookupLispSpec : ChangeSpec := { name := "fnExactLookupLisp", fn := fun _ => fun
  | [d1, d2] => { results := [.lit (.bool true)], args := [d1, d2] }
  | _ => none }
def fnExactLookupLispRow : OpenClaim := { program := "ytjkabbkaeioibaa", sum := "b5c4d94ed52a262151619fce1f123ffbaf2f47155731802b6f57662149169762", func := "loop.example/g03210/laws.FnExactLookupLisp", spec := "fnExactLookupLisp", recurses := true, loops := true, apart := false }
def FnExactLookupLispSaid : Prop := fnExactLookupLispRow.holds Try.pinned (OpenSpec.ofChange fnExactLookupLispSpec)

/-- ITS FALSE NEIGHBOUR: 'it returns false'. Refute it at one input. -/
def fnExactLookupLispWrong : ChangeSpec := { name := "fnExactLookupLisp", fn := fun _ => fun
  | [d1, d2] => { results := [.lit (.bool false)], args := [d1, d2] }
  | _ => none }
def FnExactLookupLispWrongFalsely : Prop := fnExactLookupLispRow.holds Try.pinned (OpenSpec.ofChange fnExactLookupLispWrong)

/-- 'laws.FnLisp': WHATEVER THE INPUT: true; the input reads as it did. -/
def fnLispSpec : ChangeSpec := { name := "fnLisp", fn := fun _ => fun
  | [d] => { results := [.lit (.bool true)], args := [d] }
  | _ => none }
def fnLispRow : OpenClaim := { program := "ytjkabbkaeioibaa", sum := "b5c4d94ed52a262151619fce1f123ffbaf2f47155731802b6f57662149169762", func := "loop.example/g03210/laws.FnLisp", spec := "fnLisp", unfollowed := true, recurses := true, apart := false }
def FnLispSaid : Prop := fnLispRow.holds Try.pinned (OpenSpec.ofChange fnLispSpec)

/-- ITS FALSE NEIGHBOUR: 'it returns false'. Refute it at one input. -/
def fnLispWrong : ChangeSpec := { name := "fnLisp", fn := fun _ => fun
  | [d] => { results := [.lit (.bool false)], args := [d] }
  | _ => none }
def FnLispWrongFalsely : Prop := fnLispRow.holds Try.pinned (OpenSpec.ofChange fnLispWrong)

/-- 'laws.FnExactStepsLisp': WHATEVER THE INPUT: true; the input reads as it did. -/
def fnExactStepsLispSpec : ChangeSpec := { name := "fnExactStepsLisp", fn := fun _ => fun
  | [d1, d2, d3] => { results := [.lit (.bool true)], args := [d1, d2, d3] }
  | _ => none }
def fnExactStepsLispRow : OpenClaim := { program := "ytjkabbkaeioibaa", sum := "b5c4d94ed52a262151619fce1f123ffbaf2f47155731802b6f57662149169762", func := "loop.example/g03210/laws.FnExactStepsLisp", spec := "fnExactStepsLisp", unfollowed := true, recurses := true, loops := true, apart := false }
def FnExactStepsLispSaid : Prop := fnExactStepsLispRow.holds Try.pinned (OpenSpec.ofChange fnExactStepsLispSpec)

/-- ITS FALSE NEIGHBOUR: 'it returns false'. Refute it at one input. -/
def fnExactStepsLispWrong : ChangeSpec := { name := "fnExactStepsLisp", fn := fun _ => fun
  | [d1, d2, d3] => { results := [.lit (.bool false)], args := [d1, d2, d3] }
  | _ => none }
def FnExactStepsLispWrongFalsely : Prop := fnExactStepsLispRow.holds Try.pinned (OpenSpec.ofChange fnExactStepsLispWrong)

/-- 'laws.FnExactEvalLisp': WHATEVER THE INPUT: true; the input reads as it did. -/
def fnExactEvalLispSpec : ChangeSpec := { name := "fnExactEvalLisp", fn := fun _ => fun
  | [d1, d2, d3] => { results := [.lit (.bool true)], args := [d1, d2, d3] }
  | _ => none }
def fnExactEvalLispRow : OpenClaim := { program := "ytjkabbkaeioibaa", sum := "b5c4d94ed52a262151619fce1f123ffbaf2f47155731802b6f57662149169762", func := "loop.example/g03210/laws.FnExactEvalLisp", spec := "fnExactEvalLisp", unfollowed := true, recurses := true, loops := true, apart := false }
def FnExactEvalLispSaid : Prop := fnExactEvalLispRow.holds Try.pinned (OpenSpec.ofChange fnExactEvalLispSpec)

/-- ITS FALSE NEIGHBOUR: 'it returns false'. Refute it at one input. -/
def fnExactEvalLispWrong : ChangeSpec := { name := "fnExactEvalLisp", fn := fun _ => fun
  | [d1, d2, d3] => { results := [.lit (.bool false)], args := [d1, d2, d3] }
  | _ => none }
def FnExactEvalLispWrongFalsely : Prop := fnExactEvalLispRow.holds Try.pinned (OpenSpec.ofChange fnExactEvalLispWrong)

/- THE SECOND FORM. 'bulk': how many values and letters a reading holds, each counted each time it is reached (what is shared counts as often as it is met; a slice's spare places count too). A statement '..UptoSaid' is the law's where the arguments, and the package variables that the reading takes, are together of bulk at most 1048576: NARROWER than '..Said'. Prove '..Said' where nothing that the law and all that it calls make is longer than what came in: it says more and counts as full. Else prove '..UptoSaid'. A law counts once. -/
mutual
def uptoBulk {H : Type} : DataW H → Nat
  | .lit (.string bytes) => bytes.length + 1
  | .lit _ => 1
  | .nil => 1
  | .ptr d => uptoBulk d + 1
  | .slice elems spare => uptoBulkAll elems + uptoBulkAll spare + 1
  | .agg parts => uptoBulkAll parts + 1
  | .iface _ d => uptoBulk d + 1
  | .map entries => uptoBulkEntries entries + 1
  | .held _ => 1
def uptoBulkAll {H : Type} : List (DataW H) → Nat
  | [] => 0
  | d :: r => uptoBulk d + uptoBulkAll r
def uptoBulkEntries {H : Type} : List (Lit × DataW H) → Nat
  | [] => 0
  | x :: r => uptoBulkEntry x + uptoBulkEntries r
def uptoBulkEntry {H : Type} : Lit × DataW H → Nat
  | (.string bytes, d) => bytes.length + uptoBulk d + 1
  | (_, d) => uptoBulk d + 1
 end
def uptoSmall : (H : Type) → List (DataW H) → Bool := fun _ ds => decide (uptoBulkAll ds ≤ 1048576)
def OpenSpec.upto (s : _root_.Go.ChangeSpec) : _root_.Go.OpenSpec := { _root_.Go.OpenSpec.ofChange s with cond := some uptoSmall }

/-- 'laws.FnExactLispText', WHERE WHAT IT READS IS OF BULK AT MOST 1048576: true; the input reads as it did. -/
def fnExactLispTextUptoRow : OpenClaim := { program := "ytjkabbkaeioibaa", sum := "b5c4d94ed52a262151619fce1f123ffbaf2f47155731802b6f57662149169762", func := "loop.example/g03210/laws.FnExactLispText", spec := "fnExactLispText", apart := false, narrowed := true }
def FnExactLispTextUptoSaid : Prop := fnExactLispTextUptoRow.holds Try.pinned (OpenSpec.upto fnExactLispTextSpec)

/-- 'laws.FnExactArithmeticText', WHERE WHAT IT READS IS OF BULK AT MOST 1048576: true; the input reads as it did. -/
def fnExactArithmeticTextUptoRow : OpenClaim := { program := "ytjkabbkaeioibaa", sum := "b5c4d94ed52a262151619fce1f123ffbaf2f47155731802b6f57662149169762", func := "loop.example/g03210/laws.FnExactArithmeticText", spec := "fnExactArithmeticText", apart := false, narrowed := true }
def FnExactArithmeticTextUptoSaid : Prop := fnExactArithmeticTextUptoRow.holds Try.pinned (OpenSpec.upto fnExactArithmeticTextSpec)

/-- 'laws.FnExactNumeralOf', WHERE WHAT IT READS IS OF BULK AT MOST 1048576: true; the input reads as it did. -/
def fnExactNumeralOfUptoRow : OpenClaim := { program := "ytjkabbkaeioibaa", sum := "b5c4d94ed52a262151619fce1f123ffbaf2f47155731802b6f57662149169762", func := "loop.example/g03210/laws.FnExactNumeralOf", spec := "fnExactNumeralOf", recurses := true, apart := false, narrowed := true }
def FnExactNumeralOfUptoSaid : Prop := fnExactNumeralOfUptoRow.holds Try.pinned (OpenSpec.upto fnExactNumeralOfSpec)

/-- 'laws.FnExactNumeralPairs', WHERE WHAT IT READS IS OF BULK AT MOST 1048576: true; the input reads as it did. -/
def fnExactNumeralPairsUptoRow : OpenClaim := { program := "ytjkabbkaeioibaa", sum := "b5c4d94ed52a262151619fce1f123ffbaf2f47155731802b6f57662149169762", func := "loop.example/g03210/laws.FnExactNumeralPairs", spec := "fnExactNumeralPairs", recurses := true, apart := false, narrowed := true }
def FnExactNumeralPairsUptoSaid : Prop := fnExactNumeralPairsUptoRow.holds Try.pinned (OpenSpec.upto fnExactNumeralPairsSpec)

/-- 'laws.FnNumerals', WHERE WHAT IT READS IS OF BULK AT MOST 1048576: true; the input reads as it did. -/
def fnNumeralsUptoRow : OpenClaim := { program := "ytjkabbkaeioibaa", sum := "b5c4d94ed52a262151619fce1f123ffbaf2f47155731802b6f57662149169762", func := "loop.example/g03210/laws.FnNumerals", spec := "fnNumerals", recurses := true, apart := false, narrowed := true }
def FnNumeralsUptoSaid : Prop := fnNumeralsUptoRow.holds Try.pinned (OpenSpec.upto fnNumeralsSpec)

/-- 'laws.FnExactNumberOf', WHERE WHAT IT READS IS OF BULK AT MOST 1048576: true; the input reads as it did. -/
def fnExactNumberOfUptoRow : OpenClaim := { program := "ytjkabbkaeioibaa", sum := "b5c4d94ed52a262151619fce1f123ffbaf2f47155731802b6f57662149169762", func := "loop.example/g03210/laws.FnExactNumberOf", spec := "fnExactNumberOf", recurses := true, loops := true, apart := false, narrowed := true }
def FnExactNumberOfUptoSaid : Prop := fnExactNumberOfUptoRow.holds Try.pinned (OpenSpec.upto fnExactNumberOfSpec)

/-- 'laws.FnExactAddNumerals', WHERE WHAT IT READS IS OF BULK AT MOST 1048576: true; the input reads as it did. -/
def fnExactAddNumeralsUptoRow : OpenClaim := { program := "ytjkabbkaeioibaa", sum := "b5c4d94ed52a262151619fce1f123ffbaf2f47155731802b6f57662149169762", func := "loop.example/g03210/laws.FnExactAddNumerals", spec := "fnExactAddNumerals", recurses := true, loops := true, apart := false, narrowed := true }
def FnExactAddNumeralsUptoSaid : Prop := fnExactAddNumeralsUptoRow.holds Try.pinned (OpenSpec.upto fnExactAddNumeralsSpec)

/-- 'laws.FnExactLookupLisp', WHERE WHAT IT READS IS OF BULK AT MOST 1048576: true; the input reads as it did. -/
def fnExactLookupLispUptoRow : OpenClaim := { program := "ytjkabbkaeioibaa", sum := "b5c4d94ed52a262151619fce1f123ffbaf2f47155731802b6f57662149169762", func := "loop.example/g03210/laws.FnExactLookupLisp", spec := "fnExactLookupLisp", recurses := true, loops := true, apart := false, narrowed := true }
def FnExactLookupLispUptoSaid : Prop := fnExactLookupLispUptoRow.holds Try.pinned (OpenSpec.upto fnExactLookupLispSpec)

/-- 'laws.FnLisp', WHERE WHAT IT READS IS OF BULK AT MOST 1048576: true; the input reads as it did. -/
def fnLispUptoRow : OpenClaim := { program := "ytjkabbkaeioibaa", sum := "b5c4d94ed52a262151619fce1f123ffbaf2f47155731802b6f57662149169762", func := "loop.example/g03210/laws.FnLisp", spec := "fnLisp", unfollowed := true, recurses := true, apart := false, narrowed := true }
def FnLispUptoSaid : Prop := fnLispUptoRow.holds Try.pinned (OpenSpec.upto fnLispSpec)

/-- 'laws.FnExactStepsLisp', WHERE WHAT IT READS IS OF BULK AT MOST 1048576: true; the input reads as it did. -/
def fnExactStepsLispUptoRow : OpenClaim := { program := "ytjkabbkaeioibaa", sum := "b5c4d94ed52a262151619fce1f123ffbaf2f47155731802b6f57662149169762", func := "loop.example/g03210/laws.FnExactStepsLisp", spec := "fnExactStepsLisp", unfollowed := true, recurses := true, loops := true, apart := false, narrowed := true }
def FnExactStepsLispUptoSaid : Prop := fnExactStepsLispUptoRow.holds Try.pinned (OpenSpec.upto fnExactStepsLispSpec)

/-- 'laws.FnExactEvalLisp', WHERE WHAT IT READS IS OF BULK AT MOST 1048576: true; the input reads as it did. -/
def fnExactEvalLispUptoRow : OpenClaim := { program := "ytjkabbkaeioibaa", sum := "b5c4d94ed52a262151619fce1f123ffbaf2f47155731802b6f57662149169762", func := "loop.example/g03210/laws.FnExactEvalLisp", spec := "fnExactEvalLisp", unfollowed := true, recurses := true, loops := true, apart := false, narrowed := true }
def FnExactEvalLispUptoSaid : Prop := fnExactEvalLispUptoRow.holds Try.pinned (OpenSpec.upto fnExactEvalLispSpec)

end Rows
end Go.Proofs.Ytjkabbkaeioibaa
