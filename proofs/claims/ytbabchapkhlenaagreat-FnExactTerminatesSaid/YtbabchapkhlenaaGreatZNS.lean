/- Parts of the proof: where steps stop. -/
import Derived.Test.YtbabchapkhlenaaGreatZ8
namespace Go.Proofs.YtbabchapkhlenaaGreat
open Go
def memN : List Nat → Nat → Bool
  | [], _ => false
  | x :: l, y => bif Nat.beq x y then true else memN l y
def stops (c s : List Nat) (o : Oper) : Bool :=
  bif (match o.op with | .call { callee := .value (.func g), .. } => memN c g | _ => false) then true else match o.dst with | some d => memN s d | none => false
theorem nS {c s : List Nat} {Y : Prop} {P : Program} {n : Nat} {C : Cx} {ops : Array Oper} {K : AF → List Atm → Prop} {o : Oper} {rest : List Oper} {f : AF} {A : List Atm} (_h : Hs c s Y) (k : AO P n C ops K (o :: rest) f A) (_hs : stops c s o = true := by with_unfolding_all exact rfl) : AO P n C ops K (o :: rest) f A := k
end Go.Proofs.YtbabchapkhlenaaGreat
