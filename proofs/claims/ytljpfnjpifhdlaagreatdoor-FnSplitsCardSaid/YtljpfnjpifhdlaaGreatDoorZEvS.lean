/- The searches of plus backwards at the numbers below 6, carried out by the kernel. -/
import Derived.Test.YtljpfnjpifhdlaaGreatDoorZ7
namespace Go.Proofs.YtljpfnjpifhdlaaGreatDoor
set_option maxRecDepth 100000
theorem s0 : splOk 0 = true := by decide +kernel
theorem s1 : splOk 1 = true := by decide +kernel
theorem s2 : splOk 2 = true := by decide +kernel
theorem s3 : splOk 3 = true := by decide +kernel
theorem s4 : splOk 4 = true := by decide +kernel
theorem s5 : splOk 5 = true := by decide +kernel
theorem spl_all : ∀ n, n < 6 → splOk n = true
  | 0, _ => s0
  | 1, _ => s1
  | 2, _ => s2
  | 3, _ => s3
  | 4, _ => s4
  | 5, _ => s5
  | _ + 6, h => absurd h (by omega)
end Go.Proofs.YtljpfnjpifhdlaaGreatDoor
