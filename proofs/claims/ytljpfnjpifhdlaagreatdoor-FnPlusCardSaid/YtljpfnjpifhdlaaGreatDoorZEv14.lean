/- The searches of plus and less at 14 and each number below 16, carried out by the kernel. -/
import Derived.Test.YtljpfnjpifhdlaaGreatDoorZ7
namespace Go.Proofs.YtljpfnjpifhdlaaGreatDoor
set_option maxRecDepth 100000
theorem p14_0 : plusOk 14 0 = true := by decide +kernel
theorem l14_0 : lessOk 14 0 = true := by decide +kernel
theorem p14_1 : plusOk 14 1 = true := by decide +kernel
theorem l14_1 : lessOk 14 1 = true := by decide +kernel
theorem p14_2 : plusOk 14 2 = true := by decide +kernel
theorem l14_2 : lessOk 14 2 = true := by decide +kernel
theorem p14_3 : plusOk 14 3 = true := by decide +kernel
theorem l14_3 : lessOk 14 3 = true := by decide +kernel
theorem p14_4 : plusOk 14 4 = true := by decide +kernel
theorem l14_4 : lessOk 14 4 = true := by decide +kernel
theorem p14_5 : plusOk 14 5 = true := by decide +kernel
theorem l14_5 : lessOk 14 5 = true := by decide +kernel
theorem p14_6 : plusOk 14 6 = true := by decide +kernel
theorem l14_6 : lessOk 14 6 = true := by decide +kernel
theorem p14_7 : plusOk 14 7 = true := by decide +kernel
theorem l14_7 : lessOk 14 7 = true := by decide +kernel
theorem p14_8 : plusOk 14 8 = true := by decide +kernel
theorem l14_8 : lessOk 14 8 = true := by decide +kernel
theorem p14_9 : plusOk 14 9 = true := by decide +kernel
theorem l14_9 : lessOk 14 9 = true := by decide +kernel
theorem p14_10 : plusOk 14 10 = true := by decide +kernel
theorem l14_10 : lessOk 14 10 = true := by decide +kernel
theorem p14_11 : plusOk 14 11 = true := by decide +kernel
theorem l14_11 : lessOk 14 11 = true := by decide +kernel
theorem p14_12 : plusOk 14 12 = true := by decide +kernel
theorem l14_12 : lessOk 14 12 = true := by decide +kernel
theorem p14_13 : plusOk 14 13 = true := by decide +kernel
theorem l14_13 : lessOk 14 13 = true := by decide +kernel
theorem p14_14 : plusOk 14 14 = true := by decide +kernel
theorem l14_14 : lessOk 14 14 = true := by decide +kernel
theorem p14_15 : plusOk 14 15 = true := by decide +kernel
theorem l14_15 : lessOk 14 15 = true := by decide +kernel
theorem ev14 : ∀ y, y < 16 → plusOk 14 y = true ∧ lessOk 14 y = true
  | 0, _ => ⟨p14_0, l14_0⟩
  | 1, _ => ⟨p14_1, l14_1⟩
  | 2, _ => ⟨p14_2, l14_2⟩
  | 3, _ => ⟨p14_3, l14_3⟩
  | 4, _ => ⟨p14_4, l14_4⟩
  | 5, _ => ⟨p14_5, l14_5⟩
  | 6, _ => ⟨p14_6, l14_6⟩
  | 7, _ => ⟨p14_7, l14_7⟩
  | 8, _ => ⟨p14_8, l14_8⟩
  | 9, _ => ⟨p14_9, l14_9⟩
  | 10, _ => ⟨p14_10, l14_10⟩
  | 11, _ => ⟨p14_11, l14_11⟩
  | 12, _ => ⟨p14_12, l14_12⟩
  | 13, _ => ⟨p14_13, l14_13⟩
  | 14, _ => ⟨p14_14, l14_14⟩
  | 15, _ => ⟨p14_15, l14_15⟩
  | _ + 16, h => absurd h (by omega)
end Go.Proofs.YtljpfnjpifhdlaaGreatDoor
