/- The searches of plus and less at 7 and each number below 16, carried out by the kernel. -/
import Derived.Test.YtljpfnjpifhdlaaGreatDoorZ7
namespace Go.Proofs.YtljpfnjpifhdlaaGreatDoor
set_option maxRecDepth 100000
theorem p7_0 : plusOk 7 0 = true := by decide +kernel
theorem l7_0 : lessOk 7 0 = true := by decide +kernel
theorem p7_1 : plusOk 7 1 = true := by decide +kernel
theorem l7_1 : lessOk 7 1 = true := by decide +kernel
theorem p7_2 : plusOk 7 2 = true := by decide +kernel
theorem l7_2 : lessOk 7 2 = true := by decide +kernel
theorem p7_3 : plusOk 7 3 = true := by decide +kernel
theorem l7_3 : lessOk 7 3 = true := by decide +kernel
theorem p7_4 : plusOk 7 4 = true := by decide +kernel
theorem l7_4 : lessOk 7 4 = true := by decide +kernel
theorem p7_5 : plusOk 7 5 = true := by decide +kernel
theorem l7_5 : lessOk 7 5 = true := by decide +kernel
theorem p7_6 : plusOk 7 6 = true := by decide +kernel
theorem l7_6 : lessOk 7 6 = true := by decide +kernel
theorem p7_7 : plusOk 7 7 = true := by decide +kernel
theorem l7_7 : lessOk 7 7 = true := by decide +kernel
theorem p7_8 : plusOk 7 8 = true := by decide +kernel
theorem l7_8 : lessOk 7 8 = true := by decide +kernel
theorem p7_9 : plusOk 7 9 = true := by decide +kernel
theorem l7_9 : lessOk 7 9 = true := by decide +kernel
theorem p7_10 : plusOk 7 10 = true := by decide +kernel
theorem l7_10 : lessOk 7 10 = true := by decide +kernel
theorem p7_11 : plusOk 7 11 = true := by decide +kernel
theorem l7_11 : lessOk 7 11 = true := by decide +kernel
theorem p7_12 : plusOk 7 12 = true := by decide +kernel
theorem l7_12 : lessOk 7 12 = true := by decide +kernel
theorem p7_13 : plusOk 7 13 = true := by decide +kernel
theorem l7_13 : lessOk 7 13 = true := by decide +kernel
theorem p7_14 : plusOk 7 14 = true := by decide +kernel
theorem l7_14 : lessOk 7 14 = true := by decide +kernel
theorem p7_15 : plusOk 7 15 = true := by decide +kernel
theorem l7_15 : lessOk 7 15 = true := by decide +kernel
theorem ev7 : ∀ y, y < 16 → plusOk 7 y = true ∧ lessOk 7 y = true
  | 0, _ => ⟨p7_0, l7_0⟩
  | 1, _ => ⟨p7_1, l7_1⟩
  | 2, _ => ⟨p7_2, l7_2⟩
  | 3, _ => ⟨p7_3, l7_3⟩
  | 4, _ => ⟨p7_4, l7_4⟩
  | 5, _ => ⟨p7_5, l7_5⟩
  | 6, _ => ⟨p7_6, l7_6⟩
  | 7, _ => ⟨p7_7, l7_7⟩
  | 8, _ => ⟨p7_8, l7_8⟩
  | 9, _ => ⟨p7_9, l7_9⟩
  | 10, _ => ⟨p7_10, l7_10⟩
  | 11, _ => ⟨p7_11, l7_11⟩
  | 12, _ => ⟨p7_12, l7_12⟩
  | 13, _ => ⟨p7_13, l7_13⟩
  | 14, _ => ⟨p7_14, l7_14⟩
  | 15, _ => ⟨p7_15, l7_15⟩
  | _ + 16, h => absurd h (by omega)
end Go.Proofs.YtljpfnjpifhdlaaGreatDoor
