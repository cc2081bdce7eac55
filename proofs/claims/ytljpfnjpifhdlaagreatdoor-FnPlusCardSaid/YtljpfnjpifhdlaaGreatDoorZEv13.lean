/- The searches of plus and less at 13 and each number below 16, carried out by the kernel. -/
import Derived.Test.YtljpfnjpifhdlaaGreatDoorZ7
namespace Go.Proofs.YtljpfnjpifhdlaaGreatDoor
set_option maxRecDepth 100000
theorem p13_0 : plusOk 13 0 = true := by decide +kernel
theorem l13_0 : lessOk 13 0 = true := by decide +kernel
theorem p13_1 : plusOk 13 1 = true := by decide +kernel
theorem l13_1 : lessOk 13 1 = true := by decide +kernel
theorem p13_2 : plusOk 13 2 = true := by decide +kernel
theorem l13_2 : lessOk 13 2 = true := by decide +kernel
theorem p13_3 : plusOk 13 3 = true := by decide +kernel
theorem l13_3 : lessOk 13 3 = true := by decide +kernel
theorem p13_4 : plusOk 13 4 = true := by decide +kernel
theorem l13_4 : lessOk 13 4 = true := by decide +kernel
theorem p13_5 : plusOk 13 5 = true := by decide +kernel
theorem l13_5 : lessOk 13 5 = true := by decide +kernel
theorem p13_6 : plusOk 13 6 = true := by decide +kernel
theorem l13_6 : lessOk 13 6 = true := by decide +kernel
theorem p13_7 : plusOk 13 7 = true := by decide +kernel
theorem l13_7 : lessOk 13 7 = true := by decide +kernel
theorem p13_8 : plusOk 13 8 = true := by decide +kernel
theorem l13_8 : lessOk 13 8 = true := by decide +kernel
theorem p13_9 : plusOk 13 9 = true := by decide +kernel
theorem l13_9 : lessOk 13 9 = true := by decide +kernel
theorem p13_10 : plusOk 13 10 = true := by decide +kernel
theorem l13_10 : lessOk 13 10 = true := by decide +kernel
theorem p13_11 : plusOk 13 11 = true := by decide +kernel
theorem l13_11 : lessOk 13 11 = true := by decide +kernel
theorem p13_12 : plusOk 13 12 = true := by decide +kernel
theorem l13_12 : lessOk 13 12 = true := by decide +kernel
theorem p13_13 : plusOk 13 13 = true := by decide +kernel
theorem l13_13 : lessOk 13 13 = true := by decide +kernel
theorem p13_14 : plusOk 13 14 = true := by decide +kernel
theorem l13_14 : lessOk 13 14 = true := by decide +kernel
theorem p13_15 : plusOk 13 15 = true := by decide +kernel
theorem l13_15 : lessOk 13 15 = true := by decide +kernel
theorem ev13 : ∀ y, y < 16 → plusOk 13 y = true ∧ lessOk 13 y = true
  | 0, _ => ⟨p13_0, l13_0⟩
  | 1, _ => ⟨p13_1, l13_1⟩
  | 2, _ => ⟨p13_2, l13_2⟩
  | 3, _ => ⟨p13_3, l13_3⟩
  | 4, _ => ⟨p13_4, l13_4⟩
  | 5, _ => ⟨p13_5, l13_5⟩
  | 6, _ => ⟨p13_6, l13_6⟩
  | 7, _ => ⟨p13_7, l13_7⟩
  | 8, _ => ⟨p13_8, l13_8⟩
  | 9, _ => ⟨p13_9, l13_9⟩
  | 10, _ => ⟨p13_10, l13_10⟩
  | 11, _ => ⟨p13_11, l13_11⟩
  | 12, _ => ⟨p13_12, l13_12⟩
  | 13, _ => ⟨p13_13, l13_13⟩
  | 14, _ => ⟨p13_14, l13_14⟩
  | 15, _ => ⟨p13_15, l13_15⟩
  | _ + 16, h => absurd h (by omega)
end Go.Proofs.YtljpfnjpifhdlaaGreatDoor
