/- The searches of plus and less at 8 and each number below 16, carried out by the kernel. -/
import Derived.Test.YtljpfnjpifhdlaaGreatDoorZ7
namespace Go.Proofs.YtljpfnjpifhdlaaGreatDoor
set_option maxRecDepth 100000
theorem p8_0 : plusOk 8 0 = true := by decide +kernel
theorem l8_0 : lessOk 8 0 = true := by decide +kernel
theorem p8_1 : plusOk 8 1 = true := by decide +kernel
theorem l8_1 : lessOk 8 1 = true := by decide +kernel
theorem p8_2 : plusOk 8 2 = true := by decide +kernel
theorem l8_2 : lessOk 8 2 = true := by decide +kernel
theorem p8_3 : plusOk 8 3 = true := by decide +kernel
theorem l8_3 : lessOk 8 3 = true := by decide +kernel
theorem p8_4 : plusOk 8 4 = true := by decide +kernel
theorem l8_4 : lessOk 8 4 = true := by decide +kernel
theorem p8_5 : plusOk 8 5 = true := by decide +kernel
theorem l8_5 : lessOk 8 5 = true := by decide +kernel
theorem p8_6 : plusOk 8 6 = true := by decide +kernel
theorem l8_6 : lessOk 8 6 = true := by decide +kernel
theorem p8_7 : plusOk 8 7 = true := by decide +kernel
theorem l8_7 : lessOk 8 7 = true := by decide +kernel
theorem p8_8 : plusOk 8 8 = true := by decide +kernel
theorem l8_8 : lessOk 8 8 = true := by decide +kernel
theorem p8_9 : plusOk 8 9 = true := by decide +kernel
theorem l8_9 : lessOk 8 9 = true := by decide +kernel
theorem p8_10 : plusOk 8 10 = true := by decide +kernel
theorem l8_10 : lessOk 8 10 = true := by decide +kernel
theorem p8_11 : plusOk 8 11 = true := by decide +kernel
theorem l8_11 : lessOk 8 11 = true := by decide +kernel
theorem p8_12 : plusOk 8 12 = true := by decide +kernel
theorem l8_12 : lessOk 8 12 = true := by decide +kernel
theorem p8_13 : plusOk 8 13 = true := by decide +kernel
theorem l8_13 : lessOk 8 13 = true := by decide +kernel
theorem p8_14 : plusOk 8 14 = true := by decide +kernel
theorem l8_14 : lessOk 8 14 = true := by decide +kernel
theorem p8_15 : plusOk 8 15 = true := by decide +kernel
theorem l8_15 : lessOk 8 15 = true := by decide +kernel
theorem ev8 : ∀ y, y < 16 → plusOk 8 y = true ∧ lessOk 8 y = true
  | 0, _ => ⟨p8_0, l8_0⟩
  | 1, _ => ⟨p8_1, l8_1⟩
  | 2, _ => ⟨p8_2, l8_2⟩
  | 3, _ => ⟨p8_3, l8_3⟩
  | 4, _ => ⟨p8_4, l8_4⟩
  | 5, _ => ⟨p8_5, l8_5⟩
  | 6, _ => ⟨p8_6, l8_6⟩
  | 7, _ => ⟨p8_7, l8_7⟩
  | 8, _ => ⟨p8_8, l8_8⟩
  | 9, _ => ⟨p8_9, l8_9⟩
  | 10, _ => ⟨p8_10, l8_10⟩
  | 11, _ => ⟨p8_11, l8_11⟩
  | 12, _ => ⟨p8_12, l8_12⟩
  | 13, _ => ⟨p8_13, l8_13⟩
  | 14, _ => ⟨p8_14, l8_14⟩
  | 15, _ => ⟨p8_15, l8_15⟩
  | _ + 16, h => absurd h (by omega)
end Go.Proofs.YtljpfnjpifhdlaaGreatDoor
