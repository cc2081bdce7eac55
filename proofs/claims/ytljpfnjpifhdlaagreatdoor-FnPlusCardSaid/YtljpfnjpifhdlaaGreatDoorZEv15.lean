/- The searches of plus and less at 15 and each number below 16, carried out by the kernel. -/
import Derived.Test.YtljpfnjpifhdlaaGreatDoorZ7
namespace Go.Proofs.YtljpfnjpifhdlaaGreatDoor
set_option maxRecDepth 100000
theorem p15_0 : plusOk 15 0 = true := by decide +kernel
theorem l15_0 : lessOk 15 0 = true := by decide +kernel
theorem p15_1 : plusOk 15 1 = true := by decide +kernel
theorem l15_1 : lessOk 15 1 = true := by decide +kernel
theorem p15_2 : plusOk 15 2 = true := by decide +kernel
theorem l15_2 : lessOk 15 2 = true := by decide +kernel
theorem p15_3 : plusOk 15 3 = true := by decide +kernel
theorem l15_3 : lessOk 15 3 = true := by decide +kernel
theorem p15_4 : plusOk 15 4 = true := by decide +kernel
theorem l15_4 : lessOk 15 4 = true := by decide +kernel
theorem p15_5 : plusOk 15 5 = true := by decide +kernel
theorem l15_5 : lessOk 15 5 = true := by decide +kernel
theorem p15_6 : plusOk 15 6 = true := by decide +kernel
theorem l15_6 : lessOk 15 6 = true := by decide +kernel
theorem p15_7 : plusOk 15 7 = true := by decide +kernel
theorem l15_7 : lessOk 15 7 = true := by decide +kernel
theorem p15_8 : plusOk 15 8 = true := by decide +kernel
theorem l15_8 : lessOk 15 8 = true := by decide +kernel
theorem p15_9 : plusOk 15 9 = true := by decide +kernel
theorem l15_9 : lessOk 15 9 = true := by decide +kernel
theorem p15_10 : plusOk 15 10 = true := by decide +kernel
theorem l15_10 : lessOk 15 10 = true := by decide +kernel
theorem p15_11 : plusOk 15 11 = true := by decide +kernel
theorem l15_11 : lessOk 15 11 = true := by decide +kernel
theorem p15_12 : plusOk 15 12 = true := by decide +kernel
theorem l15_12 : lessOk 15 12 = true := by decide +kernel
theorem p15_13 : plusOk 15 13 = true := by decide +kernel
theorem l15_13 : lessOk 15 13 = true := by decide +kernel
theorem p15_14 : plusOk 15 14 = true := by decide +kernel
theorem l15_14 : lessOk 15 14 = true := by decide +kernel
theorem p15_15 : plusOk 15 15 = true := by decide +kernel
theorem l15_15 : lessOk 15 15 = true := by decide +kernel
theorem ev15 : ∀ y, y < 16 → plusOk 15 y = true ∧ lessOk 15 y = true
  | 0, _ => ⟨p15_0, l15_0⟩
  | 1, _ => ⟨p15_1, l15_1⟩
  | 2, _ => ⟨p15_2, l15_2⟩
  | 3, _ => ⟨p15_3, l15_3⟩
  | 4, _ => ⟨p15_4, l15_4⟩
  | 5, _ => ⟨p15_5, l15_5⟩
  | 6, _ => ⟨p15_6, l15_6⟩
  | 7, _ => ⟨p15_7, l15_7⟩
  | 8, _ => ⟨p15_8, l15_8⟩
  | 9, _ => ⟨p15_9, l15_9⟩
  | 10, _ => ⟨p15_10, l15_10⟩
  | 11, _ => ⟨p15_11, l15_11⟩
  | 12, _ => ⟨p15_12, l15_12⟩
  | 13, _ => ⟨p15_13, l15_13⟩
  | 14, _ => ⟨p15_14, l15_14⟩
  | 15, _ => ⟨p15_15, l15_15⟩
  | _ + 16, h => absurd h (by omega)
end Go.Proofs.YtljpfnjpifhdlaaGreatDoor
