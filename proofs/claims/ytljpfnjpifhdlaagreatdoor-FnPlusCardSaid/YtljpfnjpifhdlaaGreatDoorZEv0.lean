/- The searches of plus and less at 0 and each number below 16, carried out by the kernel. -/
import Derived.Test.YtljpfnjpifhdlaaGreatDoorZ7
namespace Go.Proofs.YtljpfnjpifhdlaaGreatDoor
set_option maxRecDepth 100000
theorem p0_0 : plusOk 0 0 = true := by decide +kernel
theorem l0_0 : lessOk 0 0 = true := by decide +kernel
theorem p0_1 : plusOk 0 1 = true := by decide +kernel
theorem l0_1 : lessOk 0 1 = true := by decide +kernel
theorem p0_2 : plusOk 0 2 = true := by decide +kernel
theorem l0_2 : lessOk 0 2 = true := by decide +kernel
theorem p0_3 : plusOk 0 3 = true := by decide +kernel
theorem l0_3 : lessOk 0 3 = true := by decide +kernel
theorem p0_4 : plusOk 0 4 = true := by decide +kernel
theorem l0_4 : lessOk 0 4 = true := by decide +kernel
theorem p0_5 : plusOk 0 5 = true := by decide +kernel
theorem l0_5 : lessOk 0 5 = true := by decide +kernel
theorem p0_6 : plusOk 0 6 = true := by decide +kernel
theorem l0_6 : lessOk 0 6 = true := by decide +kernel
theorem p0_7 : plusOk 0 7 = true := by decide +kernel
theorem l0_7 : lessOk 0 7 = true := by decide +kernel
theorem p0_8 : plusOk 0 8 = true := by decide +kernel
theorem l0_8 : lessOk 0 8 = true := by decide +kernel
theorem p0_9 : plusOk 0 9 = true := by decide +kernel
theorem l0_9 : lessOk 0 9 = true := by decide +kernel
theorem p0_10 : plusOk 0 10 = true := by decide +kernel
theorem l0_10 : lessOk 0 10 = true := by decide +kernel
theorem p0_11 : plusOk 0 11 = true := by decide +kernel
theorem l0_11 : lessOk 0 11 = true := by decide +kernel
theorem p0_12 : plusOk 0 12 = true := by decide +kernel
theorem l0_12 : lessOk 0 12 = true := by decide +kernel
theorem p0_13 : plusOk 0 13 = true := by decide +kernel
theorem l0_13 : lessOk 0 13 = true := by decide +kernel
theorem p0_14 : plusOk 0 14 = true := by decide +kernel
theorem l0_14 : lessOk 0 14 = true := by decide +kernel
theorem p0_15 : plusOk 0 15 = true := by decide +kernel
theorem l0_15 : lessOk 0 15 = true := by decide +kernel
theorem ev0 : ∀ y, y < 16 → plusOk 0 y = true ∧ lessOk 0 y = true
  | 0, _ => ⟨p0_0, l0_0⟩
  | 1, _ => ⟨p0_1, l0_1⟩
  | 2, _ => ⟨p0_2, l0_2⟩
  | 3, _ => ⟨p0_3, l0_3⟩
  | 4, _ => ⟨p0_4, l0_4⟩
  | 5, _ => ⟨p0_5, l0_5⟩
  | 6, _ => ⟨p0_6, l0_6⟩
  | 7, _ => ⟨p0_7, l0_7⟩
  | 8, _ => ⟨p0_8, l0_8⟩
  | 9, _ => ⟨p0_9, l0_9⟩
  | 10, _ => ⟨p0_10, l0_10⟩
  | 11, _ => ⟨p0_11, l0_11⟩
  | 12, _ => ⟨p0_12, l0_12⟩
  | 13, _ => ⟨p0_13, l0_13⟩
  | 14, _ => ⟨p0_14, l0_14⟩
  | 15, _ => ⟨p0_15, l0_15⟩
  | _ + 16, h => absurd h (by omega)
end Go.Proofs.YtljpfnjpifhdlaaGreatDoor
