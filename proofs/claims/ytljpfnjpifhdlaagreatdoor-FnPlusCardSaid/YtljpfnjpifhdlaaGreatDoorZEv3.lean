/- The searches of plus and less at 3 and each number below 16, carried out by the kernel. -/
import Derived.Test.YtljpfnjpifhdlaaGreatDoorZ7
namespace Go.Proofs.YtljpfnjpifhdlaaGreatDoor
set_option maxRecDepth 100000
theorem p3_0 : plusOk 3 0 = true := by decide +kernel
theorem l3_0 : lessOk 3 0 = true := by decide +kernel
theorem p3_1 : plusOk 3 1 = true := by decide +kernel
theorem l3_1 : lessOk 3 1 = true := by decide +kernel
theorem p3_2 : plusOk 3 2 = true := by decide +kernel
theorem l3_2 : lessOk 3 2 = true := by decide +kernel
theorem p3_3 : plusOk 3 3 = true := by decide +kernel
theorem l3_3 : lessOk 3 3 = true := by decide +kernel
theorem p3_4 : plusOk 3 4 = true := by decide +kernel
theorem l3_4 : lessOk 3 4 = true := by decide +kernel
theorem p3_5 : plusOk 3 5 = true := by decide +kernel
theorem l3_5 : lessOk 3 5 = true := by decide +kernel
theorem p3_6 : plusOk 3 6 = true := by decide +kernel
theorem l3_6 : lessOk 3 6 = true := by decide +kernel
theorem p3_7 : plusOk 3 7 = true := by decide +kernel
theorem l3_7 : lessOk 3 7 = true := by decide +kernel
theorem p3_8 : plusOk 3 8 = true := by decide +kernel
theorem l3_8 : lessOk 3 8 = true := by decide +kernel
theorem p3_9 : plusOk 3 9 = true := by decide +kernel
theorem l3_9 : lessOk 3 9 = true := by decide +kernel
theorem p3_10 : plusOk 3 10 = true := by decide +kernel
theorem l3_10 : lessOk 3 10 = true := by decide +kernel
theorem p3_11 : plusOk 3 11 = true := by decide +kernel
theorem l3_11 : lessOk 3 11 = true := by decide +kernel
theorem p3_12 : plusOk 3 12 = true := by decide +kernel
theorem l3_12 : lessOk 3 12 = true := by decide +kernel
theorem p3_13 : plusOk 3 13 = true := by decide +kernel
theorem l3_13 : lessOk 3 13 = true := by decide +kernel
theorem p3_14 : plusOk 3 14 = true := by decide +kernel
theorem l3_14 : lessOk 3 14 = true := by decide +kernel
theorem p3_15 : plusOk 3 15 = true := by decide +kernel
theorem l3_15 : lessOk 3 15 = true := by decide +kernel
theorem ev3 : ∀ y, y < 16 → plusOk 3 y = true ∧ lessOk 3 y = true
  | 0, _ => ⟨p3_0, l3_0⟩
  | 1, _ => ⟨p3_1, l3_1⟩
  | 2, _ => ⟨p3_2, l3_2⟩
  | 3, _ => ⟨p3_3, l3_3⟩
  | 4, _ => ⟨p3_4, l3_4⟩
  | 5, _ => ⟨p3_5, l3_5⟩
  | 6, _ => ⟨p3_6, l3_6⟩
  | 7, _ => ⟨p3_7, l3_7⟩
  | 8, _ => ⟨p3_8, l3_8⟩
  | 9, _ => ⟨p3_9, l3_9⟩
  | 10, _ => ⟨p3_10, l3_10⟩
  | 11, _ => ⟨p3_11, l3_11⟩
  | 12, _ => ⟨p3_12, l3_12⟩
  | 13, _ => ⟨p3_13, l3_13⟩
  | 14, _ => ⟨p3_14, l3_14⟩
  | 15, _ => ⟨p3_15, l3_15⟩
  | _ + 16, h => absurd h (by omega)
end Go.Proofs.YtljpfnjpifhdlaaGreatDoor
