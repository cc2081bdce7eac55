/- The searches of plus and less at 1 and each number below 16, carried out by the kernel. -/
import Derived.Test.YtljpfnjpifhdlaaGreatDoorZ7
namespace Go.Proofs.YtljpfnjpifhdlaaGreatDoor
set_option maxRecDepth 100000
theorem p1_0 : plusOk 1 0 = true := by decide +kernel
theorem l1_0 : lessOk 1 0 = true := by decide +kernel
theorem p1_1 : plusOk 1 1 = true := by decide +kernel
theorem l1_1 : lessOk 1 1 = true := by decide +kernel
theorem p1_2 : plusOk 1 2 = true := by decide +kernel
theorem l1_2 : lessOk 1 2 = true := by decide +kernel
theorem p1_3 : plusOk 1 3 = true := by decide +kernel
theorem l1_3 : lessOk 1 3 = true := by decide +kernel
theorem p1_4 : plusOk 1 4 = true := by decide +kernel
theorem l1_4 : lessOk 1 4 = true := by decide +kernel
theorem p1_5 : plusOk 1 5 = true := by decide +kernel
theorem l1_5 : lessOk 1 5 = true := by decide +kernel
theorem p1_6 : plusOk 1 6 = true := by decide +kernel
theorem l1_6 : lessOk 1 6 = true := by decide +kernel
theorem p1_7 : plusOk 1 7 = true := by decide +kernel
theorem l1_7 : lessOk 1 7 = true := by decide +kernel
theorem p1_8 : plusOk 1 8 = true := by decide +kernel
theorem l1_8 : lessOk 1 8 = true := by decide +kernel
theorem p1_9 : plusOk 1 9 = true := by decide +kernel
theorem l1_9 : lessOk 1 9 = true := by decide +kernel
theorem p1_10 : plusOk 1 10 = true := by decide +kernel
theorem l1_10 : lessOk 1 10 = true := by decide +kernel
theorem p1_11 : plusOk 1 11 = true := by decide +kernel
theorem l1_11 : lessOk 1 11 = true := by decide +kernel
theorem p1_12 : plusOk 1 12 = true := by decide +kernel
theorem l1_12 : lessOk 1 12 = true := by decide +kernel
theorem p1_13 : plusOk 1 13 = true := by decide +kernel
theorem l1_13 : lessOk 1 13 = true := by decide +kernel
theorem p1_14 : plusOk 1 14 = true := by decide +kernel
theorem l1_14 : lessOk 1 14 = true := by decide +kernel
theorem p1_15 : plusOk 1 15 = true := by decide +kernel
theorem l1_15 : lessOk 1 15 = true := by decide +kernel
theorem ev1 : ∀ y, y < 16 → plusOk 1 y = true ∧ lessOk 1 y = true
  | 0, _ => ⟨p1_0, l1_0⟩
  | 1, _ => ⟨p1_1, l1_1⟩
  | 2, _ => ⟨p1_2, l1_2⟩
  | 3, _ => ⟨p1_3, l1_3⟩
  | 4, _ => ⟨p1_4, l1_4⟩
  | 5, _ => ⟨p1_5, l1_5⟩
  | 6, _ => ⟨p1_6, l1_6⟩
  | 7, _ => ⟨p1_7, l1_7⟩
  | 8, _ => ⟨p1_8, l1_8⟩
  | 9, _ => ⟨p1_9, l1_9⟩
  | 10, _ => ⟨p1_10, l1_10⟩
  | 11, _ => ⟨p1_11, l1_11⟩
  | 12, _ => ⟨p1_12, l1_12⟩
  | 13, _ => ⟨p1_13, l1_13⟩
  | 14, _ => ⟨p1_14, l1_14⟩
  | 15, _ => ⟨p1_15, l1_15⟩
  | _ + 16, h => absurd h (by omega)
end Go.Proofs.YtljpfnjpifhdlaaGreatDoor
