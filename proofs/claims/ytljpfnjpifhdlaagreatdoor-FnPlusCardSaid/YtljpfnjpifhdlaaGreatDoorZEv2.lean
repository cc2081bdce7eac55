/- The searches of plus and less at 2 and each number below 16, carried out by the kernel. -/
import Derived.Test.YtljpfnjpifhdlaaGreatDoorZ7
namespace Go.Proofs.YtljpfnjpifhdlaaGreatDoor
set_option maxRecDepth 100000
theorem p2_0 : plusOk 2 0 = true := by decide +kernel
theorem l2_0 : lessOk 2 0 = true := by decide +kernel
theorem p2_1 : plusOk 2 1 = true := by decide +kernel
theorem l2_1 : lessOk 2 1 = true := by decide +kernel
theorem p2_2 : plusOk 2 2 = true := by decide +kernel
theorem l2_2 : lessOk 2 2 = true := by decide +kernel
theorem p2_3 : plusOk 2 3 = true := by decide +kernel
theorem l2_3 : lessOk 2 3 = true := by decide +kernel
theorem p2_4 : plusOk 2 4 = true := by decide +kernel
theorem l2_4 : lessOk 2 4 = true := by decide +kernel
theorem p2_5 : plusOk 2 5 = true := by decide +kernel
theorem l2_5 : lessOk 2 5 = true := by decide +kernel
theorem p2_6 : plusOk 2 6 = true := by decide +kernel
theorem l2_6 : lessOk 2 6 = true := by decide +kernel
theorem p2_7 : plusOk 2 7 = true := by decide +kernel
theorem l2_7 : lessOk 2 7 = true := by decide +kernel
theorem p2_8 : plusOk 2 8 = true := by decide +kernel
theorem l2_8 : lessOk 2 8 = true := by decide +kernel
theorem p2_9 : plusOk 2 9 = true := by decide +kernel
theorem l2_9 : lessOk 2 9 = true := by decide +kernel
theorem p2_10 : plusOk 2 10 = true := by decide +kernel
theorem l2_10 : lessOk 2 10 = true := by decide +kernel
theorem p2_11 : plusOk 2 11 = true := by decide +kernel
theorem l2_11 : lessOk 2 11 = true := by decide +kernel
theorem p2_12 : plusOk 2 12 = true := by decide +kernel
theorem l2_12 : lessOk 2 12 = true := by decide +kernel
theorem p2_13 : plusOk 2 13 = true := by decide +kernel
theorem l2_13 : lessOk 2 13 = true := by decide +kernel
theorem p2_14 : plusOk 2 14 = true := by decide +kernel
theorem l2_14 : lessOk 2 14 = true := by decide +kernel
theorem p2_15 : plusOk 2 15 = true := by decide +kernel
theorem l2_15 : lessOk 2 15 = true := by decide +kernel
theorem ev2 : ∀ y, y < 16 → plusOk 2 y = true ∧ lessOk 2 y = true
  | 0, _ => ⟨p2_0, l2_0⟩
  | 1, _ => ⟨p2_1, l2_1⟩
  | 2, _ => ⟨p2_2, l2_2⟩
  | 3, _ => ⟨p2_3, l2_3⟩
  | 4, _ => ⟨p2_4, l2_4⟩
  | 5, _ => ⟨p2_5, l2_5⟩
  | 6, _ => ⟨p2_6, l2_6⟩
  | 7, _ => ⟨p2_7, l2_7⟩
  | 8, _ => ⟨p2_8, l2_8⟩
  | 9, _ => ⟨p2_9, l2_9⟩
  | 10, _ => ⟨p2_10, l2_10⟩
  | 11, _ => ⟨p2_11, l2_11⟩
  | 12, _ => ⟨p2_12, l2_12⟩
  | 13, _ => ⟨p2_13, l2_13⟩
  | 14, _ => ⟨p2_14, l2_14⟩
  | 15, _ => ⟨p2_15, l2_15⟩
  | _ + 16, h => absurd h (by omega)
end Go.Proofs.YtljpfnjpifhdlaaGreatDoor
