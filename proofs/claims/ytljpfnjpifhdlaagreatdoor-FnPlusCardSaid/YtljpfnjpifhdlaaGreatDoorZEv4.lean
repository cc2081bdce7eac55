/- The searches of plus and less at 4 and each number below 16, carried out by the kernel. -/
import Derived.Test.YtljpfnjpifhdlaaGreatDoorZ7
namespace Go.Proofs.YtljpfnjpifhdlaaGreatDoor
set_option maxRecDepth 100000
theorem p4_0 : plusOk 4 0 = true := by decide +kernel
theorem l4_0 : lessOk 4 0 = true := by decide +kernel
theorem p4_1 : plusOk 4 1 = true := by decide +kernel
theorem l4_1 : lessOk 4 1 = true := by decide +kernel
theorem p4_2 : plusOk 4 2 = true := by decide +kernel
theorem l4_2 : lessOk 4 2 = true := by decide +kernel
theorem p4_3 : plusOk 4 3 = true := by decide +kernel
theorem l4_3 : lessOk 4 3 = true := by decide +kernel
theorem p4_4 : plusOk 4 4 = true := by decide +kernel
theorem l4_4 : lessOk 4 4 = true := by decide +kernel
theorem p4_5 : plusOk 4 5 = true := by decide +kernel
theorem l4_5 : lessOk 4 5 = true := by decide +kernel
theorem p4_6 : plusOk 4 6 = true := by decide +kernel
theorem l4_6 : lessOk 4 6 = true := by decide +kernel
theorem p4_7 : plusOk 4 7 = true := by decide +kernel
theorem l4_7 : lessOk 4 7 = true := by decide +kernel
theorem p4_8 : plusOk 4 8 = true := by decide +kernel
theorem l4_8 : lessOk 4 8 = true := by decide +kernel
theorem p4_9 : plusOk 4 9 = true := by decide +kernel
theorem l4_9 : lessOk 4 9 = true := by decide +kernel
theorem p4_10 : plusOk 4 10 = true := by decide +kernel
theorem l4_10 : lessOk 4 10 = true := by decide +kernel
theorem p4_11 : plusOk 4 11 = true := by decide +kernel
theorem l4_11 : lessOk 4 11 = true := by decide +kernel
theorem p4_12 : plusOk 4 12 = true := by decide +kernel
theorem l4_12 : lessOk 4 12 = true := by decide +kernel
theorem p4_13 : plusOk 4 13 = true := by decide +kernel
theorem l4_13 : lessOk 4 13 = true := by decide +kernel
theorem p4_14 : plusOk 4 14 = true := by decide +kernel
theorem l4_14 : lessOk 4 14 = true := by decide +kernel
theorem p4_15 : plusOk 4 15 = true := by decide +kernel
theorem l4_15 : lessOk 4 15 = true := by decide +kernel
theorem ev4 : ∀ y, y < 16 → plusOk 4 y = true ∧ lessOk 4 y = true
  | 0, _ => ⟨p4_0, l4_0⟩
  | 1, _ => ⟨p4_1, l4_1⟩
  | 2, _ => ⟨p4_2, l4_2⟩
  | 3, _ => ⟨p4_3, l4_3⟩
  | 4, _ => ⟨p4_4, l4_4⟩
  | 5, _ => ⟨p4_5, l4_5⟩
  | 6, _ => ⟨p4_6, l4_6⟩
  | 7, _ => ⟨p4_7, l4_7⟩
  | 8, _ => ⟨p4_8, l4_8⟩
  | 9, _ => ⟨p4_9, l4_9⟩
  | 10, _ => ⟨p4_10, l4_10⟩
  | 11, _ => ⟨p4_11, l4_11⟩
  | 12, _ => ⟨p4_12, l4_12⟩
  | 13, _ => ⟨p4_13, l4_13⟩
  | 14, _ => ⟨p4_14, l4_14⟩
  | 15, _ => ⟨p4_15, l4_15⟩
  | _ + 16, h => absurd h (by omega)
end Go.Proofs.YtljpfnjpifhdlaaGreatDoor
