/- The searches of plus and less at 6 and each number below 16, carried out by the kernel. -/
import Derived.Test.YtljpfnjpifhdlaaGreatDoorZ7
namespace Go.Proofs.YtljpfnjpifhdlaaGreatDoor
set_option maxRecDepth 100000
theorem p6_0 : plusOk 6 0 = true := by decide +kernel
theorem l6_0 : lessOk 6 0 = true := by decide +kernel
theorem p6_1 : plusOk 6 1 = true := by decide +kernel
theorem l6_1 : lessOk 6 1 = true := by decide +kernel
theorem p6_2 : plusOk 6 2 = true := by decide +kernel
theorem l6_2 : lessOk 6 2 = true := by decide +kernel
theorem p6_3 : plusOk 6 3 = true := by decide +kernel
theorem l6_3 : lessOk 6 3 = true := by decide +kernel
theorem p6_4 : plusOk 6 4 = true := by decide +kernel
theorem l6_4 : lessOk 6 4 = true := by decide +kernel
theorem p6_5 : plusOk 6 5 = true := by decide +kernel
theorem l6_5 : lessOk 6 5 = true := by decide +kernel
theorem p6_6 : plusOk 6 6 = true := by decide +kernel
theorem l6_6 : lessOk 6 6 = true := by decide +kernel
theorem p6_7 : plusOk 6 7 = true := by decide +kernel
theorem l6_7 : lessOk 6 7 = true := by decide +kernel
theorem p6_8 : plusOk 6 8 = true := by decide +kernel
theorem l6_8 : lessOk 6 8 = true := by decide +kernel
theorem p6_9 : plusOk 6 9 = true := by decide +kernel
theorem l6_9 : lessOk 6 9 = true := by decide +kernel
theorem p6_10 : plusOk 6 10 = true := by decide +kernel
theorem l6_10 : lessOk 6 10 = true := by decide +kernel
theorem p6_11 : plusOk 6 11 = true := by decide +kernel
theorem l6_11 : lessOk 6 11 = true := by decide +kernel
theorem p6_12 : plusOk 6 12 = true := by decide +kernel
theorem l6_12 : lessOk 6 12 = true := by decide +kernel
theorem p6_13 : plusOk 6 13 = true := by decide +kernel
theorem l6_13 : lessOk 6 13 = true := by decide +kernel
theorem p6_14 : plusOk 6 14 = true := by decide +kernel
theorem l6_14 : lessOk 6 14 = true := by decide +kernel
theorem p6_15 : plusOk 6 15 = true := by decide +kernel
theorem l6_15 : lessOk 6 15 = true := by decide +kernel
theorem ev6 : ∀ y, y < 16 → plusOk 6 y = true ∧ lessOk 6 y = true
  | 0, _ => ⟨p6_0, l6_0⟩
  | 1, _ => ⟨p6_1, l6_1⟩
  | 2, _ => ⟨p6_2, l6_2⟩
  | 3, _ => ⟨p6_3, l6_3⟩
  | 4, _ => ⟨p6_4, l6_4⟩
  | 5, _ => ⟨p6_5, l6_5⟩
  | 6, _ => ⟨p6_6, l6_6⟩
  | 7, _ => ⟨p6_7, l6_7⟩
  | 8, _ => ⟨p6_8, l6_8⟩
  | 9, _ => ⟨p6_9, l6_9⟩
  | 10, _ => ⟨p6_10, l6_10⟩
  | 11, _ => ⟨p6_11, l6_11⟩
  | 12, _ => ⟨p6_12, l6_12⟩
  | 13, _ => ⟨p6_13, l6_13⟩
  | 14, _ => ⟨p6_14, l6_14⟩
  | 15, _ => ⟨p6_15, l6_15⟩
  | _ + 16, h => absurd h (by omega)
end Go.Proofs.YtljpfnjpifhdlaaGreatDoor
