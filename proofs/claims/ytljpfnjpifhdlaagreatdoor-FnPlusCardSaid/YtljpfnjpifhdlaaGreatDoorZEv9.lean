/- The searches of plus and less at 9 and each number below 16, carried out by the kernel. -/
import Derived.Test.YtljpfnjpifhdlaaGreatDoorZ7
namespace Go.Proofs.YtljpfnjpifhdlaaGreatDoor
set_option maxRecDepth 100000
theorem p9_0 : plusOk 9 0 = true := by decide +kernel
theorem l9_0 : lessOk 9 0 = true := by decide +kernel
theorem p9_1 : plusOk 9 1 = true := by decide +kernel
theorem l9_1 : lessOk 9 1 = true := by decide +kernel
theorem p9_2 : plusOk 9 2 = true := by decide +kernel
theorem l9_2 : lessOk 9 2 = true := by decide +kernel
theorem p9_3 : plusOk 9 3 = true := by decide +kernel
theorem l9_3 : lessOk 9 3 = true := by decide +kernel
theorem p9_4 : plusOk 9 4 = true := by decide +kernel
theorem l9_4 : lessOk 9 4 = true := by decide +kernel
theorem p9_5 : plusOk 9 5 = true := by decide +kernel
theorem l9_5 : lessOk 9 5 = true := by decide +kernel
theorem p9_6 : plusOk 9 6 = true := by decide +kernel
theorem l9_6 : lessOk 9 6 = true := by decide +kernel
theorem p9_7 : plusOk 9 7 = true := by decide +kernel
theorem l9_7 : lessOk 9 7 = true := by decide +kernel
theorem p9_8 : plusOk 9 8 = true := by decide +kernel
theorem l9_8 : lessOk 9 8 = true := by decide +kernel
theorem p9_9 : plusOk 9 9 = true := by decide +kernel
theorem l9_9 : lessOk 9 9 = true := by decide +kernel
theorem p9_10 : plusOk 9 10 = true := by decide +kernel
theorem l9_10 : lessOk 9 10 = true := by decide +kernel
theorem p9_11 : plusOk 9 11 = true := by decide +kernel
theorem l9_11 : lessOk 9 11 = true := by decide +kernel
theorem p9_12 : plusOk 9 12 = true := by decide +kernel
theorem l9_12 : lessOk 9 12 = true := by decide +kernel
theorem p9_13 : plusOk 9 13 = true := by decide +kernel
theorem l9_13 : lessOk 9 13 = true := by decide +kernel
theorem p9_14 : plusOk 9 14 = true := by decide +kernel
theorem l9_14 : lessOk 9 14 = true := by decide +kernel
theorem p9_15 : plusOk 9 15 = true := by decide +kernel
theorem l9_15 : lessOk 9 15 = true := by decide +kernel
theorem ev9 : ∀ y, y < 16 → plusOk 9 y = true ∧ lessOk 9 y = true
  | 0, _ => ⟨p9_0, l9_0⟩
  | 1, _ => ⟨p9_1, l9_1⟩
  | 2, _ => ⟨p9_2, l9_2⟩
  | 3, _ => ⟨p9_3, l9_3⟩
  | 4, _ => ⟨p9_4, l9_4⟩
  | 5, _ => ⟨p9_5, l9_5⟩
  | 6, _ => ⟨p9_6, l9_6⟩
  | 7, _ => ⟨p9_7, l9_7⟩
  | 8, _ => ⟨p9_8, l9_8⟩
  | 9, _ => ⟨p9_9, l9_9⟩
  | 10, _ => ⟨p9_10, l9_10⟩
  | 11, _ => ⟨p9_11, l9_11⟩
  | 12, _ => ⟨p9_12, l9_12⟩
  | 13, _ => ⟨p9_13, l9_13⟩
  | 14, _ => ⟨p9_14, l9_14⟩
  | 15, _ => ⟨p9_15, l9_15⟩
  | _ + 16, h => absurd h (by omega)
end Go.Proofs.YtljpfnjpifhdlaaGreatDoor
