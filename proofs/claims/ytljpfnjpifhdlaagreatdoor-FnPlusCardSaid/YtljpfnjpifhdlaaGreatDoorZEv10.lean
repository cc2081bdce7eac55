/- The searches of plus and less at 10 and each number below 16, carried out by the kernel. -/
import Derived.Test.YtljpfnjpifhdlaaGreatDoorZ7
namespace Go.Proofs.YtljpfnjpifhdlaaGreatDoor
set_option maxRecDepth 100000
theorem p10_0 : plusOk 10 0 = true := by decide +kernel
theorem l10_0 : lessOk 10 0 = true := by decide +kernel
theorem p10_1 : plusOk 10 1 = true := by decide +kernel
theorem l10_1 : lessOk 10 1 = true := by decide +kernel
theorem p10_2 : plusOk 10 2 = true := by decide +kernel
theorem l10_2 : lessOk 10 2 = true := by decide +kernel
theorem p10_3 : plusOk 10 3 = true := by decide +kernel
theorem l10_3 : lessOk 10 3 = true := by decide +kernel
theorem p10_4 : plusOk 10 4 = true := by decide +kernel
theorem l10_4 : lessOk 10 4 = true := by decide +kernel
theorem p10_5 : plusOk 10 5 = true := by decide +kernel
theorem l10_5 : lessOk 10 5 = true := by decide +kernel
theorem p10_6 : plusOk 10 6 = true := by decide +kernel
theorem l10_6 : lessOk 10 6 = true := by decide +kernel
theorem p10_7 : plusOk 10 7 = true := by decide +kernel
theorem l10_7 : lessOk 10 7 = true := by decide +kernel
theorem p10_8 : plusOk 10 8 = true := by decide +kernel
theorem l10_8 : lessOk 10 8 = true := by decide +kernel
theorem p10_9 : plusOk 10 9 = true := by decide +kernel
theorem l10_9 : lessOk 10 9 = true := by decide +kernel
theorem p10_10 : plusOk 10 10 = true := by decide +kernel
theorem l10_10 : lessOk 10 10 = true := by decide +kernel
theorem p10_11 : plusOk 10 11 = true := by decide +kernel
theorem l10_11 : lessOk 10 11 = true := by decide +kernel
theorem p10_12 : plusOk 10 12 = true := by decide +kernel
theorem l10_12 : lessOk 10 12 = true := by decide +kernel
theorem p10_13 : plusOk 10 13 = true := by decide +kernel
theorem l10_13 : lessOk 10 13 = true := by decide +kernel
theorem p10_14 : plusOk 10 14 = true := by decide +kernel
theorem l10_14 : lessOk 10 14 = true := by decide +kernel
theorem p10_15 : plusOk 10 15 = true := by decide +kernel
theorem l10_15 : lessOk 10 15 = true := by decide +kernel
theorem ev10 : ∀ y, y < 16 → plusOk 10 y = true ∧ lessOk 10 y = true
  | 0, _ => ⟨p10_0, l10_0⟩
  | 1, _ => ⟨p10_1, l10_1⟩
  | 2, _ => ⟨p10_2, l10_2⟩
  | 3, _ => ⟨p10_3, l10_3⟩
  | 4, _ => ⟨p10_4, l10_4⟩
  | 5, _ => ⟨p10_5, l10_5⟩
  | 6, _ => ⟨p10_6, l10_6⟩
  | 7, _ => ⟨p10_7, l10_7⟩
  | 8, _ => ⟨p10_8, l10_8⟩
  | 9, _ => ⟨p10_9, l10_9⟩
  | 10, _ => ⟨p10_10, l10_10⟩
  | 11, _ => ⟨p10_11, l10_11⟩
  | 12, _ => ⟨p10_12, l10_12⟩
  | 13, _ => ⟨p10_13, l10_13⟩
  | 14, _ => ⟨p10_14, l10_14⟩
  | 15, _ => ⟨p10_15, l10_15⟩
  | _ + 16, h => absurd h (by omega)
end Go.Proofs.YtljpfnjpifhdlaaGreatDoor
