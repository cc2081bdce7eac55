/- The searches of plus and less at 12 and each number below 16, carried out by the kernel. -/
import Derived.Test.YtljpfnjpifhdlaaGreatDoorZ7
namespace Go.Proofs.YtljpfnjpifhdlaaGreatDoor
set_option maxRecDepth 100000
theorem p12_0 : plusOk 12 0 = true := by decide +kernel
theorem l12_0 : lessOk 12 0 = true := by decide +kernel
theorem p12_1 : plusOk 12 1 = true := by decide +kernel
theorem l12_1 : lessOk 12 1 = true := by decide +kernel
theorem p12_2 : plusOk 12 2 = true := by decide +kernel
theorem l12_2 : lessOk 12 2 = true := by decide +kernel
theorem p12_3 : plusOk 12 3 = true := by decide +kernel
theorem l12_3 : lessOk 12 3 = true := by decide +kernel
theorem p12_4 : plusOk 12 4 = true := by decide +kernel
theorem l12_4 : lessOk 12 4 = true := by decide +kernel
theorem p12_5 : plusOk 12 5 = true := by decide +kernel
theorem l12_5 : lessOk 12 5 = true := by decide +kernel
theorem p12_6 : plusOk 12 6 = true := by decide +kernel
theorem l12_6 : lessOk 12 6 = true := by decide +kernel
theorem p12_7 : plusOk 12 7 = true := by decide +kernel
theorem l12_7 : lessOk 12 7 = true := by decide +kernel
theorem p12_8 : plusOk 12 8 = true := by decide +kernel
theorem l12_8 : lessOk 12 8 = true := by decide +kernel
theorem p12_9 : plusOk 12 9 = true := by decide +kernel
theorem l12_9 : lessOk 12 9 = true := by decide +kernel
theorem p12_10 : plusOk 12 10 = true := by decide +kernel
theorem l12_10 : lessOk 12 10 = true := by decide +kernel
theorem p12_11 : plusOk 12 11 = true := by decide +kernel
theorem l12_11 : lessOk 12 11 = true := by decide +kernel
theorem p12_12 : plusOk 12 12 = true := by decide +kernel
theorem l12_12 : lessOk 12 12 = true := by decide +kernel
theorem p12_13 : plusOk 12 13 = true := by decide +kernel
theorem l12_13 : lessOk 12 13 = true := by decide +kernel
theorem p12_14 : plusOk 12 14 = true := by decide +kernel
theorem l12_14 : lessOk 12 14 = true := by decide +kernel
theorem p12_15 : plusOk 12 15 = true := by decide +kernel
theorem l12_15 : lessOk 12 15 = true := by decide +kernel
theorem ev12 : ∀ y, y < 16 → plusOk 12 y = true ∧ lessOk 12 y = true
  | 0, _ => ⟨p12_0, l12_0⟩
  | 1, _ => ⟨p12_1, l12_1⟩
  | 2, _ => ⟨p12_2, l12_2⟩
  | 3, _ => ⟨p12_3, l12_3⟩
  | 4, _ => ⟨p12_4, l12_4⟩
  | 5, _ => ⟨p12_5, l12_5⟩
  | 6, _ => ⟨p12_6, l12_6⟩
  | 7, _ => ⟨p12_7, l12_7⟩
  | 8, _ => ⟨p12_8, l12_8⟩
  | 9, _ => ⟨p12_9, l12_9⟩
  | 10, _ => ⟨p12_10, l12_10⟩
  | 11, _ => ⟨p12_11, l12_11⟩
  | 12, _ => ⟨p12_12, l12_12⟩
  | 13, _ => ⟨p12_13, l12_13⟩
  | 14, _ => ⟨p12_14, l12_14⟩
  | 15, _ => ⟨p12_15, l12_15⟩
  | _ + 16, h => absurd h (by omega)
end Go.Proofs.YtljpfnjpifhdlaaGreatDoor
