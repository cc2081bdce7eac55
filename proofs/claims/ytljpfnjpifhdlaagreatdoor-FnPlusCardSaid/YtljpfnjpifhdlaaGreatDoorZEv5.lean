/- The searches of plus and less at 5 and each number below 16, carried out by the kernel. -/
import Derived.Test.YtljpfnjpifhdlaaGreatDoorZ7
namespace Go.Proofs.YtljpfnjpifhdlaaGreatDoor
set_option maxRecDepth 100000
theorem p5_0 : plusOk 5 0 = true := by decide +kernel
theorem l5_0 : lessOk 5 0 = true := by decide +kernel
theorem p5_1 : plusOk 5 1 = true := by decide +kernel
theorem l5_1 : lessOk 5 1 = true := by decide +kernel
theorem p5_2 : plusOk 5 2 = true := by decide +kernel
theorem l5_2 : lessOk 5 2 = true := by decide +kernel
theorem p5_3 : plusOk 5 3 = true := by decide +kernel
theorem l5_3 : lessOk 5 3 = true := by decide +kernel
theorem p5_4 : plusOk 5 4 = true := by decide +kernel
theorem l5_4 : lessOk 5 4 = true := by decide +kernel
theorem p5_5 : plusOk 5 5 = true := by decide +kernel
theorem l5_5 : lessOk 5 5 = true := by decide +kernel
theorem p5_6 : plusOk 5 6 = true := by decide +kernel
theorem l5_6 : lessOk 5 6 = true := by decide +kernel
theorem p5_7 : plusOk 5 7 = true := by decide +kernel
theorem l5_7 : lessOk 5 7 = true := by decide +kernel
theorem p5_8 : plusOk 5 8 = true := by decide +kernel
theorem l5_8 : lessOk 5 8 = true := by decide +kernel
theorem p5_9 : plusOk 5 9 = true := by decide +kernel
theorem l5_9 : lessOk 5 9 = true := by decide +kernel
theorem p5_10 : plusOk 5 10 = true := by decide +kernel
theorem l5_10 : lessOk 5 10 = true := by decide +kernel
theorem p5_11 : plusOk 5 11 = true := by decide +kernel
theorem l5_11 : lessOk 5 11 = true := by decide +kernel
theorem p5_12 : plusOk 5 12 = true := by decide +kernel
theorem l5_12 : lessOk 5 12 = true := by decide +kernel
theorem p5_13 : plusOk 5 13 = true := by decide +kernel
theorem l5_13 : lessOk 5 13 = true := by decide +kernel
theorem p5_14 : plusOk 5 14 = true := by decide +kernel
theorem l5_14 : lessOk 5 14 = true := by decide +kernel
theorem p5_15 : plusOk 5 15 = true := by decide +kernel
theorem l5_15 : lessOk 5 15 = true := by decide +kernel
theorem ev5 : ∀ y, y < 16 → plusOk 5 y = true ∧ lessOk 5 y = true
  | 0, _ => ⟨p5_0, l5_0⟩
  | 1, _ => ⟨p5_1, l5_1⟩
  | 2, _ => ⟨p5_2, l5_2⟩
  | 3, _ => ⟨p5_3, l5_3⟩
  | 4, _ => ⟨p5_4, l5_4⟩
  | 5, _ => ⟨p5_5, l5_5⟩
  | 6, _ => ⟨p5_6, l5_6⟩
  | 7, _ => ⟨p5_7, l5_7⟩
  | 8, _ => ⟨p5_8, l5_8⟩
  | 9, _ => ⟨p5_9, l5_9⟩
  | 10, _ => ⟨p5_10, l5_10⟩
  | 11, _ => ⟨p5_11, l5_11⟩
  | 12, _ => ⟨p5_12, l5_12⟩
  | 13, _ => ⟨p5_13, l5_13⟩
  | 14, _ => ⟨p5_14, l5_14⟩
  | 15, _ => ⟨p5_15, l5_15⟩
  | _ + 16, h => absurd h (by omega)
end Go.Proofs.YtljpfnjpifhdlaaGreatDoor
