/- The searches of plus and less at 11 and each number below 16, carried out by the kernel. -/
import Derived.Test.YtljpfnjpifhdlaaGreatDoorZ7
namespace Go.Proofs.YtljpfnjpifhdlaaGreatDoor
set_option maxRecDepth 100000
theorem p11_0 : plusOk 11 0 = true := by decide +kernel
theorem l11_0 : lessOk 11 0 = true := by decide +kernel
theorem p11_1 : plusOk 11 1 = true := by decide +kernel
theorem l11_1 : lessOk 11 1 = true := by decide +kernel
theorem p11_2 : plusOk 11 2 = true := by decide +kernel
theorem l11_2 : lessOk 11 2 = true := by decide +kernel
theorem p11_3 : plusOk 11 3 = true := by decide +kernel
theorem l11_3 : lessOk 11 3 = true := by decide +kernel
theorem p11_4 : plusOk 11 4 = true := by decide +kernel
theorem l11_4 : lessOk 11 4 = true := by decide +kernel
theorem p11_5 : plusOk 11 5 = true := by decide +kernel
theorem l11_5 : lessOk 11 5 = true := by decide +kernel
theorem p11_6 : plusOk 11 6 = true := by decide +kernel
theorem l11_6 : lessOk 11 6 = true := by decide +kernel
theorem p11_7 : plusOk 11 7 = true := by decide +kernel
theorem l11_7 : lessOk 11 7 = true := by decide +kernel
theorem p11_8 : plusOk 11 8 = true := by decide +kernel
theorem l11_8 : lessOk 11 8 = true := by decide +kernel
theorem p11_9 : plusOk 11 9 = true := by decide +kernel
theorem l11_9 : lessOk 11 9 = true := by decide +kernel
theorem p11_10 : plusOk 11 10 = true := by decide +kernel
theorem l11_10 : lessOk 11 10 = true := by decide +kernel
theorem p11_11 : plusOk 11 11 = true := by decide +kernel
theorem l11_11 : lessOk 11 11 = true := by decide +kernel
theorem p11_12 : plusOk 11 12 = true := by decide +kernel
theorem l11_12 : lessOk 11 12 = true := by decide +kernel
theorem p11_13 : plusOk 11 13 = true := by decide +kernel
theorem l11_13 : lessOk 11 13 = true := by decide +kernel
theorem p11_14 : plusOk 11 14 = true := by decide +kernel
theorem l11_14 : lessOk 11 14 = true := by decide +kernel
theorem p11_15 : plusOk 11 15 = true := by decide +kernel
theorem l11_15 : lessOk 11 15 = true := by decide +kernel
theorem ev11 : ∀ y, y < 16 → plusOk 11 y = true ∧ lessOk 11 y = true
  | 0, _ => ⟨p11_0, l11_0⟩
  | 1, _ => ⟨p11_1, l11_1⟩
  | 2, _ => ⟨p11_2, l11_2⟩
  | 3, _ => ⟨p11_3, l11_3⟩
  | 4, _ => ⟨p11_4, l11_4⟩
  | 5, _ => ⟨p11_5, l11_5⟩
  | 6, _ => ⟨p11_6, l11_6⟩
  | 7, _ => ⟨p11_7, l11_7⟩
  | 8, _ => ⟨p11_8, l11_8⟩
  | 9, _ => ⟨p11_9, l11_9⟩
  | 10, _ => ⟨p11_10, l11_10⟩
  | 11, _ => ⟨p11_11, l11_11⟩
  | 12, _ => ⟨p11_12, l11_12⟩
  | 13, _ => ⟨p11_13, l11_13⟩
  | 14, _ => ⟨p11_14, l11_14⟩
  | 15, _ => ⟨p11_15, l11_15⟩
  | _ + 16, h => absurd h (by omega)
end Go.Proofs.YtljpfnjpifhdlaaGreatDoor
