/- All searches of plus and less below 16. -/
import Derived.Test.YtljpfnjpifhdlaaGreatDoorZEv0
import Derived.Test.YtljpfnjpifhdlaaGreatDoorZEv1
import Derived.Test.YtljpfnjpifhdlaaGreatDoorZEv2
import Derived.Test.YtljpfnjpifhdlaaGreatDoorZEv3
import Derived.Test.YtljpfnjpifhdlaaGreatDoorZEv4
import Derived.Test.YtljpfnjpifhdlaaGreatDoorZEv5
import Derived.Test.YtljpfnjpifhdlaaGreatDoorZEv6
import Derived.Test.YtljpfnjpifhdlaaGreatDoorZEv7
import Derived.Test.YtljpfnjpifhdlaaGreatDoorZEv8
import Derived.Test.YtljpfnjpifhdlaaGreatDoorZEv9
import Derived.Test.YtljpfnjpifhdlaaGreatDoorZEv10
import Derived.Test.YtljpfnjpifhdlaaGreatDoorZEv11
import Derived.Test.YtljpfnjpifhdlaaGreatDoorZEv12
import Derived.Test.YtljpfnjpifhdlaaGreatDoorZEv13
import Derived.Test.YtljpfnjpifhdlaaGreatDoorZEv14
import Derived.Test.YtljpfnjpifhdlaaGreatDoorZEv15
namespace Go.Proofs.YtljpfnjpifhdlaaGreatDoor
theorem plus_all : ∀ x y, x < 16 → y < 16 → plusOk x y = true ∧ lessOk x y = true
  | 0, y, _, h => ev0 y h
  | 1, y, _, h => ev1 y h
  | 2, y, _, h => ev2 y h
  | 3, y, _, h => ev3 y h
  | 4, y, _, h => ev4 y h
  | 5, y, _, h => ev5 y h
  | 6, y, _, h => ev6 y h
  | 7, y, _, h => ev7 y h
  | 8, y, _, h => ev8 y h
  | 9, y, _, h => ev9 y h
  | 10, y, _, h => ev10 y h
  | 11, y, _, h => ev11 y h
  | 12, y, _, h => ev12 y h
  | 13, y, _, h => ev13 y h
  | 14, y, _, h => ev14 y h
  | 15, y, _, h => ev15 y h
  | _ + 16, _, h, _ => absurd h (by omega)
end Go.Proofs.YtljpfnjpifhdlaaGreatDoor
