/-
  strings.Join of a slice of strings.
-/
import Derived.Test.YtjinaakebjfbiaaGreatDoorLb
import Derived.Test.YtjinaakebjfbiaaGreatDoorAbB
import Derived.Lib.Join
namespace Go.Proofs.YtjinaakebjfbiaaGreatDoor
open Go.Ab Go.RowKit

def strE (x : List UInt8) : List AV := [.str x]

end Go.Proofs.YtjinaakebjfbiaaGreatDoor
