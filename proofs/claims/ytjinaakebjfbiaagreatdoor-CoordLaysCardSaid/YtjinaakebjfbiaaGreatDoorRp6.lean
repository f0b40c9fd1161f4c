/-
  What is the same as itself.
-/
import Derived.Test.YtjinaakebjfbiaaGreatDoorRp4
namespace Go.Proofs.YtjinaakebjfbiaaGreatDoor
open Go.Ab

end Go.Proofs.YtjinaakebjfbiaaGreatDoor
