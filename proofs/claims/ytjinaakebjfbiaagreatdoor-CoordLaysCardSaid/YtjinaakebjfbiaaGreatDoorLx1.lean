/-
  The lexer's tests of letters.
-/
import Derived.Test.YtjinaakebjfbiaaGreatDoorLb
import Derived.Test.YtjinaakebjfbiaaGreatDoorRn
namespace Go.Proofs.YtjinaakebjfbiaaGreatDoor
open Go.Ab

def smallR (r : Int) : Bool := decide (r ≥ 97) && decide (r ≤ 122)
def namedR (r : Int) : Bool := smallR r || (decide (r ≥ 65) && decide (r ≤ 90)) || (decide (r ≥ 48) && decide (r ≤ 57))

def allF (isR : Int → Bool) (s : List UInt8) (least most : Int) : Bool := s.all (fun b => isR b.toNat) && (decide ((s.length : Int) ≥ least) && decide ((s.length : Int) ≤ most))

end Go.Proofs.YtjinaakebjfbiaaGreatDoor
