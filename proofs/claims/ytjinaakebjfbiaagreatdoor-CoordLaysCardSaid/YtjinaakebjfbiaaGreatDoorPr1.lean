/-
  The parser's reader: where it stands, the next word, all that is left.
-/
import Derived.Test.YtjinaakebjfbiaaGreatDoorPr0
import Derived.Test.YtjinaakebjfbiaaGreatDoorAbB
namespace Go.Proofs.YtjinaakebjfbiaaGreatDoor
open Go.Ab

def rdV (l : List TokR) (e : Nat × Nat) : AV := .agg [toksV l, .int .i64 e.1, .int .i64 e.2]
/-- The kinds that are let in. -/
def kinE (k : Int) : List AV := [.int .u8 k]
def kinsV (ks : List Int) : AV := sl kinE 1 ks .view

def anyK (ks : List Int) (j : Nat) (k : Int) : Bool := (ks.take j).any fun x => k == x

end Go.Proofs.YtjinaakebjfbiaaGreatDoor
