/-
  A line's statement.
-/
import Derived.Test.YtjinaakebjfbiaaGreatDoorPr1
namespace Go.Proofs.YtjinaakebjfbiaaGreatDoor
open Go.Ab

theorem getLastD_getD (t : TokR) (l : List TokR) : (t :: l).getD l.length default = (t :: l).getLastD tok0 := by
  rw [List.getD_eq_getElem?_getD, List.getLastD_eq_getLast?, List.getLast?_eq_getElem?]
  simp

def stmtB (b : Nat) (v : List AV) : Ent := .box b 47 (.agg v)

end Go.Proofs.YtjinaakebjfbiaaGreatDoor
