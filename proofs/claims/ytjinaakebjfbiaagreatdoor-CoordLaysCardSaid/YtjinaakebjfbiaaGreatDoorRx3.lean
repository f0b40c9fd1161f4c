/-
  The test that two scripts' words are the same (porismref19.Same).
-/
import Derived.Test.YtjinaakebjfbiaaGreatDoorLx4
namespace Go.Proofs.YtjinaakebjfbiaaGreatDoor
open Go.Ab

def eqT (a b : TokR) : Bool := (a.k == b.k) && ((a.w == b.w) && ((a.n == b.n) && ((((a.ln : Int) == (b.ln : Int)) && (((a.co : Int) == (b.co : Int)) && true)) && true)))

theorem getD_def {α : Type} [Inhabited α] {l : List α} {i : Nat} (h : i < l.length) : l.getD i default = l[i] := by simp [List.getD, h]

end Go.Proofs.YtjinaakebjfbiaaGreatDoor
