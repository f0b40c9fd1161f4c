/-
  The lexer's words of a line, as an iterator.
-/
import Derived.Test.YtjinaakebjfbiaaGreatDoorLx2
import Derived.Test.YtjinaakebjfbiaaGreatDoorSq
namespace Go.Proofs.YtjinaakebjfbiaaGreatDoor
open Go.Ab

/-- The words of a line's pieces, with their columns; what is behind a '#' is no word. -/
def wordsG : Nat → List (List UInt8) → List (Nat × List UInt8)
  | _, [] => []
  | at', p :: ps => if Lib.hasPrefix p [35] then [] else if p = [] then wordsG (at' + 1) ps else (at' + 1, p) :: wordsG (at' + p.length + 1) ps

def wordsF (line : List UInt8) : List (Nat × List UInt8) := wordsG 0 (splitC 32 line)

theorem splitC_len (c : UInt8) : ∀ l, ((splitC c l).map List.length).sum + (splitC c l).length = l.length + 1
  | [] => rfl
  | b :: l => by
    have ih := splitC_len c l
    have hne := splitC_ne c l
    simp only [splitC]
    split
    · simp only [List.map_cons, List.sum_cons, List.length_nil, List.length_cons]; omega
    · cases h : splitC c l with
      | nil => exact absurd h hne
      | cons p ps =>
        rw [h] at ih
        simp only [List.map_cons, List.sum_cons, List.length_cons] at ih ⊢
        omega

end Go.Proofs.YtjinaakebjfbiaaGreatDoor
