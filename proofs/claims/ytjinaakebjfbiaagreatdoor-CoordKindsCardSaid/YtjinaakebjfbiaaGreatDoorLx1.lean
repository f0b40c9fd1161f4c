/-
  The lexer's tests of letters.
-/
import Derived.Test.YtjinaakebjfbiaaGreatDoorLb
import Derived.Test.YtjinaakebjfbiaaGreatDoorRn
namespace Go.Proofs.YtjinaakebjfbiaaGreatDoor
open Go.Ab

def smallR (r : Int) : Bool := decide (r ≥ 97) && decide (r ≤ 122)
def namedR (r : Int) : Bool := smallR r || (decide (r ≥ 65) && decide (r ≤ 90)) || (decide (r ≥ 48) && decide (r ≤ 57))

def allF (isR : Int → Bool) (s : List UInt8) (least most : Int) : Bool := s.all (fun b => isR b.toNat) && (decide ((s.length : Int) ≥ least) && decide ((s.length : Int) ≤ most))

theorem all_false {isR : Int → Bool} {s : List UInt8} {i : Nat} (h : i < s.length) (hb : isR (s.getD i 0).toNat = false) (a b : Int) : allF isR s a b = false := by
  have : s.all (fun b => isR b.toNat) = false := by
    rw [List.all_eq_false]
    refine ⟨s[i], by simp, ?_⟩
    simpa [List.getD, h] using hb
  simp [allF, this]

end Go.Proofs.YtjinaakebjfbiaaGreatDoor
