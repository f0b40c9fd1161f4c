/-
  ParserPlaces returns true.
-/
import Derived.Test.YtjinaakebjfbiaaGreatDoorSm
import Derived.Test.YtjinaakebjfbiaaGreatDoorAbC
namespace Go.Proofs.YtjinaakebjfbiaaGreatDoor
open Go.Ab

theorem parseF_inr {s : List UInt8} {a : List StR} (h : parseF s = .inr a) : ∃ r, linesF s = .inr r ∧ parseG r = .inr a := by
  unfold parseF at h
  cases hl : linesF s with
  | inl p => rw [hl] at h; cases h
  | inr r => rw [hl] at h; exact ⟨r, rfl, h⟩


end Go.Proofs.YtjinaakebjfbiaaGreatDoor
