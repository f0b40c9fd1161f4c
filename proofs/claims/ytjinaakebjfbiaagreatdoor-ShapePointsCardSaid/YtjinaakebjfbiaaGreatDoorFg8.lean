/-
  The figures: two that are known; by their numbers.
-/
import Derived.Test.YtjinaakebjfbiaaGreatDoorFg7
namespace Go.Proofs.YtjinaakebjfbiaaGreatDoor
open Go.Ab

def footF : FigR := ⟨[102, 111, 111, 116], 3, 0, [(1, 2)], [[⟨1, 0, [⟨3, 2, 0, 2, 3⟩]⟩], [⟨1, 0, [⟨4, 1, 0, 2, 3⟩]⟩]], [117, 110, 108, 105, 107, 101], [2, 3]⟩
def collF : FigR := ⟨[99, 111, 108, 108, 105, 110, 101, 97, 114], 3, 0, [], [[⟨1, 0, [⟨3, 0, 1, 0, 2⟩]⟩]], [], []⟩
set_option maxRecDepth 100000 in
theorem foot_eq : conF [102, 111, 111, 116] = some footF := by decide +kernel
set_option maxRecDepth 100000 in
theorem coll_eq : preF [99, 111, 108, 108, 105, 110, 101, 97, 114] = some collF := by decide +kernel

end Go.Proofs.YtjinaakebjfbiaaGreatDoor
