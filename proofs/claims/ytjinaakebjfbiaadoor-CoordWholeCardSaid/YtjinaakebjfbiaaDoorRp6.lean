/-
  What is the same as itself.
-/
import Derived.Test.YtjinaakebjfbiaaDoorRp4
namespace Go.Proofs.YtjinaakebjfbiaaDoor
open Go.Ab

theorem sameT_refl (a : TokR) (bare : Bool) : sameT a a bare = true := by simp [sameT]
theorem sameS_refl (a : StR) (bare : Bool) : sameS a a bare = true := by
  simp [sameS, sameA, sameT_refl]
theorem sameL_refl (a : List StR) (bare : Bool) : sameL a a bare = true := by
  simp [sameL, sameS_refl]

end Go.Proofs.YtjinaakebjfbiaaDoor
