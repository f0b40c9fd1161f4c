/-
  The figure, or the empty one, and what Construction and Predicate tell of it.
-/
import Derived.Test.YthfglhjdnpoepaaGreatDoorFgM
namespace Go.Proofs.YthfglhjdnpoepaaGreatDoor
open Go.Ab

/-- The figure, or the empty one. -/
def fig0 (o : Option FigR) : FigR := match o with
  | some f => f
  | none => ⟨[], 0, 0, [], [], [], []⟩

theorem figV_eq (o : Option FigR) : figV o = .tuple [.agg (figE (fig0 o)), .bool o.isSome] := by cases o <;> rfl

end Go.Proofs.YthfglhjdnpoepaaGreatDoor
