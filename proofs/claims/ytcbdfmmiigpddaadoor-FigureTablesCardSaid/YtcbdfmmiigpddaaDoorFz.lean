/-
  The figure, or the empty one, and what Construction and Predicate tell of it.
-/
import Derived.Test.YtcbdfmmiigpddaaDoorFgM
namespace Go.Proofs.YtcbdfmmiigpddaaDoor
open Go.Ab
def fig0 (o:Option FigR):FigR:=match o with
 |some f=>f
 |none=>⟨[],0,0,[],[],[],[]⟩
theorem figV_eq (o:Option FigR):figV o=.tuple [.agg (figE (fig0 o)),.bool o.isSome]:=by cases o<;>rfl
def figOk (f:FigR):Bool:=decide (0≤f.pts∧f.pts≤8∧0≤f.nums∧f.nums≤2)&&(Nat.ble f.unl.length 3&&f.unl.all fun u=>decide (0≤u.1∧u.1<u.2∧u.2≤8))
end Go.Proofs.YtcbdfmmiigpddaaDoor
