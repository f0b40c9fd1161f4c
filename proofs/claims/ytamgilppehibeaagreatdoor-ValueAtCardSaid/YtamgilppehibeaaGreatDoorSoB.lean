/-
  The stable sort of the library at terms: ranges change places; insertion.
-/
import Derived.Test.YtamgilppehibeaaGreatDoorAbE
import Derived.Test.YtamgilppehibeaaGreatDoorTy
import Derived.Test.YtamgilppehibeaaGreatDoorSoA
namespace Go.Proofs.YtamgilppehibeaaGreatDoor
open Go.Ab
structure Enc3 {α:Type} (f:α→List AV):Prop where
 len:∀x,(f x).length=3
 one:∀x,(f x).all AV.one=true
noncomputable abbrev rowT {α:Type} (f:α→List AV) (g cap:Nat) (xs:List α):Ent:=rowS g 70 f 3 cap xs
def CmpC {α:Type} (f:α→List AV) (F:FuncId) (c:α→α→Int):Prop:=∀x y,PCalls Tryz.prog F [.agg (f x),.agg (f y)] (.int .i64 (c x y))
end Go.Proofs.YtamgilppehibeaaGreatDoor
namespace Go.Proofs.YtamgilppehibeaaGreatDoor
open Go.Ab
end Go.Proofs.YtamgilppehibeaaGreatDoor
namespace Go.Proofs.YtamgilppehibeaaGreatDoor
open Go.Ab
end Go.Proofs.YtamgilppehibeaaGreatDoor
namespace Go.Proofs.YtamgilppehibeaaGreatDoor
open Go.Ab
end Go.Proofs.YtamgilppehibeaaGreatDoor
namespace Go.Proofs.YtamgilppehibeaaGreatDoor
open Go.Ab
end Go.Proofs.YtamgilppehibeaaGreatDoor
namespace Go.Proofs.YtamgilppehibeaaGreatDoor
open Go.Ab
section
variable {α:Type} [Inhabited α] (f:α→List AV) (F:FuncId)
end
end Go.Proofs.YtamgilppehibeaaGreatDoor
