/-
  What is handed in: so much at most as memory holds.
-/
import Derived.Test.YtamgilppehibeaaGreatDoorPcM
import Derived.Test.YtamgilppehibeaaGreatDoorNwM
namespace Go.Proofs.YtamgilppehibeaaGreatDoor
open Go.Ab
structure RawT (t:TermR):Prop where
 lt:∀z∈t.c.mag,z<B32
 len:t.c.mag.length≤1000000000000000
 m:t.m.length≤1000000000000000
structure RawP (p:List TermR):Prop where
 len:p.length≤10000000000000
 at':∀t∈p,RawT t
theorem any_false {α:Type} [Inhabited α] {l:List α} {f:α→Bool} (h:∀j,j<l.length→f (l.getD j default)=false):l.any f=false:=by
 rw[List.any_eq_false]
 intro x hx
 obtain⟨j,hj,e⟩:=List.getElem_of_mem hx
 have:=h j hj
 rw[getD_get hj,e]at this
 rw[this]
 decide
theorem any_hit {α:Type} [Inhabited α] {l:List α} {f:α→Bool} {i:Nat} (hi:i<l.length) (h:f (l.getD i default)=true):l.any f=true:=List.any_eq_true.2 ⟨_,getD_mem hi,h⟩
structure RawQ (y:RatR):Prop where
 nl:∀z∈y.n.mag,z<B32
 nn:y.n.mag.length≤1000000000000000
 dl:∀z∈y.d.mag,z<B32
 dn:y.d.mag.length≤1000000000000000
end Go.Proofs.YtamgilppehibeaaGreatDoor
