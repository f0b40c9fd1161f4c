/-
  The end of a function whose result lies in a box.
-/
import Derived.Test.YthfglhjdnpoepaaGreatDoorAb33
namespace Go.Ab
section
variable {P:Program} {ty:TypeId→Option TyI} {T:Tmps} {H:AHeap}
theorem rc1 {rs:List ResultVar} {x:AX} {a t b off k:Nat} {ty0:TypeId} {w u v:AV} {ti:TyI} {p:Prop} (i:Nat) (hs:Sub v u) (hx:isRet x=true:=by exact rfl) (hr:rs=[.cell a t]:=by exact rfl) (hl:lk T a=some (.ptr b off):=by exact rfl) (ht:ty t=some ti:=by exact rfl)
  (hi:H[i]?=some (.box b ty0 w):=by exact rfl) (hv:boxAt ti w off=some (p,v):=by exact rfl) (hp:p:=by exact True.intro) (hd:H.drop k=[]:=by(first|exact(rfl:List.drop 0 _=_)|exact(rfl:List.drop 1 _=_)|exact(rfl:List.drop 2 _=_)|exact(rfl:List.drop 3 _=_)|exact(rfl:List.drop 4 _=_)|exact(rfl:List.drop 5 _=_)|exact(rfl:List.drop 6 _=_))):
  fnQ ty rs (fun r H'=>r=.ret u∧H'=[]) x T H:=fnQ_c1 k i hx hr hl ht hi hv hd hp hs
theorem rc2 {rs:List ResultVar} {x:AX} {a t b off k t2:Nat} {ty0:TypeId} {w v v2 u1 u2:AV} {ti:TyI} {p:Prop} (i:Nat) (h1:Sub v u1) (h2:Sub v2 u2) (hx:isRet x=true:=by exact rfl) (hr:rs=[.cell a t,.tmp t2]:=by exact rfl) (hl:lk T a=some (.ptr b off):=by exact rfl) (hl2:lk T t2=some v2:=by exact rfl) (ht:ty t=some ti:=by exact rfl)
  (hi:H[i]?=some (.box b ty0 w):=by exact rfl) (hv:boxAt ti w off=some (p,v):=by exact rfl) (hp:p:=by exact True.intro) (hd:H.drop k=[]:=by(first|exact(rfl:List.drop 0 _=_)|exact(rfl:List.drop 1 _=_)|exact(rfl:List.drop 2 _=_)|exact(rfl:List.drop 3 _=_)|exact(rfl:List.drop 4 _=_)|exact(rfl:List.drop 5 _=_)|exact(rfl:List.drop 6 _=_))):
  fnQ ty rs (fun r H'=>r=.ret (.tuple [u1,u2])∧H'=[]) x T H:=
 fnQ_ret (vs:=[v,v2]) k hx (by rw[hr];exact .cell hl ht (List.mem_of_getElem? hi) hv hp (.tmp hl2 .nil)) (Sub.tuple2 h1 h2) ⟨rfl,hd⟩
theorem rcA {G R:Prop} (k:R) (h:Hld R→G:=by intro k_;first|exact rc1 0 k_.out|exact rc1 1 k_.out|exact rc1 2 k_.out|exact rc1 3 k_.out|exact rc1 4 k_.out|exact rc1 5 k_.out|exact rc1 6 k_.out|exact rc1 7 k_.out|fail):G:=h ⟨k⟩
theorem rcB {G R S:Prop} (k:R) (k2:S) (h:Hld R→Hld S→G:=by intro k_ l_;first|exact rc2 0 k_.out l_.out|exact rc2 1 k_.out l_.out|exact rc2 2 k_.out l_.out|exact rc2 3 k_.out l_.out|exact rc2 4 k_.out l_.out|exact rc2 5 k_.out l_.out|exact rc2 6 k_.out l_.out|exact rc2 7 k_.out l_.out|fail):G:=h ⟨k⟩ ⟨k2⟩
end
end Go.Ab
