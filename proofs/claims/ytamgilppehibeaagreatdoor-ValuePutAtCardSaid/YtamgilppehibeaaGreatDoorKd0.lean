/-
  Plain model of layer 31 (checker): products that are done or not, sums, what is derived, what is accepted.
-/
import Derived.Test.YtamgilppehibeaaGreatDoorPcM
namespace Go.Proofs.YtamgilppehibeaaGreatDoor
open Go.Ab
structure DerR where
 n:IntR
 p:List TermR
 by':List (List TermR)
deriving Inhabited
structure DivR where
 pw:List Int
 cof:List (List TermR)
 rest:List TermR
deriving Inhabited
structure HeadR where
 p:List TermR
 cond:Int
 next:Int
deriving Inhabited
structure NodeR where
 kind:Int
 set:List DerR
 at':Int
 cond:Int
 divs:List DivR
 heads:List HeadR
deriving Inhabited
abbrev pz (p:List TermR):PZ:=p.map zT
def limZ (p:PZ):Nat:=limR (p.map zR)
def workZ (p q:PZ):Int:=(p.length:Int)*q.length*(limZ p+limZ q)
def timesS (bad:Bool) (p q:PZ):PZ×Bool:=if bad=true∨workZ p q>16777216 then([],true) else((tmZ p q).1, !(tmZ p q).2)
def sumS (bad:Bool) (a b:List PZ):Nat→PZ×Bool
 |0=>([],bad)
 |n+1=>let x:=timesS (sumS bad a b n).2 (a.getD n default) (b.getD n default);(addZ (sumS bad a b n).1 x.1,x.2)
def mulS (bad:Bool) (f h:PZ):Nat→PZ×Bool
 |0=>(f,bad)
 |n+1=>timesS (mulS bad f h n).2 (mulS bad f h n).1 h
def powS (f:PZ) (l:List PZ) (ns:List Int):Nat→PZ×Bool
 |0=>(f,false)
 |n+1=>mulS (powS f l ns n).2 (powS f l ns n).1 (initZ (l.getD n default)) (ns.getD n default).toNat
structure PolZ (k n:Nat) (p:PZ):Prop where
 ok:CanK k p
 len:p.length≤n
def RowZ (k n:Nat) (l:List PZ):Prop:=∀p∈l,PolZ k n p
def numZ (z:Int):PZ:=colZ [(z,[])]
def sumP (a b:List PZ):PZ×Bool:=sumS false a b a.length
def derivedF (l:List PZ) (d:DerR):Bool:=
 decide (d.p≠[])&&mayP d.p&&decide (d.by'.length=l.length)&&d.by'.all mayP&&mayZ d.n&&decide (0<d.n.z)&&
 (let x:=timesS false (pz d.p) (numZ d.n.z);let y:=sumS x.2 l (d.by'.map pz) l.length;decide (x.1=y.1)&& !y.2)
def conditionF (conds:List PZ) (p:PZ) (at':Int):Bool:=decide (0≤at'∧at'<conds.length∧wholeZ p=wholeZ (conds.getD at'.toNat default))
def identityF (f:PZ) (l:List PZ) (d:DivR):Bool:=
 decide (d.rest=[])&&decide (d.pw.length=l.length)&&decide (d.cof.length=l.length)&&d.cof.all mayP&&d.pw.all (fun n=>decide (0≤n∧n≤100))&&
 (let x:=powS f l d.pw l.length;let y:=sumS x.2 l (d.cof.map pz) l.length;decide (x.1=y.1)&& !y.2)
def usedAt (l:List PZ) (ns:List Int) (heads:List (List TermR)) (i:Nat):Bool:=
 decide (ns.getD i default=0) || decide (clsZ (initZ (l.getD i default))=0) || heads.any fun h=>sameP8 h ((wholeZ (initZ (l.getD i default))).map zR)
def usedF (l:List PZ) (ns:List Int) (heads:List (List TermR)):Bool:=(List.range l.length).all (usedAt l ns heads)
def headF (conds:List PZ) (i many:Nat) (h:HeadR):Bool:=
 mayP h.p&&(decide (h.next<0)&&conditionF conds (pz h.p) h.cond || decide (h.cond<0∧(i:Int)<h.next∧h.next<many))
def addL (l:List PZ) (p:PZ):List PZ:=if p∈l then l else l++[p]
def belowF (l more:List PZ):List PZ:=more.foldl addL l
def nodeF (S shown conds:List PZ) (i many:Nat) (n:NodeR):Bool:=
 n.set.all (derivedF S)&&
 (if n.kind=1∨n.kind=2 then
   decide (0≤n.at'∧n.at'<n.set.length∧n.divs=[]∧n.heads=[])&&
   (if n.kind=1 then decide (clsZ (pz (n.set.getD n.at'.toNat default).p)=0) else conditionF conds (pz (n.set.getD n.at'.toNat default).p) n.cond)
 else decide (n.kind=3∧n.divs.length=shown.length)&&n.heads.all (headF conds i many)&&
  (List.range shown.length).all fun j=>identityF (shown.getD j default) (n.set.map fun d=>pz d.p) (n.divs.getD j default)&&usedF (n.set.map fun d=>pz d.p) (n.divs.getD j default).pw (n.heads.map (·.p)))
def headSys (S set:List PZ) (Ss:List (List PZ)) (hs:List HeadR):List (List PZ):=
 hs.foldl (fun Ss h=>if 0≤h.next then Ss.set h.next.toNat (belowF S (set++[pz h.p])) else Ss) Ss
def sysF (hypos:List PZ) (proof:List NodeR):Nat→List (List PZ)
 |0=>(List.replicate proof.length []).set 0 hypos
 |i+1=>headSys ((sysF hypos proof i).getD i []) ((proof.getD i default).set.map fun d=>pz d.p) (sysF hypos proof i) (proof.getD i default).heads
def headCnt (c:List Int) (hs:List HeadR):List Int:=hs.foldl (fun c h=>if 0≤h.next then c.set h.next.toNat (c.getD h.next.toNat 0+1) else c) c
def cntF (proof:List NodeR):Nat→List Int
 |0=>List.replicate proof.length 0
 |i+1=>headCnt (cntF proof i) (proof.getD i default).heads
def acceptsP (hypos shown conds:List (List TermR)) (proof:List NodeR):Bool:=
 hypos.all mayP&&shown.all mayP&&conds.all mayP&&decide (∀c∈conds,c≠[])&&decide (proof≠[])&&
 (List.range proof.length).all fun i=>decide (((cntF proof i).getD i 0=1)↔¬i=0)&&nodeF ((sysF (hypos.map pz) proof i).getD i []) (shown.map pz) (conds.map pz) i proof.length (proof.getD i default)
def parentsF (proof:List NodeR) (at':Nat):Nat:=(proof.map fun n=>n.heads.countP fun h=>decide (h.next=(at':Int))).sum
def acceptsR (hypos shown conds:List (List TermR)) (proof:List NodeR):Bool:=
 hypos.all mayP&&shown.all mayP&&conds.all mayP&&decide (∀c∈conds,c≠[])&&decide (proof≠[])&&
 ((List.range proof.length).all fun i=>decide (parentsF proof i=if i=0 then 0 else 1))&&
 (List.range proof.length).all fun i=>nodeF ((sysF (hypos.map pz) proof i).getD i []) (shown.map pz) (conds.map pz) i proof.length (proof.getD i default)
end Go.Proofs.YtamgilppehibeaaGreatDoor
