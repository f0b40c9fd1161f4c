/-
  Plain model of layer 31 (checker): products that are done or not, sums, what is derived, what is accepted.
-/
import Derived.Test.YtkbdklmdcbmgkaaGreatPcM
namespace Go.Proofs.YtkbdklmdcbmgkaaGreat
open Go.Ab
structure DerR where
 n:IntR
 p:List TermR
 by':List (List TermR)
deriving Inhabited
structure DivR where
 pw:List Int
 cof:List (List TermR)
 rest:List TermR
deriving Inhabited
structure HeadR where
 p:List TermR
 cond:Int
 next:Int
deriving Inhabited
structure NodeR where
 kind:Int
 set:List DerR
 at':Int
 cond:Int
 divs:List DivR
 heads:List HeadR
deriving Inhabited
abbrev pz (p:List TermR):PZ:=p.map zT
def limZ (p:PZ):Nat:=limR (p.map zR)
def workZ (p q:PZ):Int:=(p.length:Int)*q.length*(limZ p+limZ q)
def timesS (bad:Bool) (p q:PZ):PZ×Bool:=if bad=true∨workZ p q>16777216 then([],true) else((tmZ p q).1, !(tmZ p q).2)
def sumS (bad:Bool) (a b:List PZ):Nat→PZ×Bool
 |0=>([],bad)
 |n+1=>let x:=timesS (sumS bad a b n).2 (a.getD n default) (b.getD n default);(addZ (sumS bad a b n).1 x.1,x.2)
def mulS (bad:Bool) (f h:PZ):Nat→PZ×Bool
 |0=>(f,bad)
 |n+1=>timesS (mulS bad f h n).2 (mulS bad f h n).1 h
def powS (f:PZ) (l:List PZ) (ns:List Int):Nat→PZ×Bool
 |0=>(f,false)
 |n+1=>mulS (powS f l ns n).2 (powS f l ns n).1 (initZ (l.getD n default)) (ns.getD n default).toNat
theorem timesS_bad (p q:PZ):timesS true p q=([],true):=if_pos (.inl rfl)
theorem sumS_bad (a b:List PZ):∀n,(sumS true a b n).2=true
 |0=>rfl
 |n+1=>by
  rw[sumS,sumS_bad a b n,timesS_bad]
theorem sumS_stop {bad:Bool} {a b:List PZ} {m:Nat}:∀{n},m≤n→(sumS bad a b m).2=true→(sumS bad a b n).2=true
 |0,h,hb=>by
  obtain rfl:m=0:=by omega
  exact hb
 |n+1,h,hb=>by
  by_cases e:m=n+1
  ·rw[←e];exact hb
  ·rw[sumS,sumS_stop (m:=m) (n:=n) (by omega) hb,timesS_bad]
theorem mulS_bad (f h:PZ):∀n,(mulS true f h n).2=true
 |0=>rfl
 |n+1=>by
  rw[mulS,mulS_bad f h n,timesS_bad]
theorem mulS_stop {bad:Bool} {f h:PZ} {m:Nat}:∀{n},m≤n→(mulS bad f h m).2=true→(mulS bad f h n).2=true
 |0,hn,hb=>by
  obtain rfl:m=0:=by omega
  exact hb
 |n+1,hn,hb=>by
  by_cases e:m=n+1
  ·rw[←e];exact hb
  ·rw[mulS,mulS_stop (m:=m) (n:=n) (by omega) hb,timesS_bad]
theorem powS_stop {f:PZ} {l:List PZ} {ns:List Int} {m:Nat}:∀{n},m≤n→(powS f l ns m).2=true→(powS f l ns n).2=true
 |0,hn,hb=>by
  obtain rfl:m=0:=by omega
  exact hb
 |n+1,hn,hb=>by
  by_cases e:m=n+1
  ·rw[←e];exact hb
  ·rw[powS,powS_stop (m:=m) (n:=n) (by omega) hb]
   exact mulS_bad _ _ _
theorem limZ_le {k:Nat} {p:PZ} (h:∀t∈p,ZOk k t.1):limZ p≤k:=by
 refine limR_le fun t ht=>?_
 obtain⟨u,hu,rfl⟩:=List.mem_map.1 ht
 exact(intC_ok (h u hu)).len
theorem limR_mem:∀(p:List TermR) (m:Nat),m≤p.foldl (fun m t=>max m t.c.mag.length) m∧∀t∈p,t.c.mag.length≤p.foldl (fun m t=>max m t.c.mag.length) m
 |[],m=>⟨Nat.le_refl _,fun t ht=>absurd ht List.not_mem_nil⟩
 |x::p,m=>by
  have ih:=limR_mem p (max m x.c.mag.length)
  rw[List.foldl_cons]
  refine⟨Nat.le_trans (Nat.le_max_left _ _) ih.1,fun t ht=>?_⟩
  rcases List.mem_cons.1 ht with rfl|ht
  ·exact Nat.le_trans (Nat.le_max_right _ _) ih.1
  ·exact ih.2 t ht
theorem limZ_pos {p:PZ} (h:Canon p) (h0:p≠[]):1≤limZ p:=by
 cases p with
 |nil=>exact absurd rfl h0
 |cons t p=>
  have h1:=(limR_mem ((t::p).map zR) 0).2 (zR t) (List.mem_cons_self ..)
  have h2:(zR t).c.mag.length≠0:=fun e=>by
   have e2:digs B32 t.1.natAbs=[]:=List.eq_nil_of_length_eq_zero e
   have:=(digs_nil B32_two).1 e2
   have:=h.nz t (List.mem_cons_self ..)
   omega
  have h3:((t::p).map zR).foldl (fun m t=>max m t.c.mag.length) 0=limZ (t::p):=rfl
  rw[h3]at h1
  omega
theorem work_len {p q:PZ} (hp:Canon p) (h:¬workZ p q>16777216):p.length*q.length≤16777216:=by
 by_cases h0:p=[]
 ·subst h0
  simp
 ·have h1:=limZ_pos hp h0
  unfold workZ at h
  have h2:(p.length:Int)*q.length*(limZ p+limZ q)=((p.length*q.length*(limZ p+limZ q):Nat):Int):=by
   rw[Int.natCast_mul,Int.natCast_mul,Int.natCast_add]
  rw[h2]at h
  have h3:p.length*q.length*1≤p.length*q.length*(limZ p+limZ q):=Nat.mul_le_mul_left _ (by omega)
  omega
structure PolZ (k n:Nat) (p:PZ):Prop where
 ok:CanK k p
 len:p.length≤n
theorem PolZ.mono {j k m n:Nat} {p:PZ} (h:PolZ j m p) (hk:j≤k) (hn:m≤n):PolZ k n p:=⟨h.ok.mono hk,Nat.le_trans h.len hn⟩
theorem PolZ.nil (k n:Nat):PolZ k n []:=⟨⟨Canon.nil,fun _ ht=>absurd ht List.not_mem_nil⟩,Nat.zero_le _⟩
theorem PolZ.init {k n:Nat} {p:PZ} (h:PolZ k n p):PolZ k n (initZ p):=⟨initZ_canK h.ok,Nat.le_trans (initZ_len p) h.len⟩
theorem timesS_pol {bad:Bool} {j k m n:Nat} {p q:PZ} (hp:PolZ j m p) (hq:PolZ k n q):PolZ (j+k+1) 16777216 (timesS bad p q).1:=by
 unfold timesS
 split
 ·exact PolZ.nil _ _
 ·rename_i h
  have hw:=work_len hp.ok.can fun e=>h (.inr e)
  exact⟨tmZ_canK hp.ok hq.ok (by omega),Nat.le_trans (tmZ_len _ _) hw⟩
theorem timesS_len {bad:Bool} {p q:PZ}:(timesS bad p q).1.length≤p.length*q.length:=by
 unfold timesS
 split
 ·exact Nat.zero_le _
 ·exact tmZ_len _ _
theorem add_pol {k m n:Nat} {p q:PZ} (hp:PolZ k m p) (hq:PolZ k n q) (hl:m+n≤4294967296):PolZ (k+1) (m+n) (addZ p q):=by
 have h1:=hp.len
 have h2:=hq.len
 refine⟨add_canK hp.ok hq.ok (by omega),?_⟩
 have:=addZ_len q p
 omega
def RowZ (k n:Nat) (l:List PZ):Prop:=∀p∈l,PolZ k n p
theorem RowZ.get {k n:Nat} {l:List PZ} (h:RowZ k n l) (i:Nat):PolZ k n (l.getD i default):=by
 by_cases hi:i<l.length
 ·exact h _ (getD_mem hi)
 ·rw[List.getD_eq_getElem?_getD,List.getElem?_eq_none (by omega)]
  exact PolZ.nil _ _
theorem sumS_pol {bad:Bool} {k n:Nat} {a b:List PZ} (ha:RowZ k n a) (hb:RowZ k n b) (hn:n≤100):∀i,i≤1000→PolZ (k+k+1+i) (n*n*i) (sumS bad a b i).1
 |0,_=>PolZ.nil _ _
 |i+1,hi=>by
  have ih:=sumS_pol (bad:=bad) ha hb hn i (by omega)
  have h1:=timesS_pol (bad:=(sumS bad a b i).2) (ha.get i) (hb.get i)
  have h2:=timesS_len (bad:=(sumS bad a b i).2) (p:=a.getD i default) (q:=b.getD i default)
  have h3:(a.getD i default).length*(b.getD i default).length≤n*n:=Nat.mul_le_mul (ha.get i).len (hb.get i).len
  have h4:PolZ (k+k+1+i) (n*n) (timesS (sumS bad a b i).2 (a.getD i default) (b.getD i default)).1:=⟨h1.ok.mono (by omega),by omega⟩
  have hnn:n*n≤100*100:=Nat.mul_le_mul hn hn
  have hni:n*n*i≤100*100*1000:=Nat.mul_le_mul hnn (by omega)
  exact add_pol (m:=n*n*i) (n:=n*n) ih h4 (by omega)
theorem mulS_pol {bad:Bool} {j k:Nat} {f h:PZ} (hf:PolZ j 16777216 f) (hh:PolZ k 16777216 h):∀i,PolZ (j+(k+1)*i) 16777216 (mulS bad f h i).1
 |0=>hf
 |i+1=>by
  have ih:=mulS_pol (bad:=bad) hf hh i
  refine(timesS_pol ih hh).mono ?_ (Nat.le_refl _)
  rw[Nat.mul_succ]
  omega
theorem powS_pol {j k:Nat} {f:PZ} {l:List PZ} {ns:List Int} (hf:PolZ j 16777216 f) (hl:RowZ k 16777216 l):∀i,(∀q,q<i→(ns.getD q default).toNat≤4)→PolZ (j+(k+1)*4*i) 16777216 (powS f l ns i).1
 |0,_=>hf
 |i+1,hn=>by
  have ih:=powS_pol hf hl i fun q hq=>hn q (by omega)
  refine(mulS_pol ih (hl.get i).init _).mono ?_ (Nat.le_refl _)
  have:(k+1)*(ns.getD i default).toNat≤(k+1)*4:=Nat.mul_le_mul_left _ (hn i (by omega))
  rw[Nat.mul_succ ((k+1)*4)]
  omega
def numZ (z:Int):PZ:=colZ [(z,[])]
def sumP (a b:List PZ):PZ×Bool:=sumS false a b a.length
def derivedF (l:List PZ) (d:DerR):Bool:=
 decide (d.p≠[])&&mayP d.p&&decide (d.by'.length=l.length)&&d.by'.all mayP&&mayZ d.n&&decide (0<d.n.z)&&
 (let x:=timesS false (pz d.p) (numZ d.n.z);let y:=sumS x.2 l (d.by'.map pz) l.length;decide (x.1=y.1)&& !y.2)
def conditionF (conds:List PZ) (p:PZ) (at':Int):Bool:=decide (0≤at'∧at'<conds.length∧wholeZ p=wholeZ (conds.getD at'.toNat default))
def identityF (f:PZ) (l:List PZ) (d:DivR):Bool:=
 decide (d.rest=[])&&decide (d.pw.length=l.length)&&decide (d.cof.length=l.length)&&d.cof.all mayP&&d.pw.all (fun n=>decide (0≤n∧n≤100))&&
 (let x:=powS f l d.pw l.length;let y:=sumS x.2 l (d.cof.map pz) l.length;decide (x.1=y.1)&& !y.2)
def usedAt (l:List PZ) (ns:List Int) (heads:List (List TermR)) (i:Nat):Bool:=
 decide (ns.getD i default=0) || decide (clsZ (initZ (l.getD i default))=0) || heads.any fun h=>sameP8 h ((wholeZ (initZ (l.getD i default))).map zR)
def usedF (l:List PZ) (ns:List Int) (heads:List (List TermR)):Bool:=(List.range l.length).all (usedAt l ns heads)
def headF (conds:List PZ) (i many:Nat) (h:HeadR):Bool:=
 mayP h.p&&(decide (h.next<0)&&conditionF conds (pz h.p) h.cond || decide (h.cond<0∧(i:Int)<h.next∧h.next<many))
def addL (l:List PZ) (p:PZ):List PZ:=if p∈l then l else l++[p]
def belowF (l more:List PZ):List PZ:=more.foldl addL l
def nodeF (S shown conds:List PZ) (i many:Nat) (n:NodeR):Bool:=
 n.set.all (derivedF S)&&
 (if n.kind=1∨n.kind=2 then
   decide (0≤n.at'∧n.at'<n.set.length∧n.divs=[]∧n.heads=[])&&
   (if n.kind=1 then decide (clsZ (pz (n.set.getD n.at'.toNat default).p)=0) else conditionF conds (pz (n.set.getD n.at'.toNat default).p) n.cond)
 else decide (n.kind=3∧n.divs.length=shown.length)&&n.heads.all (headF conds i many)&&
  (List.range shown.length).all fun j=>identityF (shown.getD j default) (n.set.map fun d=>pz d.p) (n.divs.getD j default)&&usedF (n.set.map fun d=>pz d.p) (n.divs.getD j default).pw (n.heads.map (·.p)))
def headSys (S set:List PZ) (Ss:List (List PZ)) (hs:List HeadR):List (List PZ):=
 hs.foldl (fun Ss h=>if 0≤h.next then Ss.set h.next.toNat (belowF S (set++[pz h.p])) else Ss) Ss
def sysF (hypos:List PZ) (proof:List NodeR):Nat→List (List PZ)
 |0=>(List.replicate proof.length []).set 0 hypos
 |i+1=>headSys ((sysF hypos proof i).getD i []) ((proof.getD i default).set.map fun d=>pz d.p) (sysF hypos proof i) (proof.getD i default).heads
def headCnt (c:List Int) (hs:List HeadR):List Int:=hs.foldl (fun c h=>if 0≤h.next then c.set h.next.toNat (c.getD h.next.toNat 0+1) else c) c
def cntF (proof:List NodeR):Nat→List Int
 |0=>List.replicate proof.length 0
 |i+1=>headCnt (cntF proof i) (proof.getD i default).heads
def acceptsP (hypos shown conds:List (List TermR)) (proof:List NodeR):Bool:=
 hypos.all mayP&&shown.all mayP&&conds.all mayP&&decide (∀c∈conds,c≠[])&&decide (proof≠[])&&
 (List.range proof.length).all fun i=>decide (((cntF proof i).getD i 0=1)↔¬i=0)&&nodeF ((sysF (hypos.map pz) proof i).getD i []) (shown.map pz) (conds.map pz) i proof.length (proof.getD i default)
def parentsF (proof:List NodeR) (at':Nat):Nat:=(proof.map fun n=>n.heads.countP fun h=>decide (h.next=(at':Int))).sum
def acceptsR (hypos shown conds:List (List TermR)) (proof:List NodeR):Bool:=
 hypos.all mayP&&shown.all mayP&&conds.all mayP&&decide (∀c∈conds,c≠[])&&decide (proof≠[])&&
 ((List.range proof.length).all fun i=>decide (parentsF proof i=if i=0 then 0 else 1))&&
 (List.range proof.length).all fun i=>nodeF ((sysF (hypos.map pz) proof i).getD i []) (shown.map pz) (conds.map pz) i proof.length (proof.getD i default)
end Go.Proofs.YtkbdklmdcbmgkaaGreat
