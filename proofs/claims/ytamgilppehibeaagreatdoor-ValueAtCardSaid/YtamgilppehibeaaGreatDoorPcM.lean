/-
  Layer 8 (poly): terms are collected.
-/
import Derived.Test.YtamgilppehibeaaGreatDoorPoM
import Derived.Test.YtamgilppehibeaaGreatDoorSoB
import Derived.Test.YtamgilppehibeaaGreatDoorNwM
import Derived.Test.YtamgilppehibeaaGreatDoorAbE
import Derived.Test.YtamgilppehibeaaGreatDoorMoM
import Derived.Test.YtamgilppehibeaaGreatDoorAbB
set_option maxRecDepth 100000
set_option maxHeartbeats 6400000
namespace Go.Proofs.YtamgilppehibeaaGreatDoor
open Go.Ab
def zT (t:TermR):Int×List Pw:=(t.c.z,t.m)
def zR (t:Int×List Pw):TermR:=⟨intC t.1,t.2⟩
theorem zT_R (t:Int×List Pw):zT (zR t)=t:=by
 unfold zT zR
 rw[intC_z]
abbrev polyZ (p:PZ):AV:=polyV (p.map zR)
theorem int0_z:(IntR.mk false []).z=0:=rfl
theorem B32_pow_succ (k:Nat):B32^(k+1)=B32^k*B32:=Nat.pow_succ ..
theorem coef_zok {k:Nat} {l:PZ} (h:∀t∈l,ZOk k t.1) (hl:l.length≤4294967296) (m:List Pw):ZOk (k+1) (coef l m):=by
 have hp:0<B32^k:=Nat.pow_pos (by decide)
 have hb:BdZ (B32^k-1) l:=fun t ht=>by
  have:=h t ht
  unfold ZOk at this
  omega
 have h1:=coef_bd hb m
 have h2:l.length*(B32^k-1)≤4294967296*(B32^k-1):=Nat.mul_le_mul_right _ hl
 unfold ZOk
 rw[B32_pow_succ]
 have e:B32=4294967296:=rfl
 have h3:B32^k*B32=4294967296*B32^k:=by rw[e,Nat.mul_comm]
 rw[h3]
 have h4:4294967296*(B32^k-1)<4294967296*B32^k:=Nat.mul_lt_mul_of_pos_left (by omega) (by decide)
 omega
theorem signZ_zero (z:Int):signZ z=0↔z=0:=by
 unfold signZ
 split
 ·simp_all
 ·split<;>simp_all
structure ColS where
 k:Nat
 out:PZ
 a:Option Addr
 cp:Nat
 off:Nat
structure ColI (n:Nat) (zs:PZ) (y:ColS):Prop where
 le:y.k≤n
 grp:GrpI zs y.k y.out
 len:y.out.length≤y.k
 off:y.k<n→y.off=y.k*3
structure GrpS where
 j:Nat
 c:Int
structure GrpJ (n k:Nat) (zs:PZ) (m:List Pw) (y:GrpS):Prop where
 pos:0<y.j
 le:k+y.j≤n
 all:∀t∈(zs.drop k).take y.j,t.2=m
 sum:y.c=coef ((zs.drop k).take y.j) m
theorem getD_mem {α:Type} [Inhabited α] {l:List α} {i:Nat} (h:i<l.length):l.getD i default∈l:=by
 rw[List.getD_eq_getElem?_getD,List.getElem?_eq_getElem h]
 exact List.getElem_mem h
def termZ (t:TermM):Int×List Pw:=zT t.1
end Go.Proofs.YtamgilppehibeaaGreatDoor
namespace Go.Proofs.YtamgilppehibeaaGreatDoor
open Go.Ab
structure TermOk (k:Nat) (t:TermR):Prop where
 c:IntOk k t.c
 m:t.m.length≤400000
structure PolyOk (k:Nat) (l:List TermR):Prop where
 len:l.length≤400000000
 at':∀t∈l,TermOk k t
theorem TermOk.mono {k n:Nat} {t:TermR} (h:TermOk k t) (hk:k≤n):TermOk n t:=⟨h.c.mono hk,h.m⟩
theorem PolyOk.mono {k n:Nat} {l:List TermR} (h:PolyOk k l) (hk:k≤n):PolyOk n l:=⟨h.len,fun t ht=>(h.at' t ht).mono hk⟩
theorem PolyOk.get {k:Nat} {l:List TermR} (h:PolyOk k l) {i:Nat} (hi:i<l.length):TermOk k (l.getD i default):=h.at' _ (getD_mem hi)
def mayZ (x:IntR):Bool:=match x.mag.getLast? with
 |none=> !x.neg
 |some d=>decide (d≠0)
theorem mayZ_C {k:Nat} {x:IntR} (h:IntOk k x):mayZ x=true↔x=intC x.z:=by
 obtain⟨neg,mag⟩:=x
 constructor
 ·intro hm
  unfold mayZ at hm
  simp only at hm
  cases hl:mag.getLast? with
  |none=>
   rw[hl]at hm
   have hm:(!neg)=true:=hm
   obtain rfl:=List.getLast?_eq_none_iff.1 hl
   cases neg
   ·rfl
   ·cases hm
  |some d=>
   rw[hl]at hm
   have hd:d≠0:=of_decide_eq_true hm
   have hne:mag≠[]:=fun e=>by rw[e]at hl;cases hl
   have hlast:∀h:mag≠[],mag.getLast h≠0:=fun h=>by
    rw[List.getLast?_eq_some_getLast h]at hl
    cases hl
    exact hd
   have e:=digs_val B32_two h.lt hlast
   have hv:valB B32 mag≠0:=fun h0=>by
    rw[h0]at e
    exact hne e.symm
   unfold intC IntR.z
   cases neg
   ·simp only[Bool.false_eq_true,if_false,Int.natAbs_natCast,e]
    have:decide (((valB B32 mag:Nat):Int)<0)=false:=decide_eq_false (by omega)
    rw[this]
   ·simp only[if_true,Int.natAbs_neg,Int.natAbs_natCast,e]
    have:decide (-((valB B32 mag:Nat):Int)<0)=true:=decide_eq_true (by omega)
    rw[this]
 ·intro hx
  have hmag:mag=digs B32 (IntR.z ⟨neg,mag⟩).natAbs:=congrArg IntR.mag hx
  have hneg:neg=decide ((IntR.z ⟨neg,mag⟩)<0):=congrArg IntR.neg hx
  generalize (IntR.z ⟨neg,mag⟩)=z at hmag hneg
  unfold mayZ
  simp only
  by_cases h0:z=0
  ·subst h0
   have:mag=[]:=hmag
   subst this
   rw[hneg]
   rfl
  ·have hne:digs B32 z.natAbs≠[]:=fun e=>by
    have:=(digs_nil B32_two).1 e
    omega
   rw[hmag,List.getLast?_eq_some_getLast hne]
   exact decide_eq_true (digs_last B32_two _ hne)
def mayT (t:TermR):Bool:=decide (t.c.z≠0)&&mayZ t.c&&may t.m
def okAt (p:List TermR) (i:Nat):Bool:=mayT (p.getD i default)&&(decide (i=0) || decide (0<ordM (p.getD (i-1) default).m (p.getD i default).m))
def mayP (p:List TermR):Bool:=(List.range p.length).all (okAt p)
theorem mayP_iff (p:List TermR):mayP p=true↔∀i,i<p.length→okAt p i=true:=by
 unfold mayP
 rw[List.all_eq_true]
 exact⟨fun h i hi=>h i (List.mem_range.2 hi),fun h i hi=>h i (List.mem_range.1 hi)⟩
theorem mayP_hit {p:List TermR} {i:Nat} (hi:i<p.length) (h:okAt p i=false):mayP p=false:=by
 rw[Bool.eq_false_iff]
 intro e
 have:=(mayP_iff p).1 e i hi
 rw[h]at this
 cases this
theorem mayP_may {p:List TermR} (h:mayP p=true) {i:Nat} (hi:i<p.length):mayT (p.getD i default)=true:=by
 have:=(mayP_iff p).1 h i hi
 unfold okAt at this
 exact(Bool.and_eq_true_iff.1 this).1
end Go.Proofs.YtamgilppehibeaaGreatDoor
namespace Go.Proofs.YtamgilppehibeaaGreatDoor
open Go.Ab
theorem cbWMay:Callable Tryz.prog 63:=fun _ _=>by kernel_rfl
theorem wmay_c (x:IntR) (h:x.mag.length≤1000000000):PCalls Tryz.prog 63 [.agg (intEs x)] (.bool (mayZ x)):=by
 refine pcalls_of_awp tyok cbWMay Tryz.func63 rfl rfl ?_
 obtain⟨neg,mag⟩:=x
 simp only at h
 unfold mayZ
 simp only
 by_cases hl:mag=[]
 ·subst hl
  have h0:(([]:List Nat).length:Int)=0:=rfl
  ((repeat(first|refine wDB ?_|refine awp_seq_k fun K hK=>?_|(refine wH ?_;clear hK)));refine wN fun b1=>?_;(repeat(first|refine wDB ?_|refine awp_seq_k fun K hK=>?_|refine wN fun bx=>?_|(refine wH ?_;clear hK))))
  refine r1 ?_
  exact Sub.refl _
 ·have hp:=List.length_pos_iff.2 hl
  have e:mag.getLast?=some (mag.getD (mag.length-1) 0):=by
   rw[List.getLast?_eq_getElem?,List.getD_eq_getElem?_getD,List.getElem?_eq_getElem (by omega)]
   rfl
  rw[e]
  have ei:((mag.length:Int)-1).toNat=mag.length-1:=by omega
  ((repeat(first|refine wDB ?_|refine awp_seq_k fun K hK=>?_|(refine wH ?_;clear hK)));refine wN fun b1=>?_;(repeat(first|refine wDB ?_|refine awp_seq_k fun K hK=>?_|refine wN fun bx=>?_|(refine wH ?_;clear hK))))
  refine r1 ?_
  refine Sub.of_eq (congrArg AV.bool ?_)
  rw[ei]
  generalize mag.getD (mag.length-1) 0=d
  by_cases hz:d=0
  ·subst hz
   rfl
  ·have hz':¬(d:Int)=0:=by omega
   exact(bne_iff_ne.2 hz').trans (decide_eq_true hz).symm
theorem cbPMay:Callable Tryz.prog 17:=fun _ _=>by kernel_rfl
theorem pmay_c (p:List TermR) (h:PolyOk 100000000 p):PCalls Tryz.prog 17 [polyV p] (.bool (mayP p)):=by
 refine pcalls_of_awp tyok cbPMay Tryz.func17 rfl rfl ?_
 have hl:=h.len
 repeat(first|refine wD ?_|refine awp_seq_k fun K hK=>?_|refine wN fun bx=>?_|(refine wH ?_;clear hK))
 refine awp_loop0 (ι:={i:Nat//i≤p.length∧∀j,j<i→okAt p j=true}) (fun i=>[(0,polyV p),(5,polyV p),(6,.int .i64 p.length),(7,.int .i64 i.1)]) (fun _=>[]) (fun i=>p.length-i.1) ⟨0,Nat.zero_le _,fun j hj=>absurd hj (by omega)⟩ wk dp ?_
 rintro⟨i,hi,hok⟩
 simp only at hi hok ⊢
 by_cases hlt:i<p.length
 rotate_left
 ·have hge:¬(i:Int)<p.length:=by omega
  have hmp:mayP p=true:=(mayP_iff p).2 fun j hj=>hok j (by omega)
  repeat(first|refine wDB ?_|refine awp_seq_k fun K hK=>?_|refine wN fun bx=>?_|(refine wH ?_;clear hK))
  refine r1 ?_
  exact Sub.of_eq (by rw[hmp])
 have hlt':(i:Int)<p.length:=by omega
 have ht:=h.get hlt
 have gs:=sign1_c (p.getD i default).c ht.c
 have gw:=wmay_c (p.getD i default).c (Nat.le_trans ht.c.len (by decide))
 have gm:=may_c (p.getD i default).m (Nat.le_trans ht.m (by decide))
 have hsz:=signZ_zero (p.getD i default).c.z
 ((repeat(first|refine wKB ?_|refine awp_seq_k fun K hK=>?_|(refine wH ?_;clear hK)));refine wN fun b4=>?_;(repeat(first|refine wKB ?_|refine awp_seq_k fun K hK=>?_|refine wN fun bx=>?_|(refine wH ?_;clear hK))))
 refine awp_freeze [] (s:=4) rfl rfl ?_
 have bad:okAt p i=false→Sub (.bool false) (.bool (mayP p)):=fun e=>Sub.of_eq (by rw[mayP_hit hlt e])
 by_cases h1:signZ (p.getD i default).c.z=0
 ·refine areg_soft mixed tyok [2,7,13,28] [] (List.range 32) (by decide +kernel) ?_
  repeat(first|refine wDB ?_|refine awp_seq_k fun K hK=>?_|refine wN fun bx=>?_|refine wC gs ?_|(refine wH ?_;clear hK))
  refine r1 ?_
  refine bad ?_
  unfold okAt mayT
  rw[decide_eq_false (by simpa using hsz.1 h1)]
  rfl
 have hz1:decide ((p.getD i default).c.z≠0)=true:=decide_eq_true fun e=>h1 (hsz.2 e)
 cases h2:mayZ (p.getD i default).c with
 |false=>
  rw[h2]at gw
  refine areg_soft mixed tyok [2,7,13,28] [] (List.range 32) (by decide +kernel) ?_
  repeat(first|refine wDB ?_|refine awp_seq_k fun K hK=>?_|refine wN fun bx=>?_|refine wC gs ?_|refine wC gw ?_|(refine wH ?_;clear hK))
  refine r1 ?_
  refine bad ?_
  unfold okAt mayT
  rw[hz1,h2]
  rfl
 |true=>
 rw[h2]at gw
 cases h3:may (p.getD i default).m with
 |false=>
  have gm':=(show mayF 0 (p.getD i default).m=false from h3)▸gm
  refine areg_soft mixed tyok [2,7,13,28] [] (List.range 32) (by decide +kernel) ?_
  repeat(first|refine wDB ?_|refine awp_seq_k fun K hK=>?_|refine wN fun bx=>?_|refine wC gs ?_|refine wC gw ?_|refine wC gm' ?_|(refine wH ?_;clear hK))
  refine r1 ?_
  refine bad ?_
  unfold okAt mayT
  rw[hz1,h2,h3]
  rfl
 |true=>
 have gm':=(show mayF 0 (p.getD i default).m=true from h3)▸gm
 by_cases hi0:i=0
 ·subst hi0
  refine areg_soft mixed tyok [2,7,13,28] [] (List.range 32) (by decide +kernel) ?_
  repeat(first|refine wDB ?_|refine awp_seq_k fun K hK=>?_|refine wN fun bx=>?_|refine wC gs ?_|refine wC gw ?_|refine wC gm' ?_|(refine wH ?_;clear hK))
  refine⟨⟨1,hlt,fun j hj=>?_⟩,wk,dp,by simp only;omega⟩
  obtain rfl:j=0:=by omega
  unfold okAt mayT
  rw[hz1,h2,h3]
  rfl
 have hi0':(i:Int)>0:=by omega
 have ht2:=h.get (show i-1<p.length by omega)
 have go:=porder_c (p.getD (i-1) default).m (p.getD i default).m ht2.m ht.m
 have e1:((i:Int)-1).toNat=i-1:=by omega
 have go':PCalls Tryz.prog 65 [mono (p.getD ((i:Int)-1).toNat default).m,mono (p.getD i default).m] (.int .i64 (ordM (p.getD (i-1) default).m (p.getD i default).m)):=by rw[e1];exact go
 by_cases h4:ordM (p.getD (i-1) default).m (p.getD i default).m≤0
 ·refine areg_soft mixed tyok [2,7,13,28] [] (List.range 32) (by decide +kernel) ?_
  repeat(first|refine wDB ?_|refine awp_seq_k fun K hK=>?_|refine wN fun bx=>?_|refine wC gs ?_|refine wC gw ?_|refine wC gm' ?_|refine wC go' ?_|(refine wH ?_;clear hK))
  refine r1 ?_
  refine bad ?_
  unfold okAt mayT
  rw[hz1,h2,h3,decide_eq_false hi0,decide_eq_false (by omega)]
  rfl
 ·refine areg_soft mixed tyok [2,7,13,28] [] (List.range 32) (by decide +kernel) ?_
  repeat(first|refine wDB ?_|refine awp_seq_k fun K hK=>?_|refine wN fun bx=>?_|refine wC gs ?_|refine wC gw ?_|refine wC gm' ?_|refine wC go' ?_|(refine wH ?_;clear hK))
  refine⟨⟨i+1,hlt,fun j hj=>?_⟩,wk,dp,by simp only;omega⟩
  by_cases e:j=i
  ·subst e
   unfold okAt mayT
   rw[hz1,h2,h3,decide_eq_false hi0,decide_eq_true (by omega)]
   rfl
  ·exact hok j (by omega)
end Go.Proofs.YtamgilppehibeaaGreatDoor
namespace Go.Proofs.YtamgilppehibeaaGreatDoor
open Go.Ab
def sameT8 (a b:TermR):Bool:=(a.c.neg==b.c.neg)&&((a.c.mag==b.c.mag)&&(a.m==b.m))
def sameP8:List TermR→List TermR→Bool
 |[],[]=>true
 |a::l,b::r=>sameT8 a b&&sameP8 l r
 |_,_=>false
theorem sameT8_iff (a b:TermR):sameT8 a b=true↔a=b:=by
 obtain⟨⟨n,m⟩,p⟩:=a
 obtain⟨⟨n',m'⟩,p'⟩:=b
 simp only[sameT8,Bool.and_eq_true,beq_iff_eq,TermR.mk.injEq,IntR.mk.injEq]
 exact⟨fun h=>⟨⟨h.1,h.2.1⟩,h.2.2⟩,fun h=>⟨h.1.1,h.1.2,h.2⟩⟩
theorem sameP8_iff:∀a b:List TermR,sameP8 a b=true↔a=b
 |[],[]=>by simp[sameP8]
 |a::l,b::r=>by simp[sameP8,sameT8_iff,sameP8_iff l r]
 |[],_::_=>by simp[sameP8]
 |_::_,[]=>by simp[sameP8]
theorem sameP8_no {a b:List TermR} (h:a≠b):sameP8 a b=false:=Bool.eq_false_iff.2 fun e=>h ((sameP8_iff a b).1 e)
end Go.Proofs.YtamgilppehibeaaGreatDoor
namespace Go.Proofs.YtamgilppehibeaaGreatDoor
open Go.Ab
def polyE (p:List TermR):List AV:=[polyV p]
abbrev polysV (ps:List (List TermR)):AV:=sl polyE 1 ps .view
structure PolysOk (ps:List (List TermR)):Prop where
 len:ps.length≤1000000000
 at':∀p∈ps,PolyOk 100000000 p
theorem mayP_at {p:List TermR} (h:mayP p=true):∀t∈p,mayT t=true:=fun t ht=>by
 obtain⟨i,hi,e⟩:=List.getElem_of_mem ht
 have h1:=(mayP_iff p).1 h i hi
 unfold okAt at h1
 rw[Bool.and_eq_true,List.getD_eq_getElem?_getD,List.getElem?_eq_getElem hi]at h1
 exact e▸h1.1
theorem mayP_m {p:List TermR} (h:mayP p=true):∀t∈p,may t.m=true:=fun t ht=>by
 have h1:=mayP_at h t ht
 unfold mayT at h1
 rw[Bool.and_eq_true]at h1
 exact h1.2
end Go.Proofs.YtamgilppehibeaaGreatDoor
namespace Go.Proofs.YtamgilppehibeaaGreatDoor
open Go.Ab
def limR (p:List TermR):Nat:=p.foldl (fun m t=>max m t.c.mag.length) 0
def rowZ (x:TermR) (b:List TermR):PZ:=b.map fun y=>(x.c.z*y.c.z,(timesF x.m y.m).1)
def prodZ (a b:List TermR):PZ:=a.flatMap fun x=>rowZ x b
def rowOk (x:TermR) (b:List TermR):Bool:=b.all fun y=>decide ((timesF x.m y.m).2=0)
def prodOk (a b:List TermR):Bool:=a.all fun x=>rowOk x b
theorem rowZ_len (x:TermR) (b:List TermR):(rowZ x b).length=b.length:=List.length_map _
theorem prodZ_len:∀a b:List TermR,(prodZ a b).length=a.length*b.length
 |[],b=>by simp[prodZ]
 |x::a,b=>by
  have h:=prodZ_len a b
  unfold prodZ at h ⊢
  rw[List.flatMap_cons,List.length_append,h,rowZ_len,List.length_cons,Nat.succ_mul]
  omega
theorem timesF_two {a b:List Pw} (ha:may a=true) (hb:may b=true):(timesF a b).2=0∧may (timesF a b).1=true∨timesF a b=([],8):=by
 unfold timesF
 rw[ha,hb]
 simp only[Bool.and_self,if_true]
 by_cases h:may (madeF gAdd (zipM a b))=true
 ·rw[if_pos h]
  exact .inl ⟨rfl,h⟩
 ·rw[if_neg h]
  exact .inr rfl
def ptimesF (a b:List TermR):PZ×Int:=if prodOk a b=true then(colZ (prodZ a b),0) else([],8)
structure TimS where
 i:Nat
 a:Option Addr
 cp:Nat
structure TimI (a b:List TermR) (y:TimS):Prop where
 le:y.i≤a.length
 ok:∀j,j<y.i→rowOk (a.getD j default) b=true
structure TimJ (x:TermR) (b:List TermR) (y:TimS):Prop where
 le:y.i≤b.length
 ok:∀j,j<y.i→(timesF x.m (b.getD j default).m).2=0
end Go.Proofs.YtamgilppehibeaaGreatDoor
namespace Go.Proofs.YtamgilppehibeaaGreatDoor
open Go.Ab
theorem zR_zT {k:Nat} {t:TermR} (h:TermOk k t) (hm:mayT t=true):zR (zT t)=t:=by
 unfold mayT at hm
 rw[Bool.and_eq_true,Bool.and_eq_true]at hm
 have e:=(mayZ_C h.c).1 hm.1.2
 unfold zR zT
 simp only
 rw[←e]
theorem cbCopied:Callable Tryz.prog 164:=fun _ _=>by kernel_rfl
theorem copied_c (t:TermR) (h:TermOk 1000000 t):PCalls Tryz.prog 164 [.agg (termE t)] (.agg (termE (zR (zT t)))):=by
 refine pcalls_of_awp tyok cbCopied Tryz.func164 rfl rfl ?_
 have gA:=add2_c t.c ⟨false,[]⟩ (h.c.mono (by omega)) ⟨fun x hx=>absurd hx List.not_mem_nil,Nat.zero_le _⟩
 rw[int0_z,Int.add_zero]at gA
 have gA':=gA.sub (vs:=[.agg (intEs t.c),.agg [.bool false,.nils]]) (.cons (Sub.refl _) (.cons (subAgg (.cons (Sub.refl _) (.cons (Sub.nilsv _ _) .nil))) .nil))
 have gC:=cloneM_c t.m (by have:=h.m;omega)
 repeat(first|refine wKB ?_|refine awp_seq_k fun K hK=>?_|refine wN fun bx=>?_|(refine wH ?_;clear hK))
 refine areg_soft mixed tyok [3,6] [(3,[]),(6,[])] (List.range 9) (by decide +kernel) ?_
 repeat(first|refine wDB ?_|refine awp_seq_k fun K hK=>?_|refine wN fun bx=>?_|refine wC gA' ?_|refine wC gC ?_|(refine wH ?_;clear hK))
 refine rcA ?_
 exact Sub.refl _
def term0:TermR:=⟨⟨false,[]⟩,[]⟩
theorem term0_sub:Sub (.agg [.bool false,.nils,.nils]) (.agg (termE term0)):=subAgg (.cons (Sub.refl _) (.cons (Sub.nilsv _ _) (.cons (Sub.nilsv _ _) .nil)))
theorem cbLead:Callable Tryz.prog 111:=fun _ _=>by kernel_rfl
theorem lead_c (p:List TermR) (h:PolyOk 1000000 p) (hm:mayP p=true) (h0:0<p.length):PCalls Tryz.prog 111 [polyV p] (.tuple [.agg (termE (p.getD 0 default)),.bool true]):=by
 refine pcalls_of_awp tyok cbLead Tryz.func111 rfl rfl ?_
 have g:=pmay_c p (h.mono (by omega))
 rw[hm]at g
 have gC:=copied_c (p.getD 0 default) (h.get h0)
 rw[zR_zT (h.get h0) (mayP_at hm _ (getD_mem h0))]at gC
 have hl:=h.len
 have h0':¬(p.length:Int)=0:=by omega
 have h0'':(0:Int)<p.length:=by omega
 repeat(first|refine wDB ?_|refine awp_seq_k fun K hK=>?_|refine wN fun bx=>?_|refine wC g ?_|refine wC gC ?_|(refine wH ?_;clear hK))
 refine rcB ?_ ?_
 ·exact Sub.refl _
 ·exact Sub.refl _
theorem lead0_c:PCalls Tryz.prog 111 [polyV []] (.tuple [.agg (termE term0),.bool false]):=by
 refine pcalls_of_awp tyok cbLead Tryz.func111 rfl rfl ?_
 have e:(([]:List TermR).length:Int)=0:=rfl
 repeat(first|refine wDB ?_|refine awp_seq_k fun K hK=>?_|refine wN fun bx=>?_|(refine wH ?_;clear hK))
 refine rcB ?_ ?_
 ·exact term0_sub
 ·exact Sub.refl _
def classP (p:List TermR):Int:=match p with|[]=>0|t::_=>classF t.m
def degP (v:Int) (p:List TermR):Int:=p.foldl (fun d t=>if degF v t.m>d then degF v t.m else d) 0
theorem cbVClass:Callable Tryz.prog 66:=fun _ _=>by kernel_rfl
theorem vclass_c (p:List TermR) (h:PolyOk 1000000 p) (hm:mayP p=true):PCalls Tryz.prog 66 [polyV p] (.int .i64 (classP p)):=by
 refine pcalls_of_awp tyok cbVClass Tryz.func66 rfl rfl ?_
 match p,h,hm with
 |[],h,hm=>
  have g1:=lead0_c
  have g2:=class_c [] (by decide)
  ((repeat(first|refine wDB ?_|refine awp_seq_k fun K hK=>?_|refine wC g1 ?_|refine wC g2 ?_|(refine wH ?_;clear hK)));refine wN fun b3=>?_;(repeat(first|refine wDB ?_|refine awp_seq_k fun K hK=>?_|refine wN fun bx=>?_|refine wC g1 ?_|refine wC g2 ?_|(refine wH ?_;clear hK))))
  refine r1 ?_
  exact Sub.refl _
 |t::p,h,hm=>
  have g1:=lead_c (t::p) h hm (Nat.succ_pos _)
  have g2:=class_c t.m (h.at' t (List.mem_cons_self ..)).m
  ((repeat(first|refine wDB ?_|refine awp_seq_k fun K hK=>?_|refine wC g1 ?_|refine wC g2 ?_|(refine wH ?_;clear hK)));refine wN fun b3=>?_;(repeat(first|refine wDB ?_|refine awp_seq_k fun K hK=>?_|refine wN fun bx=>?_|refine wC g1 ?_|refine wC g2 ?_|(refine wH ?_;clear hK))))
  refine r1 ?_
  exact Sub.refl _
theorem plainF_may {m:List Pw} (h:may m=true):plainF m=m:=if_pos h
def pickR (pm:TermR→List Pw) (pb:TermR→Bool) (p:List TermR):List TermR:=(p.filter pb).map fun t=>⟨t.c,pm t⟩
def coefP (v e:Int) (p:List TermR):List TermR:=pickR (fun t=>withoutF v t.m) (fun t=>decide (degF v t.m=e)) p
def initP (p:List TermR):List TermR:=if classP p=0 then p else coefP (classP p) (degP (classP p) p) p
end Go.Proofs.YtamgilppehibeaaGreatDoor
namespace Go.Proofs.YtamgilppehibeaaGreatDoor
open Go.Ab
def gcdL (l:List TermR):Nat:=l.foldl (fun g t=>Nat.gcd g t.c.z.natAbs) 0
def contP (p:List TermR):Nat:=gcdL p.reverse
theorem mayT_z {t:TermR} (h:mayT t=true):t.c.z≠0:=by
 unfold mayT at h
 rw[Bool.and_eq_true,Bool.and_eq_true]at h
 exact of_decide_eq_true h.1.1
def cWhole (p:List TermR):Int:=if(p.getD 0 default).c.z<0 then -(contP p:Int) else(contP p:Int)
def wOne (c:Int) (t:TermR):TermR:=⟨intC (t.c.z.tdiv c),t.m⟩
def wholeP (p:List TermR):List TermR:=p.map (wOne (cWhole p))
end Go.Proofs.YtamgilppehibeaaGreatDoor
namespace Go.Proofs.YtamgilppehibeaaGreatDoor
open Go.Ab
theorem ordM_tri {a b:List Pw} (ha:may a=true) (hb:may b=true):Tri (fun v=>degF v a) (fun v=>degF v b) (ordM a b):=by
 obtain⟨c,e,h⟩:=compare_tri ha hb
 unfold ordM
 rw[e]
 exact h
theorem ord_at {p:List TermR} (hm:mayP p=true) {i:Nat} (h0:0<i) (hi:i<p.length):0<ordM (p.getD (i-1) default).m (p.getD i default).m:=by
 have h1:=(mayP_iff p).1 hm i hi
 unfold okAt at h1
 simp only[Bool.and_eq_true,Bool.or_eq_true,decide_eq_true_eq]at h1
 omega
theorem ord_lt {p:List TermR} (hm:mayP p=true):∀(d i:Nat),i+d+1<p.length→0<ordM (p.getD i default).m (p.getD (i+d+1) default).m
 |0,i,h=>by
  have:=ord_at hm (i:=i+1) (by omega) h
  simpa using this
 |d+1,i,h=>by
  have h2:=ord_at hm (i:=i+(d+1)+1) (by omega) h
  rw[Nat.add_sub_cancel]at h2
  exact ordM_gt (mayP_m hm _ (getD_mem (by omega))) (mayP_m hm _ (getD_mem (by omega))) (mayP_m hm _ (getD_mem (by omega))) (ord_lt hm d i (by omega)) (Int.le_of_lt h2)
theorem getD_get {α:Type} [Inhabited α] {l:List α} {i:Nat} (h:i<l.length):l.getD i default=l[i]:=by
 rw[List.getD_eq_getElem?_getD,List.getElem?_eq_getElem h]
 rfl
theorem canon_of {p:List TermR} (hm:mayP p=true):Canon (p.map zT):=by
 refine⟨fun t ht=>?_,fun t ht=>?_,List.pairwise_map.2 (List.pairwise_iff_getElem.2 fun i j hi hj hij=>?_)⟩
 ·obtain⟨u,hu,rfl⟩:=List.mem_map.1 ht
  exact mayT_z (mayP_at hm u hu)
 ·obtain⟨u,hu,rfl⟩:=List.mem_map.1 ht
  exact mayP_m hm u hu
 ·have h:=ord_lt hm (j-i-1) i (by omega)
  rw[show i+(j-i-1)+1=j by omega,getD_get hi,getD_get hj]at h
  exact h
theorem zT_map (q:PZ):(q.map zR).map zT=q:=by
 rw[List.map_map,show(zT∘zR)=id from funext zT_R,List.map_id]
structure CanK (k:Nat) (q:PZ):Prop where
 can:Canon q
 bd:∀t∈q,ZOk k t.1
theorem CanK.mono {j k:Nat} {q:PZ} (h:CanK j q) (hk:j≤k):CanK k q:=⟨h.can,fun t ht=>(h.bd t ht).mono hk⟩
theorem canK_of {k:Nat} {p:List TermR} (h:PolyOk k p) (hm:mayP p=true):CanK k (p.map zT):=⟨canon_of hm,fun t ht=>by
 obtain⟨u,hu,rfl⟩:=List.mem_map.1 ht
 exact intR_zok (h.at' u hu).c⟩
theorem CanK.ok {k:Nat} {q:PZ} (h:CanK k q) (hl:q.length≤400000000):PolyOk k (q.map zR):=⟨by rw[List.length_map];exact hl,fun t ht=>by
 obtain⟨u,hu,rfl⟩:=List.mem_map.1 ht
 exact⟨intC_ok (h.bd u hu),may_short (h.can.may u hu)⟩⟩
theorem CanK.may {k:Nat} {q:PZ} (h:CanK k q):mayP (q.map zR)=true:=by
 refine(mayP_iff _).2 fun i hi=>?_
 have hi':i<q.length:=by rwa [List.length_map]at hi
 have hg:∀j,j<q.length→(q.map zR).getD j default=zR (q[j]?.getD default):=fun j hj=>by
  rw[List.getD_eq_getElem?_getD,List.getElem?_map,List.getElem?_eq_getElem hj]
  rfl
 have hq:∀j (hj:j<q.length),q[j]?.getD default=q[j]:=fun j hj=>by rw[List.getElem?_eq_getElem hj];rfl
 unfold okAt
 rw[Bool.and_eq_true]
 constructor
 ·rw[hg i hi',hq i hi']
  have hm:=List.getElem_mem hi'
  unfold mayT
  rw[Bool.and_eq_true,Bool.and_eq_true]
  refine⟨⟨decide_eq_true ?_,(mayZ_C (intC_ok (h.bd _ hm))).2 ?_⟩,h.can.may _ hm⟩
  ·show(intC q[i].1).z≠0
   rw[intC_z]
   exact h.can.nz _ hm
  ·show intC q[i].1=intC (intC q[i].1).z
   rw[intC_z]
 ·by_cases h0:i=0
  ·rw[decide_eq_true h0]
   rfl
  ·rw[Bool.or_eq_true]
   refine .inr (decide_eq_true ?_)
   rw[hg i hi',hq i hi',hg (i-1) (by omega),hq (i-1) (by omega)]
   exact List.pairwise_iff_getElem.1 h.can.ord (i-1) i (by omega) hi' (by omega)
theorem colZ_self {p:PZ} (h:Canon p):colZ p=p:=(colZ_unique h.may h fun _=>rfl).symm
theorem col_canK {k:Nat} {l:PZ} (hm:∀t∈l,Proofs.YtamgilppehibeaaGreatDoor.may t.2=true) (hb:∀t∈l,ZOk k t.1) (hl:l.length≤4294967296):CanK (k+1) (colZ l):=by
 obtain⟨h1,h2⟩:=colZ_law hm
 refine⟨h1,fun t ht=>?_⟩
 rw[←h1.at' t ht,h2]
 exact coef_zok hb hl _
theorem class_spec {m:List Pw} (h:may m=true):(m=[]∧classF m=0)∨(1≤classF m∧classF m≤200∧0<degF (classF m) m∧∀u,classF m<u→degF u m=0):=by
 cases hl:m.getLast? with
 |none=>
  have e:=List.getLast?_eq_none_iff.1 hl
  subst e
  exact .inl ⟨rfl,rfl⟩
 |some l=>
  have hs:=may_srt h
  have hp:=plainF_may h
  obtain⟨q,hq⟩:=List.getLast?_eq_some_iff.1 hl
  have hm:l∈m:=by rw[hq];simp
  have e1:=deg_of_mem hs.1 hm
  have p1:=hs.2 l hm
  have hu:∀u,l.1<u→degF u m=0:=fun u hu=>by
   by_cases e:degF u m=0
   ·exact e
   ·obtain⟨p,hp,e2⟩:=deg_mem e
    rw[hq]at hp hs
    rcases List.mem_append.1 hp with hp|hp
    ·have:=(List.pairwise_append.1 hs.1).2.2 p hp l (by simp)
     simp only[Lt2]at this
     omega
    ·simp only[List.mem_singleton]at hp
     subst hp
     omega
  have hc:classF m=l.1:=class_of (by rw[hp];omega) (by rw[hp];exact hu)
  have hb:=deg_bnd h (v:=l.1) (by omega)
  rw[hc]
  exact .inr ⟨hb.1,hb.2.1,by omega,hu⟩
theorem class_ge {m:List Pw} (h:may m=true):0≤classF m∧classF m≤200:=by
 rcases class_spec h with⟨-,e⟩|⟨h1,h2,-⟩<;>omega
theorem class_above {m:List Pw} (h:may m=true) {u:Int} (hu:classF m<u):degF u m=0:=by
 rcases class_spec h with⟨rfl,e⟩|⟨-,-,-,h1⟩
 ·rfl
 ·exact h1 u hu
theorem class_le {a b:List Pw} (ha:may a=true) (hb:may b=true) (h:0≤ordM a b):classF b≤classF a:=by
 have t:=ordM_tri ha hb
 have ga:=class_ge ha
 rcases class_spec hb with⟨-,e⟩|⟨b1,-,b2,-⟩
 ·omega
 ·by_cases hlt:classF a<classF b
  ·exfalso
   have a0:=class_above ha hlt
   have:ordM a b= -1:=t.unique (.lt (classF b) (by omega) fun u hu=>by
    rw[class_above ha (by omega:classF a<u),class_above hb hu])
   omega
  ·omega
def clsZ (p:PZ):Int:=p.foldl (fun c t=>if classF t.2>c then classF t.2 else c) 0
def degZ (v:Int) (p:PZ):Int:=p.foldl (fun d t=>if degF v t.2>d then degF v t.2 else d) 0
theorem cls_stay:∀(p:PZ) (c:Int),(∀u∈p,classF u.2≤c)→p.foldl (fun c t=>if classF t.2>c then classF t.2 else c) c=c
 |[],_,_=>rfl
 |t::p,c,h=>by
  have h1:=h t (List.mem_cons_self ..)
  rw[List.foldl_cons,if_neg (by omega)]
  exact cls_stay p c fun u hu=>h u (List.mem_cons_of_mem _ hu)
theorem clsZ_head {t:Int×List Pw} {p:PZ} (h:Canon (t::p)):clsZ (t::p)=classF t.2:=by
 have ht:=h.may t (List.mem_cons_self ..)
 have g:=class_ge ht
 unfold clsZ
 rw[List.foldl_cons,show(if classF t.2>0 then classF t.2 else 0)=classF t.2 by split<;>omega]
 exact cls_stay p _ fun u hu=>class_le ht (h.may u (List.mem_cons_of_mem _ hu)) (Int.le_of_lt (h.head u hu))
theorem classP_z {p:List TermR} (hm:mayP p=true):classP p=clsZ (p.map zT):=by
 have h:=canon_of hm
 cases p with
 |nil=>rfl
 |cons t p=>exact(clsZ_head h).symm
def coefVZ (v e:Int) (p:PZ):PZ:=(p.filter fun t=>decide (degF v t.2=e)).map fun t=>(t.1,withoutF v t.2)
def initZ (p:PZ):PZ:=if clsZ p=0 then p else coefVZ (clsZ p) (degZ (clsZ p) p) p
def gcdZ (p:PZ):Nat:=p.foldl (fun g t=>Nat.gcd g t.1.natAbs) 0
def cwZ (p:PZ):Int:=if(p.getD 0 default).1<0 then -(gcdZ p:Int) else(gcdZ p:Int)
def wholeZ (p:PZ):PZ:=p.map fun t=>(t.1.tdiv (cwZ p),t.2)
def prodQ (a b:PZ):PZ:=a.flatMap fun x=>b.map fun y=>(x.1*y.1,(timesF x.2 y.2).1)
def prodB (a b:PZ):Bool:=a.all fun x=>b.all fun y=>decide ((timesF x.2 y.2).2=0)
def tmZ (a b:PZ):PZ×Bool:=if prodB a b=true then(colZ (prodQ a b),true) else([],false)
theorem prodZ_z (a b:List TermR):prodZ a b=prodQ (a.map zT) (b.map zT):=by
 unfold prodZ prodQ rowZ
 rw[List.flatMap_map]
 refine congrArg (fun f=>List.flatMap f a) (funext fun x=>?_)
 rw[List.map_map]
 rfl
theorem prodQ_len (a b:PZ):(prodQ a b).length=a.length*b.length:=by
 have h:=prodZ_len (a.map zR) (b.map zR)
 rw[prodZ_z,zT_map,zT_map,List.length_map,List.length_map]at h
 exact h
end Go.Proofs.YtamgilppehibeaaGreatDoor
