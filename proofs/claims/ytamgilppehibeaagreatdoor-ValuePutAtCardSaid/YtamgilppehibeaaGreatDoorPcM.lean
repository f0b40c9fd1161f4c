/-
  Layer 8 (poly): terms are collected.
-/
import Derived.Test.YtamgilppehibeaaGreatDoorPoM
import Derived.Test.YtamgilppehibeaaGreatDoorSoB
import Derived.Test.YtamgilppehibeaaGreatDoorNwM
import Derived.Test.YtamgilppehibeaaGreatDoorAbE
import Derived.Test.YtamgilppehibeaaGreatDoorMoM
import Derived.Test.YtamgilppehibeaaGreatDoorAbB
set_option maxRecDepth 100000
set_option maxHeartbeats 6400000
namespace Go.Proofs.YtamgilppehibeaaGreatDoor
open Go.Ab
def zT (t:TermR):Int×List Pw:=(t.c.z,t.m)
def zR (t:Int×List Pw):TermR:=⟨intC t.1,t.2⟩
theorem zT_R (t:Int×List Pw):zT (zR t)=t:=by
 unfold zT zR
 rw[intC_z]
abbrev polyZ (p:PZ):AV:=polyV (p.map zR)
theorem int0_z:(IntR.mk false []).z=0:=rfl
theorem B32_pow_succ (k:Nat):B32^(k+1)=B32^k*B32:=Nat.pow_succ ..
theorem coef_zok {k:Nat} {l:PZ} (h:∀t∈l,ZOk k t.1) (hl:l.length≤4294967296) (m:List Pw):ZOk (k+1) (coef l m):=by
 have hp:0<B32^k:=Nat.pow_pos (by decide)
 have hb:BdZ (B32^k-1) l:=fun t ht=>by
  have:=h t ht
  unfold ZOk at this
  omega
 have h1:=coef_bd hb m
 have h2:l.length*(B32^k-1)≤4294967296*(B32^k-1):=Nat.mul_le_mul_right _ hl
 unfold ZOk
 rw[B32_pow_succ]
 have e:B32=4294967296:=rfl
 have h3:B32^k*B32=4294967296*B32^k:=by rw[e,Nat.mul_comm]
 rw[h3]
 have h4:4294967296*(B32^k-1)<4294967296*B32^k:=Nat.mul_lt_mul_of_pos_left (by omega) (by decide)
 omega
theorem signZ_zero (z:Int):signZ z=0↔z=0:=by
 unfold signZ
 split
 ·simp_all
 ·split<;>simp_all
structure ColS where
 k:Nat
 out:PZ
 a:Option Addr
 cp:Nat
 off:Nat
structure ColI (n:Nat) (zs:PZ) (y:ColS):Prop where
 le:y.k≤n
 grp:GrpI zs y.k y.out
 len:y.out.length≤y.k
 off:y.k<n→y.off=y.k*3
structure GrpS where
 j:Nat
 c:Int
structure GrpJ (n k:Nat) (zs:PZ) (m:List Pw) (y:GrpS):Prop where
 pos:0<y.j
 le:k+y.j≤n
 all:∀t∈(zs.drop k).take y.j,t.2=m
 sum:y.c=coef ((zs.drop k).take y.j) m
theorem take_drop_succ {zs:PZ} {k j:Nat} {t:Int×List Pw} (ht:zs[k+j]?=some t):(zs.drop k).take (j+1)=(zs.drop k).take j++[t]:=by
 rw[List.take_add_one,List.getElem?_drop,ht]
 rfl
theorem GrpJ.start {n k:Nat} {zs:PZ} {t:Int×List Pw} (hk:k<n) (ht:zs[k]?=some t):GrpJ n k zs t.2 ⟨1,t.1⟩:=by
 have e:(zs.drop k).take 1=[t]:=by
  have:=take_drop_succ (zs:=zs) (k:=k) (j:=0) (t:=t) ht
  simpa using this
 refine⟨by simp,by simp only;omega,?_,?_⟩
 ·simp only
  rw[e]
  intro u hu
  rw[List.mem_singleton.1 hu]
 ·simp only
  rw[e]
  simp[coef]
theorem GrpJ.more {n k:Nat} {zs:PZ} {m:List Pw} {y:GrpS} (h:GrpJ n k zs m y) (hlt:k+y.j<n) {t:Int×List Pw} (ht:zs[k+y.j]?=some t) (hm:t.2=m):GrpJ n k zs m ⟨y.j+1,y.c+t.1⟩:=by
 refine⟨by simp,by simp only;omega,?_,?_⟩
 ·simp only
  rw[take_drop_succ ht]
  intro u hu
  rcases List.mem_append.1 hu with hu|hu
  ·exact h.all u hu
  ·rw[List.mem_singleton.1 hu];exact hm
 ·simp only
  rw[take_drop_succ ht,coef_app,h.sum]
  simp[coef,hm]
theorem getD_mem {α:Type} [Inhabited α] {l:List α} {i:Nat} (h:i<l.length):l.getD i default∈l:=by
 rw[List.getD_eq_getElem?_getD,List.getElem?_eq_getElem h]
 exact List.getElem_mem h
theorem len_sub {n k:Nat} (h:k≤n):((n-k:Nat):Int)=(n:Int)-k:=by omega
def termZ (t:TermM):Int×List Pw:=zT t.1
theorem zs_at {ys:List TermM} {i:Nat} (hi:i<ys.length):(ys.map termZ)[i]?=some (zT (ys.getD i default).1):=by
 rw[List.getElem?_map,List.getElem?_eq_getElem hi]
 simp[termZ,List.getD_eq_getElem?_getD,hi]
theorem cbCol:Callable Tryz.prog 77:=fun _ _=>by kernel_rfl
theorem collectM_c (xs:List TermM) (kk:Nat) (h0:0<xs.length) (hk:kk+1≤10000000) (hl:xs.length≤1000000000) (hI:∀t∈xs,IntOk kk t.1.c):
  PCalls Tryz.prog 77 [sl termM 3 xs .view] (polyZ (colZ (xs.map termZ))):=by
 refine pcalls_of_awp tyok cbCol Tryz.func77 rfl rfl ?_
 repeat(first|refine wDB ?_|refine awp_seq_k fun K hK=>?_|refine wN fun bx=>?_|(refine wH ?_;clear hK))
 refine qcallXV (G:=[]) (H2:=fun i=>[rowT termM i.1.1 i.1.2 xs]) (clone_c termM xs h0 hl) ?_
 rintro⟨⟨g,cap⟩,hcap⟩
 simp only at hcap ⊢
 repeat(first|refine wDB ?_|refine awp_seq_k fun K hK=>?_|refine wN fun bx=>?_|(refine wH ?_;clear hK))
 refine qcallX (G:=[]) (H2:=fun z=>[rowT termM g cap z.1]) (sortStable_c enc3 collect1_c behind_sw g cap xs hcap (by omega)) ?_
 rintro⟨ys,hsame,hsrt⟩
 simp only
 have hyl:ys.length=xs.length:=hsame.len
 have hperm:ys.Perm xs:=hsame.perm
 generalize hn:xs.length=n at*
 have hyI:∀t∈ys,IntOk kk t.1.c:=fun t ht=>hI t (hperm.mem_iff.1 ht)
 generalize hzs:ys.map termZ=zs
 have hzl:zs.length=n:=by rw[←hzs,List.length_map,hyl]
 have hzat:∀i,i<n→zs[i]?=some (zT (ys.getD i default).1):=fun i hi=>by rw[←hzs];exact zs_at (by omega)
 have hzm:∀t∈zs,may t.2=true:=fun t ht=>by
  rw[←hzs]at ht
  obtain⟨u,-,rfl⟩:=List.mem_map.1 ht
  exact u.2
 have hzk:∀t∈zs,ZOk kk t.1:=fun t ht=>by
  rw[←hzs]at ht
  obtain⟨u,hu,rfl⟩:=List.mem_map.1 ht
  exact intR_zok (hyI u hu)
 have hzsrt:SrtZ zs:=by
  refine List.pairwise_iff_getElem.2 fun i j hi hj hij=>?_
  have h1:=hsrt i j (Nat.zero_le _) hij (by omega)
  unfold leB behind at h1
  have h1:=of_decide_eq_false h1
  have e1:=hzat i (by omega)
  have e2:=hzat j (by omega)
  rw[List.getElem?_eq_getElem hi]at e1
  rw[List.getElem?_eq_getElem hj]at e2
  rw[Option.some.inj e1,Option.some.inj e2]
  exact Int.not_lt.1 h1
 have hfin:colZ (xs.map termZ)=colZ zs:=by
  rw[←hzs]
  exact(colZ_perm (fun t ht=>by obtain⟨u,-,rfl⟩:=List.mem_map.1 ht;exact u.2) (hperm.map termZ)).symm
 clear hsrt hperm hsame
 have hyk:∀i,i<n→IntOk kk (ys.getD i default).1.c:=fun i hi=>hyI _ (getD_mem (by omega))
 have hyl':ys.length=n:=hyl
 repeat(first|refine wDB ?_|refine awp_seq_k fun K hK=>?_|refine wN fun bx=>?_|(refine wH ?_;clear hK))
 refine awp_tok0 3 70 ?_
 refine awp_loopP (ι:={y:ColS//ColI n zs y}) (fun y=>[(0,.mslice g y.1.off (n-y.1.k) (cap-y.1.k)),(2,sl termE 3 (y.1.out.map zR) (.own y.1.a y.1.cp))])
  (fun y=>[.tok y.1.a y.1.cp (y.1.out.map zR).length 3 70,rowT termM g cap ys]) (fun y=>n-y.1.k) ⟨⟨0,[],none,0,0⟩,⟨Nat.zero_le _,GrpI.start zs,Nat.le_refl _,fun _=>rfl⟩⟩ wk qpm ?_
 rintro⟨⟨k,out,a,cp,off⟩,hle,hgrp,hol,hoff⟩
 simp only at hle hgrp hol hoff ⊢
 by_cases hlt:k<n
 rotate_left
 ·have hge:¬(((n-k:Nat)):Int)>0:=by omega
  obtain rfl:k=n:=by omega
  have hout:out=colZ zs:=GrpI.done (by rw[hzl];exact hgrp) hzm
  subst hout
  repeat(first|refine wDB ?_|refine awp_seq_k fun K hK=>?_|refine wN fun bx=>?_|(refine wH ?_;clear hK))
  refine r1 ?_
  rw[hfin]
  exact Sub.view _ _ _ _
 obtain rfl:off=k*3:=hoff hlt
 have hgt:(((n-k:Nat)):Int)>0:=by omega
 have hnk:=len_sub hle
 have hk0:=hyk k hlt
 have gA:=add2_c (ys.getD k default).1.c ⟨false,[]⟩ (hk0.mono (by omega)) ⟨fun x hx=>absurd hx List.not_mem_nil,Nat.zero_le _⟩
 rw[int0_z,Int.add_zero]at gA
 have gA':=gA.sub (vs:=[.agg (intEs (ys.getD k default).1.c),.agg [.bool false,.nils]]) (.cons (Sub.refl _) (.cons (subAgg (.cons (Sub.refl _) (.cons (Sub.nilsv _ _) .nil))) .nil))
 have hz0:=hzat k hlt
 have hJ0:=GrpJ.start hlt hz0
 simp only[zT]at hJ0
 repeat(first|refine wDB ?_|refine awp_seq_k fun K hK=>?_|refine wN fun bx=>?_|(refine wH ?_;clear hK))
 refine qiaM tyok ?_
 repeat(first|refine wDB ?_|refine awp_seq_k fun K hK=>?_|refine wN fun bx=>?_|(refine wH ?_;clear hK))
 refine qldF (cap:=cap) (sz:=3) termM ys k 0 2 ?_ ?_ (by omega) (by omega) rfl (by decide)
 ·simp
 ((repeat(first|refine wDB ?_|refine awp_seq_k fun K hK=>?_|refine wC gA' ?_|(refine wH ?_;clear hK)));refine wN fun b4=>?_;(repeat(first|refine wDB ?_|refine awp_seq_k fun K hK=>?_|refine wN fun bx=>?_|refine wC gA' ?_|(refine wH ?_;clear hK))))
 refine(have hr:∀(y:GrpS),GrpJ n k zs (ys.getD k default).1.m y→(∀t,zs[k+y.j]?=some t→t.2≠(ys.getD k default).1.m)→∀T' H',Weak T' [(0,.mslice g (k*3) (n-k) (cap-k)),(2,sl termE 3 (out.map zR) (.own a cp)),(3,.int .i64 y.j),(4,.ptr b4 0)]→
  List.Perm (α:=Ent) H' [.box b4 42 (.agg (intEs (intC y.c))),.tok a cp (out.map zR).length 3 70,rowT termM g cap ys]→K T' H':=fun y hy hb=>cutKP hK ?_;?_)
 rotate_left
 ·clear hK
  refine awp_loopP (ι:={y:GrpS//GrpJ n k zs (ys.getD k default).1.m y}) (fun y=>[(0,.mslice g (k*3) (n-k) (cap-k)),(2,sl termE 3 (out.map zR) (.own a cp)),(3,.int .i64 y.1.j),(4,.ptr b4 0)])
   (fun y=>[.box b4 42 (.agg (intEs (intC y.1.c))),.tok a cp (out.map zR).length 3 70,rowT termM g cap ys]) (fun y=>n-y.1.j) ⟨_,hJ0⟩ wk qpm ?_
  rintro⟨⟨j,c⟩,hJ⟩
  have hj1:=hJ.pos
  have hj2:=hJ.le
  simp only at hj1 hj2 ⊢
  by_cases hjn:k+j<n
  rotate_left
  ·have hjn':¬(j:Int)<(((n-k:Nat)):Int):=by omega
   repeat(first|refine wDB ?_|refine awp_seq_k fun K hK=>?_|refine wN fun bx=>?_|(refine wH ?_;clear hK))
   exact hr ⟨j,c⟩ hJ (fun t ht=>by rw[List.getElem?_eq_none (by simp only;omega)]at ht;cases ht) _ _ wk (List.Perm.refl _)
  have hjn':(j:Int)<(((n-k:Nat)):Int):=by omega
  have hzj:=hzat (k+j) hjn
  have go:=porder_c (ys.getD (k+j) default).1.m (ys.getD k default).1.m (may_short (ys.getD (k+j) default).2) (may_short (ys.getD k default).2)
  by_cases ho:ordM (ys.getD (k+j) default).1.m (ys.getD k default).1.m=0
  ·have em:=(ordM_zero (ys.getD (k+j) default).2 (ys.getD k default).2).1 ho
   have hJ2:=hJ.more hjn hzj em
   have hcz:ZOk (kk+1) c:=by
    have:=hJ.sum
    simp only at this
    rw[this]
    exact coef_zok (fun t ht=>hzk t (List.mem_of_mem_drop (List.mem_of_mem_take ht))) (by rw[List.length_take,List.length_drop];omega) _
   have gB:=add2_c (intC c) (ys.getD (k+j) default).1.c ((intC_ok hcz).mono hk) ((hyk (k+j) hjn).mono (by omega))
   rw[intC_z]at gB
   repeat(first|refine wKB ?_|refine awp_seq_k fun K hK=>?_|refine wN fun bx=>?_|(refine wH ?_;clear hK))
   refine areg_soft mixed tyok [14] [] (List.range 17) (by decide +kernel) ?_
   repeat(first|refine wDB ?_|refine awp_seq_k fun K hK=>?_|refine wN fun bx=>?_|(refine wH ?_;clear hK))
   refine qiaM tyok ?_
   repeat(first|refine wDB ?_|refine awp_seq_k fun K hK=>?_|refine wN fun bx=>?_|(refine wH ?_;clear hK))
   refine qldG (cap:=cap) (sz:=3) termM ys (k+j) 2 ?_ ?_ (by omega) (by omega) (by decide)
   ·simp
    omega
   repeat(first|refine wDB ?_|refine awp_seq_k fun K hK=>?_|refine wN fun bx=>?_|(refine wH ?_;clear hK))
   refine qiaM tyok ?_
   repeat(first|refine wDB ?_|refine awp_seq_k fun K hK=>?_|refine wN fun bx=>?_|(refine wH ?_;clear hK))
   refine qldG (cap:=cap) (sz:=3) termM ys k 2 ?_ ?_ (by omega) (by omega) (by decide)
   ·simp
   repeat(first|refine wKB ?_|refine awp_seq_k fun K hK=>?_|refine wN fun bx=>?_|refine wC go ?_|(refine wH ?_;clear hK))
   refine areg_soft mixed tyok [6] [] (List.range 8) (by decide +kernel) ?_
   repeat(first|refine wDB ?_|refine awp_seq_k fun K hK=>?_|refine wN fun bx=>?_|(refine wH ?_;clear hK))
   refine qiaM tyok ?_
   repeat(first|refine wDB ?_|refine awp_seq_k fun K hK=>?_|refine wN fun bx=>?_|(refine wH ?_;clear hK))
   refine qldF (cap:=cap) (sz:=3) termM ys (k+j) 0 2 ?_ ?_ (by omega) (by omega) rfl (by decide)
   ·simp
    omega
   repeat(first|refine wDB ?_|refine awp_seq_k fun K hK=>?_|refine wN fun bx=>?_|refine wC gB ?_|(refine wH ?_;clear hK))
   exact⟨⟨⟨j+1,c+(ys.getD (k+j) default).1.c.z⟩,hJ2⟩,wk,qpm,by simp only;omega⟩
  ·repeat(first|refine wKB ?_|refine awp_seq_k fun K hK=>?_|refine wN fun bx=>?_|(refine wH ?_;clear hK))
   refine areg_soft mixed tyok [14] [] (List.range 17) (by decide +kernel) ?_
   repeat(first|refine wDB ?_|refine awp_seq_k fun K hK=>?_|refine wN fun bx=>?_|(refine wH ?_;clear hK))
   refine qiaM tyok ?_
   repeat(first|refine wDB ?_|refine awp_seq_k fun K hK=>?_|refine wN fun bx=>?_|(refine wH ?_;clear hK))
   refine qldG (cap:=cap) (sz:=3) termM ys (k+j) 2 ?_ ?_ (by omega) (by omega) (by decide)
   ·simp
    omega
   repeat(first|refine wDB ?_|refine awp_seq_k fun K hK=>?_|refine wN fun bx=>?_|(refine wH ?_;clear hK))
   refine qiaM tyok ?_
   repeat(first|refine wDB ?_|refine awp_seq_k fun K hK=>?_|refine wN fun bx=>?_|(refine wH ?_;clear hK))
   refine qldG (cap:=cap) (sz:=3) termM ys k 2 ?_ ?_ (by omega) (by omega) (by decide)
   ·simp
   repeat(first|refine wDB ?_|refine awp_seq_k fun K hK=>?_|refine wN fun bx=>?_|refine wC go ?_|(refine wH ?_;clear hK))
   refine hr ⟨j,c⟩ hJ (fun t ht=>?_) _ _ wk (List.Perm.refl _)
   simp only at ht
   rw[hzj]at ht
   cases ht
   exact fun e=>ho ((ordM_zero (ys.getD (k+j) default).2 (ys.getD k default).2).2 e)
 clear hK
 obtain⟨j,c⟩:=y
 have hj1:=hy.pos
 have hj2:=hy.le
 have hcs:=hy.sum
 simp only at hj1 hj2 hcs hb ⊢
 have hcz:ZOk (kk+1) c:=by
  rw[hcs]
  exact coef_zok (fun t ht=>hzk t (List.mem_of_mem_drop (List.mem_of_mem_take ht))) (by rw[List.length_take,List.length_drop];omega) _
 have gS:=sign1_c (intC c) ((intC_ok hcz).mono (by omega))
 rw[intC_z]at gS
 have hstep:=hgrp.step (n:=j) (m:=(ys.getD k default).1.m) (c:=c) hzsrt hzm hj1 (by omega) hy.all hcs hb
 have e1:n-k-((j:Int)).toNat=n-(k+j):=by rw[Int.toNat_natCast];omega
 have e2:cap-k-((j:Int)).toNat=cap-(k+j):=by rw[Int.toNat_natCast];omega
 have hoff2:k+j<n→(if((j:Int)).toNat=cap-k then k*3 else k*3+((j:Int)).toNat*3)=(k+j)*3:=fun h=>by
  rw[Int.toNat_natCast,if_neg (by omega)]
  omega
 by_cases hc0:c=0
 ·have hsg:signZ c=0:=(signZ_zero c).2 hc0
  rw[if_pos hc0]at hstep
  repeat(first|refine wDB ?_|refine awp_seq_k fun K hK=>?_|refine wN fun bx=>?_|refine wC gS ?_|(refine wH ?_;clear hK))
  refine qslL tyok (a:=(j:Int)) (m:=n-k) (cap:=cap-k) ?_ ⟨by omega,by omega,by omega⟩
  rw[e1,e2]
  repeat(first|refine wDB ?_|refine awp_seq_k fun K hK=>?_|refine wN fun bx=>?_|(refine wH ?_;clear hK))
  exact⟨⟨⟨k+j,out,a,cp,_⟩,⟨by simp only;omega,hstep,by simp only;omega,hoff2⟩⟩,wk,qpm,by simp only;omega⟩
 ·have hsg:¬signZ c=0:=fun h=>hc0 ((signZ_zero c).1 h)
  rw[if_neg hc0]at hstep
  have gC:=cloneM_c (ys.getD k default).1.m (by have:=may_short (ys.getD k default).2;omega)
  have hol2:(out.map zR).length≤1000000000:=by rw[List.length_map];omega
  repeat(first|refine wKB ?_|refine awp_seq_k fun K hK=>?_|refine wN fun bx=>?_|refine wC gS ?_|(refine wH ?_;clear hK))
  refine areg_soft mixed tyok [6] [(6,[])] (List.range 11) (by decide +kernel) ?_
  repeat(first|refine wDB ?_|refine awp_seq_k fun K hK=>?_|refine wN fun bx=>?_|(refine wH ?_;clear hK))
  refine qiaM tyok ?_
  repeat(first|refine wDB ?_|refine awp_seq_k fun K hK=>?_|refine wN fun bx=>?_|(refine wH ?_;clear hK))
  refine qldG (cap:=cap) (sz:=3) termM ys k 2 ?_ ?_ (by omega) (by omega) (by decide)
  ·simp
  repeat(first|refine wDB ?_|refine awp_seq_k fun K hK=>?_|refine wN fun bx=>?_|refine wC gC ?_|(refine wH ?_;clear hK))
  refine qapp tyok termE (out.map zR) (zR (c,(ys.getD k default).1.m)) (SubL.refl _) ?_ fun ad cp2=>?_
  ·simp only
   omega
  rw[show out.map zR++[zR (c,(ys.getD k default).1.m)]=(out++[(c,(ys.getD k default).1.m)]).map zR by simp]
  repeat(first|refine wDB ?_|refine awp_seq_k fun K hK=>?_|refine wN fun bx=>?_|(refine wH ?_;clear hK))
  refine qslL tyok (a:=(j:Int)) (m:=n-k) (cap:=cap-k) ?_ ⟨by omega,by omega,by omega⟩
  rw[e1,e2]
  repeat(first|refine wDB ?_|refine awp_seq_k fun K hK=>?_|refine wN fun bx=>?_|(refine wH ?_;clear hK))
  exact⟨⟨⟨k+j,out++[(c,(ys.getD k default).1.m)],ad,cp2,_⟩,⟨by simp only;omega,hstep,by simp only[List.length_append,List.length_cons,List.length_nil];omega,hoff2⟩⟩,wk,qpm,by simp only;omega⟩
end Go.Proofs.YtamgilppehibeaaGreatDoor
namespace Go.Proofs.YtamgilppehibeaaGreatDoor
open Go.Ab
structure TermOk (k:Nat) (t:TermR):Prop where
 c:IntOk k t.c
 m:t.m.length≤400000
structure PolyOk (k:Nat) (l:List TermR):Prop where
 len:l.length≤400000000
 at':∀t∈l,TermOk k t
theorem TermOk.mono {k n:Nat} {t:TermR} (h:TermOk k t) (hk:k≤n):TermOk n t:=⟨h.c.mono hk,h.m⟩
theorem PolyOk.mono {k n:Nat} {l:List TermR} (h:PolyOk k l) (hk:k≤n):PolyOk n l:=⟨h.len,fun t ht=>(h.at' t ht).mono hk⟩
theorem PolyOk.get {k:Nat} {l:List TermR} (h:PolyOk k l) {i:Nat} (hi:i<l.length):TermOk k (l.getD i default):=h.at' _ (getD_mem hi)
def mayZ (x:IntR):Bool:=match x.mag.getLast? with
 |none=> !x.neg
 |some d=>decide (d≠0)
theorem mayZ_C {k:Nat} {x:IntR} (h:IntOk k x):mayZ x=true↔x=intC x.z:=by
 obtain⟨neg,mag⟩:=x
 constructor
 ·intro hm
  unfold mayZ at hm
  simp only at hm
  cases hl:mag.getLast? with
  |none=>
   rw[hl]at hm
   have hm:(!neg)=true:=hm
   obtain rfl:=List.getLast?_eq_none_iff.1 hl
   cases neg
   ·rfl
   ·cases hm
  |some d=>
   rw[hl]at hm
   have hd:d≠0:=of_decide_eq_true hm
   have hne:mag≠[]:=fun e=>by rw[e]at hl;cases hl
   have hlast:∀h:mag≠[],mag.getLast h≠0:=fun h=>by
    rw[List.getLast?_eq_some_getLast h]at hl
    cases hl
    exact hd
   have e:=digs_val B32_two h.lt hlast
   have hv:valB B32 mag≠0:=fun h0=>by
    rw[h0]at e
    exact hne e.symm
   unfold intC IntR.z
   cases neg
   ·simp only[Bool.false_eq_true,if_false,Int.natAbs_natCast,e]
    have:decide (((valB B32 mag:Nat):Int)<0)=false:=decide_eq_false (by omega)
    rw[this]
   ·simp only[if_true,Int.natAbs_neg,Int.natAbs_natCast,e]
    have:decide (-((valB B32 mag:Nat):Int)<0)=true:=decide_eq_true (by omega)
    rw[this]
 ·intro hx
  have hmag:mag=digs B32 (IntR.z ⟨neg,mag⟩).natAbs:=congrArg IntR.mag hx
  have hneg:neg=decide ((IntR.z ⟨neg,mag⟩)<0):=congrArg IntR.neg hx
  generalize (IntR.z ⟨neg,mag⟩)=z at hmag hneg
  unfold mayZ
  simp only
  by_cases h0:z=0
  ·subst h0
   have:mag=[]:=hmag
   subst this
   rw[hneg]
   rfl
  ·have hne:digs B32 z.natAbs≠[]:=fun e=>by
    have:=(digs_nil B32_two).1 e
    omega
   rw[hmag,List.getLast?_eq_some_getLast hne]
   exact decide_eq_true (digs_last B32_two _ hne)
def mayT (t:TermR):Bool:=decide (t.c.z≠0)&&mayZ t.c&&may t.m
def okAt (p:List TermR) (i:Nat):Bool:=mayT (p.getD i default)&&(decide (i=0) || decide (0<ordM (p.getD (i-1) default).m (p.getD i default).m))
def mayP (p:List TermR):Bool:=(List.range p.length).all (okAt p)
theorem mayP_iff (p:List TermR):mayP p=true↔∀i,i<p.length→okAt p i=true:=by
 unfold mayP
 rw[List.all_eq_true]
 exact⟨fun h i hi=>h i (List.mem_range.2 hi),fun h i hi=>h i (List.mem_range.1 hi)⟩
theorem mayP_hit {p:List TermR} {i:Nat} (hi:i<p.length) (h:okAt p i=false):mayP p=false:=by
 rw[Bool.eq_false_iff]
 intro e
 have:=(mayP_iff p).1 e i hi
 rw[h]at this
 cases this
end Go.Proofs.YtamgilppehibeaaGreatDoor
namespace Go.Proofs.YtamgilppehibeaaGreatDoor
open Go.Ab
theorem cbWMay:Callable Tryz.prog 63:=fun _ _=>by kernel_rfl
theorem wmay_c (x:IntR) (h:x.mag.length≤1000000000):PCalls Tryz.prog 63 [.agg (intEs x)] (.bool (mayZ x)):=by
 refine pcalls_of_awp tyok cbWMay Tryz.func63 rfl rfl ?_
 obtain⟨neg,mag⟩:=x
 simp only at h
 unfold mayZ
 simp only
 by_cases hl:mag=[]
 ·subst hl
  have h0:(([]:List Nat).length:Int)=0:=rfl
  ((repeat(first|refine wDB ?_|refine awp_seq_k fun K hK=>?_|(refine wH ?_;clear hK)));refine wN fun b1=>?_;(repeat(first|refine wDB ?_|refine awp_seq_k fun K hK=>?_|refine wN fun bx=>?_|(refine wH ?_;clear hK))))
  refine r1 ?_
  exact Sub.refl _
 ·have hp:=List.length_pos_iff.2 hl
  have e:mag.getLast?=some (mag.getD (mag.length-1) 0):=by
   rw[List.getLast?_eq_getElem?,List.getD_eq_getElem?_getD,List.getElem?_eq_getElem (by omega)]
   rfl
  rw[e]
  have ei:((mag.length:Int)-1).toNat=mag.length-1:=by omega
  ((repeat(first|refine wDB ?_|refine awp_seq_k fun K hK=>?_|(refine wH ?_;clear hK)));refine wN fun b1=>?_;(repeat(first|refine wDB ?_|refine awp_seq_k fun K hK=>?_|refine wN fun bx=>?_|(refine wH ?_;clear hK))))
  refine r1 ?_
  refine Sub.of_eq (congrArg AV.bool ?_)
  rw[ei]
  generalize mag.getD (mag.length-1) 0=d
  by_cases hz:d=0
  ·subst hz
   rfl
  ·have hz':¬(d:Int)=0:=by omega
   exact(bne_iff_ne.2 hz').trans (decide_eq_true hz).symm
theorem cbPMay:Callable Tryz.prog 17:=fun _ _=>by kernel_rfl
theorem pmay_c (p:List TermR) (h:PolyOk 100000000 p):PCalls Tryz.prog 17 [polyV p] (.bool (mayP p)):=by
 refine pcalls_of_awp tyok cbPMay Tryz.func17 rfl rfl ?_
 have hl:=h.len
 repeat(first|refine wD ?_|refine awp_seq_k fun K hK=>?_|refine wN fun bx=>?_|(refine wH ?_;clear hK))
 refine awp_loop0 (ι:={i:Nat//i≤p.length∧∀j,j<i→okAt p j=true}) (fun i=>[(0,polyV p),(5,polyV p),(6,.int .i64 p.length),(7,.int .i64 i.1)]) (fun _=>[]) (fun i=>p.length-i.1) ⟨0,Nat.zero_le _,fun j hj=>absurd hj (by omega)⟩ wk dp ?_
 rintro⟨i,hi,hok⟩
 simp only at hi hok ⊢
 by_cases hlt:i<p.length
 rotate_left
 ·have hge:¬(i:Int)<p.length:=by omega
  have hmp:mayP p=true:=(mayP_iff p).2 fun j hj=>hok j (by omega)
  repeat(first|refine wDB ?_|refine awp_seq_k fun K hK=>?_|refine wN fun bx=>?_|(refine wH ?_;clear hK))
  refine r1 ?_
  exact Sub.of_eq (by rw[hmp])
 have hlt':(i:Int)<p.length:=by omega
 have ht:=h.get hlt
 have gs:=sign1_c (p.getD i default).c ht.c
 have gw:=wmay_c (p.getD i default).c (Nat.le_trans ht.c.len (by decide))
 have gm:=may_c (p.getD i default).m (Nat.le_trans ht.m (by decide))
 have hsz:=signZ_zero (p.getD i default).c.z
 ((repeat(first|refine wKB ?_|refine awp_seq_k fun K hK=>?_|(refine wH ?_;clear hK)));refine wN fun b4=>?_;(repeat(first|refine wKB ?_|refine awp_seq_k fun K hK=>?_|refine wN fun bx=>?_|(refine wH ?_;clear hK))))
 refine awp_freeze [] (s:=4) rfl rfl ?_
 have bad:okAt p i=false→Sub (.bool false) (.bool (mayP p)):=fun e=>Sub.of_eq (by rw[mayP_hit hlt e])
 by_cases h1:signZ (p.getD i default).c.z=0
 ·refine areg_soft mixed tyok [2,7,13,28] [] (List.range 32) (by decide +kernel) ?_
  repeat(first|refine wDB ?_|refine awp_seq_k fun K hK=>?_|refine wN fun bx=>?_|refine wC gs ?_|(refine wH ?_;clear hK))
  refine r1 ?_
  refine bad ?_
  unfold okAt mayT
  rw[decide_eq_false (by simpa using hsz.1 h1)]
  rfl
 have hz1:decide ((p.getD i default).c.z≠0)=true:=decide_eq_true fun e=>h1 (hsz.2 e)
 cases h2:mayZ (p.getD i default).c with
 |false=>
  rw[h2]at gw
  refine areg_soft mixed tyok [2,7,13,28] [] (List.range 32) (by decide +kernel) ?_
  repeat(first|refine wDB ?_|refine awp_seq_k fun K hK=>?_|refine wN fun bx=>?_|refine wC gs ?_|refine wC gw ?_|(refine wH ?_;clear hK))
  refine r1 ?_
  refine bad ?_
  unfold okAt mayT
  rw[hz1,h2]
  rfl
 |true=>
 rw[h2]at gw
 cases h3:may (p.getD i default).m with
 |false=>
  have gm':=(show mayF 0 (p.getD i default).m=false from h3)▸gm
  refine areg_soft mixed tyok [2,7,13,28] [] (List.range 32) (by decide +kernel) ?_
  repeat(first|refine wDB ?_|refine awp_seq_k fun K hK=>?_|refine wN fun bx=>?_|refine wC gs ?_|refine wC gw ?_|refine wC gm' ?_|(refine wH ?_;clear hK))
  refine r1 ?_
  refine bad ?_
  unfold okAt mayT
  rw[hz1,h2,h3]
  rfl
 |true=>
 have gm':=(show mayF 0 (p.getD i default).m=true from h3)▸gm
 by_cases hi0:i=0
 ·subst hi0
  refine areg_soft mixed tyok [2,7,13,28] [] (List.range 32) (by decide +kernel) ?_
  repeat(first|refine wDB ?_|refine awp_seq_k fun K hK=>?_|refine wN fun bx=>?_|refine wC gs ?_|refine wC gw ?_|refine wC gm' ?_|(refine wH ?_;clear hK))
  refine⟨⟨1,hlt,fun j hj=>?_⟩,wk,dp,by simp only;omega⟩
  obtain rfl:j=0:=by omega
  unfold okAt mayT
  rw[hz1,h2,h3]
  rfl
 have hi0':(i:Int)>0:=by omega
 have ht2:=h.get (show i-1<p.length by omega)
 have go:=porder_c (p.getD (i-1) default).m (p.getD i default).m ht2.m ht.m
 have e1:((i:Int)-1).toNat=i-1:=by omega
 have go':PCalls Tryz.prog 65 [mono (p.getD ((i:Int)-1).toNat default).m,mono (p.getD i default).m] (.int .i64 (ordM (p.getD (i-1) default).m (p.getD i default).m)):=by rw[e1];exact go
 by_cases h4:ordM (p.getD (i-1) default).m (p.getD i default).m≤0
 ·refine areg_soft mixed tyok [2,7,13,28] [] (List.range 32) (by decide +kernel) ?_
  repeat(first|refine wDB ?_|refine awp_seq_k fun K hK=>?_|refine wN fun bx=>?_|refine wC gs ?_|refine wC gw ?_|refine wC gm' ?_|refine wC go' ?_|(refine wH ?_;clear hK))
  refine r1 ?_
  refine bad ?_
  unfold okAt mayT
  rw[hz1,h2,h3,decide_eq_false hi0,decide_eq_false (by omega)]
  rfl
 ·refine areg_soft mixed tyok [2,7,13,28] [] (List.range 32) (by decide +kernel) ?_
  repeat(first|refine wDB ?_|refine awp_seq_k fun K hK=>?_|refine wN fun bx=>?_|refine wC gs ?_|refine wC gw ?_|refine wC gm' ?_|refine wC go' ?_|(refine wH ?_;clear hK))
  refine⟨⟨i+1,hlt,fun j hj=>?_⟩,wk,dp,by simp only;omega⟩
  by_cases e:j=i
  ·subst e
   unfold okAt mayT
   rw[hz1,h2,h3,decide_eq_false hi0,decide_eq_true (by omega)]
   rfl
  ·exact hok j (by omega)
end Go.Proofs.YtamgilppehibeaaGreatDoor
namespace Go.Proofs.YtamgilppehibeaaGreatDoor
open Go.Ab
theorem sl_lift (xs:List TermM) (o:Ab.Own):Sub (sl termE 3 (xs.map (·.1)) o) (sl termM 3 xs o):=by
 unfold sl
 rw[List.length_map]
 refine Sub.el fun i hi=>?_
 simp[List.getD_eq_getElem?_getD,hi,termM]
theorem lift_ex:∀{l:List TermR},(∀t∈l,may t.m=true)→∃xs:List TermM,xs.map (·.1)=l
 |[],_=>⟨[],rfl⟩
 |t::l,h=>by
  obtain⟨xs,e⟩:=lift_ex fun u hu=>h u (List.mem_cons_of_mem _ hu)
  exact⟨⟨t,h t (List.mem_cons_self ..)⟩::xs,by rw[List.map_cons,e]⟩
theorem collect0_c:PCalls Tryz.prog 77 [sl termE 3 [] .view] (polyZ []):=by
 refine pcalls_of_awp tyok cbCol Tryz.func77 rfl rfl ?_
 have g1:=clone_e termE
 have g2:=sortStable_e termE 117
 have h0:((([]:List TermR).length:Nat):Int)=0:=rfl
 repeat(first|refine wDB ?_|refine awp_seq_k fun K hK=>?_|refine wN fun bx=>?_|refine wC g1 ?_|refine wC g2 ?_|(refine wH ?_;clear hK))
 refine awp_loop0 (ι:=Unit) (fun _=>[(0,sl termE 3 [] .view),(2,.nils)]) (fun _=>[]) (fun _=>0) () wk dp ?_
 rintro⟨⟩
 repeat(first|refine wDB ?_|refine awp_seq_k fun K hK=>?_|refine wN fun bx=>?_|(refine wH ?_;clear hK))
 refine r1 ?_
 exact Sub.nilsv _ _
theorem collect_c (l:List TermR) (k:Nat) (hk:k+1≤10000000) (hl:l.length≤1000000000) (hm:∀t∈l,may t.m=true) (hI:∀t∈l,IntOk k t.c):
  PCalls Tryz.prog 77 [sl termE 3 l .view] (polyZ (colZ (l.map zT))):=by
 by_cases h0:l=[]
 ·subst h0
  exact collect0_c
 obtain⟨xs,rfl⟩:=lift_ex hm
 have hpos:0<xs.length:=List.length_pos_iff.2 fun e=>h0 (by rw[e];rfl)
 rw[List.length_map]at hl
 have h1:=collectM_c xs k hpos hk hl fun t ht=>hI t.1 (List.mem_map.2 ⟨t,ht,rfl⟩)
 rw[List.map_map]
 exact h1.sub (.cons (sl_lift xs _) .nil)
def sameT8 (a b:TermR):Bool:=(a.c.neg==b.c.neg)&&((a.c.mag==b.c.mag)&&(a.m==b.m))
def sameP8:List TermR→List TermR→Bool
 |[],[]=>true
 |a::l,b::r=>sameT8 a b&&sameP8 l r
 |_,_=>false
theorem sameT8_iff (a b:TermR):sameT8 a b=true↔a=b:=by
 obtain⟨⟨n,m⟩,p⟩:=a
 obtain⟨⟨n',m'⟩,p'⟩:=b
 simp only[sameT8,Bool.and_eq_true,beq_iff_eq,TermR.mk.injEq,IntR.mk.injEq]
 exact⟨fun h=>⟨⟨h.1,h.2.1⟩,h.2.2⟩,fun h=>⟨h.1.1,h.1.2,h.2⟩⟩
theorem sameP8_iff:∀a b:List TermR,sameP8 a b=true↔a=b
 |[],[]=>by simp[sameP8]
 |a::l,b::r=>by simp[sameP8,sameT8_iff,sameP8_iff l r]
 |[],_::_=>by simp[sameP8]
 |_::_,[]=>by simp[sameP8]
theorem sameP8_no {a b:List TermR} (h:a≠b):sameP8 a b=false:=Bool.eq_false_iff.2 fun e=>h ((sameP8_iff a b).1 e)
theorem cbNum8:Callable Tryz.prog 85:=fun _ _=>by kernel_rfl
theorem pnumber_c (x:IntR) (k:Nat) (hk:k+1≤10000000) (h:IntOk k x):PCalls Tryz.prog 85 [.agg (intEs x)] (polyZ (colZ [(x.z,[])])):=by
 refine pcalls_of_awp tyok cbNum8 Tryz.func85 rfl rfl ?_
 have g:=collect_c [⟨x,[]⟩] k hk (by simp) (fun t ht=>by rw[List.mem_singleton.1 ht];rfl) (fun t ht=>by rw[List.mem_singleton.1 ht];exact h)
 have g1:PCalls Tryz.prog 77 [.slice 3 1 (chunk [.bool x.neg,sl limE 1 x.mag .view,.nils] 3) .full] (polyZ (colZ [(x.z,[])])):=by
  refine g.sub (.cons ?_ .nil)
  refine(Sub.view _ _ _ _).trans (Sub.els fun i hi=>?_)
  have e:i=0:=by omega
  subst e
  exact .cons (Sub.refl _) (.cons (Sub.refl _) (.cons (Sub.nilsv _ _) .nil))
 clear g
 unfold intEs
 repeat(first|refine wDB ?_|refine awp_seq_k fun K hK=>?_|refine wN fun bx=>?_|refine wC g1 ?_|(refine wH ?_;clear hK))
 refine r1 ?_
 exact Sub.refl _
end Go.Proofs.YtamgilppehibeaaGreatDoor
namespace Go.Proofs.YtamgilppehibeaaGreatDoor
open Go.Ab
def polyE (p:List TermR):List AV:=[polyV p]
abbrev polysV (ps:List (List TermR)):AV:=sl polyE 1 ps .view
structure PolysOk (ps:List (List TermR)):Prop where
 len:ps.length≤1000000000
 at':∀p∈ps,PolyOk 100000000 p
theorem PolysOk.get {ps:List (List TermR)} (h:PolysOk ps) {i:Nat} (hi:i<ps.length):PolyOk 100000000 (ps.getD i default):=h.at' _ (getD_mem hi)
theorem cbPAll:Callable Tryz.prog 76:=fun _ _=>by kernel_rfl
theorem pall_c (ps:List (List TermR)) (h:PolysOk ps):PCalls Tryz.prog 76 [polysV ps] (.bool (ps.all mayP)):=by
 refine pcalls_of_awp tyok cbPAll Tryz.func76 rfl rfl ?_
 have hl:=h.len
 repeat(first|refine wDB ?_|refine awp_seq_k fun K hK=>?_|refine wN fun bx=>?_|(refine wH ?_;clear hK))
 refine awp_loop0 (ι:={i:Nat//i≤ps.length∧∀j,j<i→mayP (ps.getD j default)=true}) (fun i=>[(0,polysV ps),(5,polysV ps),(6,.int .i64 ps.length),(7,.int .i64 i.1)]) (fun _=>[]) (fun i=>ps.length-i.1) ⟨0,Nat.zero_le _,fun j hj=>absurd hj (by omega)⟩ wk dp ?_
 rintro⟨i,hi,hs⟩
 simp only at hi hs ⊢
 by_cases hlt:i<ps.length
 rotate_left
 ·have hge:¬(i:Int)<ps.length:=by omega
  repeat(first|refine wDB ?_|refine awp_seq_k fun K hK=>?_|refine wN fun bx=>?_|(refine wH ?_;clear hK))
  refine r1 ?_
  refine Sub.of_eq (congrArg AV.bool (List.all_eq_true.2 fun p hp=>?_).symm)
  obtain⟨j,hj,e⟩:=List.getElem_of_mem hp
  have:=hs j (by omega)
  rw[List.getD_eq_getElem?_getD,List.getElem?_eq_getElem hj]at this
  exact e▸this
 have hlt':(i:Int)<ps.length:=by omega
 have g:=pmay_c (ps.getD i default) (h.get hlt)
 simp only[polysV]at*
 cases hm:mayP (ps.getD i default)with
 |false=>
  rw[hm]at g
  repeat(first|refine wDB ?_|refine awp_seq_k fun K hK=>?_|refine wN fun bx=>?_|refine wC g ?_|(refine wH ?_;clear hK))
  refine r1 ?_
  exact Sub.of_eq (congrArg AV.bool (List.all_eq_false.2 ⟨_,getD_mem hlt,by rw[hm];decide⟩).symm)
 |true=>
  rw[hm]at g
  repeat(first|refine wDB ?_|refine awp_seq_k fun K hK=>?_|refine wN fun bx=>?_|refine wC g ?_|(refine wH ?_;clear hK))
  refine⟨⟨i+1,hlt,fun j hj=>?_⟩,wk,dp,by simp only;omega⟩
  by_cases e:j=i
  ·rw[e];exact hm
  ·exact hs j (by omega)
theorem rowS_view {α:Type} [Inhabited α] (f:α→List AV) (sz:Nat) {g n cap:Nat} {xs:List α} (_:0<sz) (hn:n=xs.length) (hc:n≤cap) (hl:∀x,(f x).length=sz):SubH g (cap*sz) (rowEl f sz xs) (.mslice g 0 n cap) (sl f sz xs .view):=by
 subst hn
 refine SubH.row (Nat.mul_le_mul_right _ hc) hc (fun i _=>hl _) fun i j v hi hv=>?_
 have hj:j<sz:=by
  rw[←hl (xs.getD i default)]
  exact(List.getElem?_eq_some_iff.1 hv).1
 have hx:xs[i]?=some (xs.getD i default):=by rw[List.getD_eq_getElem?_getD,List.getElem?_eq_getElem hi];rfl
 rw[rowEl_at hx hj,List.getD_eq_getElem?_getD,hv]
 rfl
theorem frozenS {α:Type} [Inhabited α] {P:Program} {fn:FuncId} {vs:List AV} (f:α→List AV) (sz:Nat) {e:TypeId} (xs:List α) (hp:0<sz) (hl:∀x,(f x).length=sz)
  (h:ACalls P fn vs [] fun r H'=>∃i:{y:Nat×Nat//xs.length≤y.2},r=.ret (.mslice i.1.1 0 xs.length i.1.2)∧H'=[rowS i.1.1 e f sz i.1.2 xs]):PCalls P fn vs (sl f sz xs .view):=by
 refine⟨h.1,fun st w xs' hc hx hg=>(h.2 st w xs' hc hx hg).mono fun e w' hp=>?_⟩
 cases e with
 |outgrown=>exact hp.elim
 |returned v=>
  obtain⟨st',r,H2,h1,h2,⟨⟨g,cap⟩,hcap⟩,rfl,rfl⟩:=hp
  unfold rowS at h1
  rw[rowVec_eq]at h1
  obtain⟨st2,c1,k1,hh⟩:=Conc.freezeM (G1:=[]) (G2:=[]) h1
  exact⟨st2,.ret _,[],c1,rowS_view f sz (by assumption) rfl hcap hl st2 w' hh _ (Rep.mono k1 h2),rfl,rfl⟩
 |panicked v=>
  obtain⟨st',r,H2,h1,h2,i,rfl,rfl⟩:=hp
  exact h2.elim
theorem cbGrow8:Callable Tryz.prog 119:=fun _ _=>by kernel_rfl
theorem grow0_c:PCalls Tryz.prog 119 [.nils,.int .i64 0] .nils:=by
 refine pcalls_of_awp tyok cbGrow8 Tryz.func119 rfl rfl ?_
 repeat(first|refine wDB ?_|refine awp_seq_k fun K hK=>?_|refine wN fun bx=>?_|(refine wH ?_;clear hK))
 refine qcap0 tyok ?_
 repeat(first|refine wDB ?_|refine awp_seq_k fun K hK=>?_|refine wN fun bx=>?_|(refine wH ?_;clear hK))
 refine r1 ?_
 exact Sub.refl _
theorem grow_c (n:Nat) (h0:0<n) (hn:n≤1000000000):ACalls Tryz.prog 119 [.nils,.int .i64 n] []
  (fun r H'=>∃i:{y:Nat×Nat//n≤y.2},r=.ret (.mslice i.1.1 0 0 i.1.2)∧H'=[rowT termE i.1.1 i.1.2 []]):=by
 refine acalls_of_awp tyok cbGrow8 Tryz.func119 rfl rfl ?_
 have h0':(0:Int)<n:=by omega
 repeat(first|refine wDB ?_|refine awp_seq_k fun K hK=>?_|refine wN fun bx=>?_|(refine wH ?_;clear hK))
 refine qcap0 tyok ?_
 repeat(first|refine wDB ?_|refine awp_seq_k fun K hK=>?_|refine wN fun bx=>?_|(refine wH ?_;clear hK))
 refine qcap0 tyok ?_
 rw[show(n:Int)-(0-0)=n by omega]
 repeat(first|refine wDB ?_|refine awp_seq_k fun K hK=>?_|refine wN fun bx=>?_|(refine wH ?_;clear hK))
 refine qsln tyok ?_
 repeat(first|refine wDB ?_|refine awp_seq_k fun K hK=>?_|refine wN fun bx=>?_|(refine wH ?_;clear hK))
 refine qappZ tyok termE (n:=n) (fun g cap g1 _=>?_) h0 ?_
 ·repeat(first|refine wDB ?_|refine awp_seq_k fun K hK=>?_|refine wN fun bx=>?_|(refine wH ?_;clear hK))
  refine qslH tyok ?_
  repeat(first|refine wDB ?_|refine awp_seq_k fun K hK=>?_|refine wN fun bx=>?_|(refine wH ?_;clear hK))
  exact fnQ_ret 0 rfl (.tmp rfl .nil) (Sub.refl _) ⟨⟨(g,cap),g1⟩,rfl,rfl⟩
 ·constructor
  ·have:n*56≤1000000000*56:=Nat.mul_le_mul_right _ hn
   exact Nat.le_trans this (by decide)
  ·omega
theorem flat_step {α:Type} {ps:List (List α)} {i:Nat} (hi:i<ps.length):(ps.take (i+1)).flatten=(ps.take i).flatten++ps.getD i []:=by
 rw[List.take_add_one,List.flatten_append,List.getD_eq_getElem?_getD,List.getElem?_eq_getElem hi]
 simp
theorem flat_le {α:Type} (ps:List (List α)) (i:Nat):(ps.take i).flatten.length≤ps.flatten.length:=by
 have h:(ps.take i).flatten.length+(ps.drop i).flatten.length=ps.flatten.length:=by
  rw[←List.length_append,←List.flatten_append,List.take_append_drop]
 omega
theorem cbConcat8:Callable Tryz.prog 78:=fun _ _=>by kernel_rfl
theorem concat_o (ps:List (List TermR)) (hl:ps.length≤1000000000) (h0:0<ps.flatten.length) (hn:ps.flatten.length≤1000000000):ACalls Tryz.prog 78 [polysV ps] []
  (fun r H'=>∃i:{y:Nat×Nat//ps.flatten.length≤y.2},r=.ret (.mslice i.1.1 0 ps.flatten.length i.1.2)∧H'=[rowT termE i.1.1 i.1.2 ps.flatten]):=by
 refine acalls_of_awp tyok cbConcat8 Tryz.func78 rfl rfl ?_
 unfold polysV polyE
 repeat(first|refine wDB ?_|refine awp_seq_k fun K hK=>?_|refine wN fun bx=>?_|(refine wH ?_;clear hK))
 refine awp_loop0 (ι:={i:Nat//i≤ps.length}) (fun i=>[(0,sl (fun p:List TermR=>[polyV p]) 1 ps .view),(3,.int .i64 (ps.take i.1).flatten.length),(9,sl (fun p:List TermR=>[polyV p]) 1 ps .view),(10,.int .i64 ps.length),(11,.int .i64 i.1)]) (fun _=>[]) (fun i=>ps.length-i.1) ⟨0,Nat.zero_le _⟩ wk dp ?_
 rintro⟨i,hi⟩
 simp only at hi ⊢
 by_cases hlt:i<ps.length
 ·have hlt':(i:Int)<ps.length:=by omega
  have hs:(ps.take (i+1)).flatten=(ps.take i).flatten++ps.getD ((i:Int)).toNat default:=flat_step hlt
  have e:((ps.take i).flatten.length:Int)+(ps.getD ((i:Int)).toNat default).length=(ps.take (i+1)).flatten.length:=by rw[hs,List.length_append];omega
  have hle:=flat_le ps (i+1)
  repeat(first|refine wDB ?_|refine awp_seq_k fun K hK=>?_|refine wN fun bx=>?_|(refine wH ?_;clear hK))
  rw[e]
  exact⟨⟨i+1,hlt⟩,wk,dp,by simp only;omega⟩
 have hge:¬(i:Int)<ps.length:=by omega
 obtain rfl:i=ps.length:=by omega
 rw[List.take_length]
 repeat(first|refine wDB ?_|refine awp_seq_k fun K hK=>?_|refine wN fun bx=>?_|(refine wH ?_;clear hK))
 refine qcallXV (G:=[]) (H2:=fun i=>[rowT termE i.1.1 i.1.2 []]) (grow_c _ h0 hn) ?_
 rintro⟨⟨g,cap⟩,hcap⟩
 simp only at hcap ⊢
 repeat(first|refine wDB ?_|refine awp_seq_k fun K hK=>?_|refine wN fun bx=>?_|(refine wH ?_;clear hK))
 refine awp_loop0 (ι:={i:Nat//i≤ps.length}) (fun i=>[(6,.mslice g 0 (ps.take i.1).flatten.length cap),(25,sl (fun p:List TermR=>[polyV p]) 1 ps .view),(26,.int .i64 ps.length),(27,.int .i64 i.1)]) (fun i=>[rowT termE g cap (ps.take i.1).flatten]) (fun i=>ps.length-i.1) ⟨0,Nat.zero_le _⟩ wk ⟨0,rfl⟩ ?_
 rintro⟨i,hi⟩
 simp only at hi ⊢
 by_cases hlt:i<ps.length
 ·have hlt':(i:Int)<ps.length:=by omega
  have hs:(ps.take (i+1)).flatten=(ps.take i).flatten++ps.getD ((i:Int)).toNat default:=flat_step hlt
  have hle:=flat_le ps (i+1)
  have hsl:(ps.take (i+1)).flatten.length=(ps.take i).flatten.length+(ps.getD ((i:Int)).toNat default).length:=by rw[hs,List.length_append]
  repeat(first|refine wDB ?_|refine awp_seq_k fun K hK=>?_|refine wN fun bx=>?_|(refine wH ?_;clear hK))
  refine qappW (cap:=cap) (sz:=3) tyok termE (ps.take i).flatten (ps.getD ((i:Int)).toNat default) (fun _ _=>rfl) (fun _ _=>rfl) (Nat.le_refl _) (by omega) ?_
  rw[List.take_length,←hs,←hsl]
  repeat(first|refine wDB ?_|refine awp_seq_k fun K hK=>?_|refine wN fun bx=>?_|(refine wH ?_;clear hK))
  exact⟨⟨i+1,hlt⟩,wk,⟨0,rfl⟩,by simp only;omega⟩
 have hge:¬(i:Int)<ps.length:=by omega
 obtain rfl:i=ps.length:=by omega
 rw[List.take_length]
 repeat(first|refine wDB ?_|refine awp_seq_k fun K hK=>?_|refine wN fun bx=>?_|(refine wH ?_;clear hK))
 exact fnQ_ret 0 rfl (.tmp rfl .nil) (Sub.refl _) ⟨⟨(g,cap),hcap⟩,rfl,rfl⟩
theorem concat0_c (ps:List (List TermR)) (hl:ps.length≤1000000000) (h0:ps.flatten=[]):PCalls Tryz.prog 78 [polysV ps] (polyV []):=by
 refine pcalls_of_awp tyok cbConcat8 Tryz.func78 rfl rfl ?_
 have hz:∀i,i<ps.length→ps.getD ((i:Int)).toNat default=[]:=fun i hi=>by
  rw[Int.toNat_natCast]
  exact List.flatten_eq_nil_iff.1 h0 _ (getD_mem hi)
 unfold polysV polyE
 repeat(first|refine wDB ?_|refine awp_seq_k fun K hK=>?_|refine wN fun bx=>?_|(refine wH ?_;clear hK))
 refine awp_loop0 (ι:={i:Nat//i≤ps.length}) (fun i=>[(0,sl (fun p:List TermR=>[polyV p]) 1 ps .view),(3,.int .i64 0),(9,sl (fun p:List TermR=>[polyV p]) 1 ps .view),(10,.int .i64 ps.length),(11,.int .i64 i.1)]) (fun _=>[]) (fun i=>ps.length-i.1) ⟨0,Nat.zero_le _⟩ wk dp ?_
 rintro⟨i,hi⟩
 simp only at hi ⊢
 by_cases hlt:i<ps.length
 ·have hlt':(i:Int)<ps.length:=by omega
  have hs:(0:Int)+((ps.getD ((i:Int)).toNat default).length:Nat)=0:=by rw[hz i hlt];rfl
  repeat(first|refine wDB ?_|refine awp_seq_k fun K hK=>?_|refine wN fun bx=>?_|(refine wH ?_;clear hK))
  rw[hs]
  exact⟨⟨i+1,hlt⟩,wk,dp,by simp only;omega⟩
 have hge:¬(i:Int)<ps.length:=by omega
 repeat(first|refine wDB ?_|refine awp_seq_k fun K hK=>?_|refine wN fun bx=>?_|refine wC grow0_c ?_|(refine wH ?_;clear hK))
 refine awp_loop0 (ι:={i:Nat//i≤ps.length}) (fun i=>[(6,.nils),(25,sl (fun p:List TermR=>[polyV p]) 1 ps .view),(26,.int .i64 ps.length),(27,.int .i64 i.1)]) (fun _=>[]) (fun i=>ps.length-i.1) ⟨0,Nat.zero_le _⟩ wk dp ?_
 rintro⟨i,hi⟩
 simp only at hi ⊢
 by_cases hlt:i<ps.length
 ·have hlt':(i:Int)<ps.length:=by omega
  repeat(first|refine wDB ?_|refine awp_seq_k fun K hK=>?_|refine wN fun bx=>?_|(refine wH ?_;clear hK))
  rw[hz i hlt]
  refine qapp0 tyok ?_
  repeat(first|refine wDB ?_|refine awp_seq_k fun K hK=>?_|refine wN fun bx=>?_|(refine wH ?_;clear hK))
  exact⟨⟨i+1,hlt⟩,wk,dp,by simp only;omega⟩
 have hge:¬(i:Int)<ps.length:=by omega
 repeat(first|refine wDB ?_|refine awp_seq_k fun K hK=>?_|refine wN fun bx=>?_|(refine wH ?_;clear hK))
 refine r1 ?_
 exact Sub.nilsv _ _
theorem concat_c (ps:List (List TermR)) (hl:ps.length≤1000000000) (hn:ps.flatten.length≤1000000000):PCalls Tryz.prog 78 [polysV ps] (polyV ps.flatten):=by
 by_cases h0:ps.flatten=[]
 ·rw[h0]
  exact concat0_c ps hl h0
 ·exact frozenS termE 3 _ (by decide) (fun _=>rfl) (concat_o ps hl (List.length_pos_iff.2 h0) hn)
theorem two_sub (a b:List TermR):Sub (.slice 1 2 (chunk [polyV a,polyV b] 1) .full) (polysV [a,b]):=
 (Sub.view _ _ _ _).trans (Sub.els fun i hi=>by
   match i,hi with
   |0,_=>exact .cons (Sub.refl _) .nil
   |1,_=>exact .cons (Sub.refl _) .nil)
theorem two_ok {a b:List TermR} (ha:PolyOk 100000000 a) (hb:PolyOk 100000000 b):PolysOk [a,b]:=⟨Nat.le_of_ble_eq_true rfl,fun p hp=>by
 rcases List.mem_cons.1 hp with rfl|hp
 ·exact ha
 ·rw[List.mem_singleton.1 hp];exact hb⟩
theorem two_all (a b:List TermR):[a,b].all mayP=(mayP a&&mayP b):=by simp
theorem mayP_at {p:List TermR} (h:mayP p=true):∀t∈p,mayT t=true:=fun t ht=>by
 obtain⟨i,hi,e⟩:=List.getElem_of_mem ht
 have h1:=(mayP_iff p).1 h i hi
 unfold okAt at h1
 rw[Bool.and_eq_true,List.getD_eq_getElem?_getD,List.getElem?_eq_getElem hi]at h1
 exact e▸h1.1
theorem mayP_m {p:List TermR} (h:mayP p=true):∀t∈p,may t.m=true:=fun t ht=>by
 have h1:=mayP_at h t ht
 unfold mayT at h1
 rw[Bool.and_eq_true]at h1
 exact h1.2
theorem cbPAdd:Callable Tryz.prog 26:=fun _ _=>by kernel_rfl
theorem padd_c (a b:List TermR) (k:Nat) (hk:k+1≤10000000) (ha:PolyOk k a) (hb:PolyOk k b) (hm:mayP a=true) (hm':mayP b=true):
  PCalls Tryz.prog 26 [polyV a,polyV b] (.tuple [polyZ (colZ ((a++b).map zT)),.int .i64 0]):=by
 refine pcalls_of_awp tyok cbPAdd Tryz.func26 rfl rfl ?_
 have g1:=(pall_c [a,b] (two_ok (ha.mono (by omega)) (hb.mono (by omega)))).sub (.cons (two_sub a b) .nil)
 rw[two_all,hm,hm']at g1
 have la:=ha.len
 have lb:=hb.len
 have e:[a,b].flatten=a++b:=by simp
 have g2:=(concat_c [a,b] (Nat.le_of_ble_eq_true rfl) (by rw[e,List.length_append];omega)).sub (.cons (two_sub a b) .nil)
 rw[e]at g2
 have hmem:∀t∈a++b,may t.m=true∧IntOk k t.c:=fun t ht=>by
  rcases List.mem_append.1 ht with h|h
  ·exact⟨mayP_m hm t h,(ha.at' t h).c⟩
  ·exact⟨mayP_m hm' t h,(hb.at' t h).c⟩
 have g3:=collect_c (a++b) k hk (by rw[List.length_append];omega) (fun t ht=>(hmem t ht).1) fun t ht=>(hmem t ht).2
 repeat(first|refine wDB ?_|refine awp_seq_k fun K hK=>?_|refine wN fun bx=>?_|refine wC g1 ?_|refine wC g2 ?_|refine wC g3 ?_|(refine wH ?_;clear hK))
 refine r2 ?_ ?_
 ·exact Sub.refl _
 ·exact Sub.refl _
end Go.Proofs.YtamgilppehibeaaGreatDoor
namespace Go.Proofs.YtamgilppehibeaaGreatDoor
open Go.Ab
def limR (p:List TermR):Nat:=p.foldl (fun m t=>max m t.c.mag.length) 0
def rowZ (x:TermR) (b:List TermR):PZ:=b.map fun y=>(x.c.z*y.c.z,(timesF x.m y.m).1)
def prodZ (a b:List TermR):PZ:=a.flatMap fun x=>rowZ x b
def rowOk (x:TermR) (b:List TermR):Bool:=b.all fun y=>decide ((timesF x.m y.m).2=0)
def prodOk (a b:List TermR):Bool:=a.all fun x=>rowOk x b
theorem rowZ_step {x:TermR} {b:List TermR} {j:Nat} (hj:j<b.length):rowZ x (b.take (j+1))=rowZ x (b.take j)++[(x.c.z*(b.getD j default).c.z,(timesF x.m (b.getD j default).m).1)]:=by
 unfold rowZ
 rw[List.take_add_one,List.map_append,List.getD_eq_getElem?_getD,List.getElem?_eq_getElem hj]
 rfl
theorem prodZ_step {a b:List TermR} {i:Nat} (hi:i<a.length):prodZ (a.take (i+1)) b=prodZ (a.take i) b++rowZ (a.getD i default) b:=by
 unfold prodZ
 rw[List.take_add_one,List.flatMap_append,List.getD_eq_getElem?_getD,List.getElem?_eq_getElem hi]
 simp
theorem rowZ_len (x:TermR) (b:List TermR):(rowZ x b).length=b.length:=List.length_map _
theorem prodZ_len:∀a b:List TermR,(prodZ a b).length=a.length*b.length
 |[],b=>by simp[prodZ]
 |x::a,b=>by
  have h:=prodZ_len a b
  unfold prodZ at h ⊢
  rw[List.flatMap_cons,List.length_append,h,rowZ_len,List.length_cons,Nat.succ_mul]
  omega
theorem timesF_two {a b:List Pw} (ha:may a=true) (hb:may b=true):(timesF a b).2=0∧may (timesF a b).1=true∨timesF a b=([],8):=by
 unfold timesF
 rw[ha,hb]
 simp only[Bool.and_self,if_true]
 by_cases h:may (madeF gAdd (zipM a b))=true
 ·rw[if_pos h]
  exact .inl ⟨rfl,h⟩
 ·rw[if_neg h]
  exact .inr rfl
theorem prodZ_mem {a b:List TermR} {t:Int×List Pw} (h:t∈prodZ a b):∃x∈a,∃y∈b,t=(x.c.z*y.c.z,(timesF x.m y.m).1):=by
 unfold prodZ rowZ at h
 obtain⟨x,hx,h⟩:=List.mem_flatMap.1 h
 obtain⟨y,hy,rfl⟩:=List.mem_map.1 h
 exact⟨x,hx,y,hy,rfl⟩
theorem prodOk_at {a b:List TermR} (h:prodOk a b=true) {x y:TermR} (hx:x∈a) (hy:y∈b):(timesF x.m y.m).2=0:=
 of_decide_eq_true (List.all_eq_true.1 (List.all_eq_true.1 h x hx) y hy)
def ptimesF (a b:List TermR):PZ×Int:=if prodOk a b=true then(colZ (prodZ a b),0) else([],8)
structure TimS where
 i:Nat
 a:Option Addr
 cp:Nat
structure TimI (a b:List TermR) (y:TimS):Prop where
 le:y.i≤a.length
 ok:∀j,j<y.i→rowOk (a.getD j default) b=true
structure TimJ (x:TermR) (b:List TermR) (y:TimS):Prop where
 le:y.i≤b.length
 ok:∀j,j<y.i→(timesF x.m (b.getD j default).m).2=0
theorem TimI.done {a b:List TermR} {y:TimS} (h:TimI a b y) (hi:y.i=a.length):prodOk a b=true:=by
 refine List.all_eq_true.2 fun x hx=>?_
 obtain⟨j,hj,e⟩:=List.getElem_of_mem hx
 have:=h.ok j (by omega)
 rw[List.getD_eq_getElem?_getD,List.getElem?_eq_getElem hj]at this
 exact e▸this
theorem TimJ.done {x:TermR} {b:List TermR} {y:TimS} (h:TimJ x b y) (hi:y.i=b.length):rowOk x b=true:=by
 refine List.all_eq_true.2 fun z hx=>decide_eq_true ?_
 obtain⟨j,hj,e⟩:=List.getElem_of_mem hx
 have:=h.ok j (by omega)
 rw[List.getD_eq_getElem?_getD,List.getElem?_eq_getElem hj]at this
 exact e▸this
theorem cbTimes8:Callable Tryz.prog 27:=fun _ _=>by kernel_rfl
theorem ptimes_c (a b:List TermR) (k:Nat) (hk:k+k+1≤10000000) (ha:PolyOk k a) (hb:PolyOk k b) (hm:mayP a=true) (hm':mayP b=true) (hw:a.length*b.length≤1000000000):
  PCalls Tryz.prog 27 [polyV a,polyV b] (.tuple [polyZ (ptimesF a b).1,.int .i64 (ptimesF a b).2]):=by
 refine pcalls_of_awp tyok cbTimes8 Tryz.func27 rfl rfl ?_
 have g1:=(pall_c [a,b] (two_ok (ha.mono (by omega)) (hb.mono (by omega)))).sub (.cons (two_sub a b) .nil)
 rw[two_all,hm,hm']at g1
 have la:=ha.len
 have lb:=hb.len
 repeat(first|refine wDB ?_|refine awp_seq_k fun K hK=>?_|refine wN fun bx=>?_|refine wC g1 ?_|(refine wH ?_;clear hK))
 refine awp_tok0 3 70 ?_
 refine awp_loopP (ι:={y:TimS//TimI a b y}) (fun y=>[(1,polyV b),(6,sl termE 3 ((prodZ (a.take y.1.i) b).map zR) (.own y.1.a y.1.cp)),(18,polyV a),(19,.int .i64 a.length),(20,.int .i64 y.1.i)])
  (fun y=>[.tok y.1.a y.1.cp ((prodZ (a.take y.1.i) b).map zR).length 3 70]) (fun y=>a.length-y.1.i) ⟨⟨0,none,0⟩,⟨Nat.zero_le _,fun j hj=>absurd hj (Nat.not_lt_zero j)⟩⟩ wk qpm ?_
 rintro⟨⟨i,ad,cp⟩,hI⟩
 have hi:=hI.le
 simp only at hi ⊢
 by_cases hlt:i<a.length
 rotate_left
 ·have hge:¬(i:Int)<a.length:=by omega
  obtain rfl:i=a.length:=by omega
  have hok:=hI.done rfl
  rw[List.take_length]
  have hF:ptimesF a b=(colZ (prodZ a b),0):=if_pos hok
  have hmz:∀t∈(prodZ a b).map zR,may t.m=true:=fun t ht=>by
   obtain⟨u,hu,rfl⟩:=List.mem_map.1 ht
   obtain⟨x,hx,y,hy,rfl⟩:=prodZ_mem hu
   rcases timesF_two (mayP_m hm x hx) (mayP_m hm' y hy)with h|h
   ·exact h.2
   ·have:=prodOk_at hok hx hy
    rw[h]at this
    cases this
  have hcz:∀t∈(prodZ a b).map zR,IntOk (k+k) t.c:=fun t ht=>by
   obtain⟨u,hu,rfl⟩:=List.mem_map.1 ht
   obtain⟨x,hx,y,hy,rfl⟩:=prodZ_mem hu
   exact intC_ok (ZOk.mul (intR_zok (ha.at' x hx).c) (intR_zok (hb.at' y hy).c))
  have g3:=collect_c ((prodZ a b).map zR) (k+k) hk (by rw[List.length_map,prodZ_len];omega) hmz hcz
  rw[List.map_map,show(zT∘zR)=id from funext zT_R,List.map_id]at g3
  have g3:=g3.sub (vs:=[sl termE 3 ((prodZ a b).map zR) (.own ad cp)]) (.cons (Sub.view _ _ _ _) .nil)
  repeat(first|refine wDB ?_|refine awp_seq_k fun K hK=>?_|refine wN fun bx=>?_|refine wC g3 ?_|(refine wH ?_;clear hK))
  refine r2 ?_ ?_
  ·exact Sub.of_eq (by rw[hF])
  ·exact Sub.of_eq (by rw[hF])
 have hlt':(i:Int)<a.length:=by omega
 have hxa:a.getD i default∈a:=getD_mem hlt
 have hps:=prodZ_step (b:=b) hlt
 have hpl:(prodZ (a.take i) b).length=i*b.length:=by rw[prodZ_len,List.length_take,Nat.min_eq_left hi]
 have hib:i*b.length+b.length≤1000000000:=by
  have:=Nat.mul_le_mul_right b.length hlt
  rw[Nat.succ_mul]at this
  omega
 ((repeat(first|refine wDB ?_|refine awp_seq_k fun K hK=>?_|(refine wH ?_;clear hK)));refine wN fun b8=>?_;(repeat(first|refine wDB ?_|refine awp_seq_k fun K hK=>?_|refine wN fun bx=>?_|(refine wH ?_;clear hK))))
 rw[show prodZ (a.take i) b=prodZ (a.take i) b++rowZ (a.getD i default) (b.take 0) from (List.append_nil _).symm]
 refine awp_loopP (ι:={y:TimS//TimJ (a.getD i default) b y}) (fun y=>[(8,.ptr b8 0),(1,polyV b),(6,sl termE 3 ((prodZ (a.take i) b++rowZ (a.getD i default) (b.take y.1.i)).map zR) (.own y.1.a y.1.cp)),(18,polyV a),(19,.int .i64 a.length),(20,.int .i64 i),(24,polyV b),(25,.int .i64 b.length),(26,.int .i64 y.1.i)])
  (fun y=>[.box b8 70 (.agg (termE (a.getD i default))),.tok y.1.a y.1.cp ((prodZ (a.take i) b++rowZ (a.getD i default) (b.take y.1.i)).map zR).length 3 70]) (fun y=>b.length-y.1.i) ⟨⟨0,ad,cp⟩,⟨Nat.zero_le _,fun j hj=>absurd hj (Nat.not_lt_zero j)⟩⟩ wk qpm ?_
 rintro⟨⟨j,ad2,cp2⟩,hJ⟩
 have hj:=hJ.le
 simp only at hj ⊢
 by_cases hjt:j<b.length
 rotate_left
 ·have hge:¬(j:Int)<b.length:=by omega
  obtain rfl:j=b.length:=by omega
  have hro:=hJ.done rfl
  rw[List.take_length,←hps]
  repeat(first|refine wDB ?_|refine awp_seq_k fun K hK=>?_|refine wN fun bx=>?_|(refine wH ?_;clear hK))
  refine⟨⟨⟨i+1,ad2,cp2⟩,⟨hlt,fun n hn=>?_⟩⟩,wk,qpm,by simp only;omega⟩
  have hn:n<i+1:=hn
  by_cases e:n=i
  ·rw[e];exact hro
  ·exact hI.ok n (by simp only;omega)
 have hjt':(j:Int)<b.length:=by omega
 have hyb:b.getD j default∈b:=getD_mem hjt
 have gT:=times_c (a.getD i default).m (b.getD j default).m (ha.at' _ hxa).m (hb.at' _ hyb).m
 have gM:=mul2_c (a.getD i default).c (b.getD j default).c ((ha.at' _ hxa).c.mono (by omega)) ((hb.at' _ hyb).c.mono (by omega))
 have hrs:=rowZ_step (x:=a.getD i default) hjt
 rcases timesF_two (mayP_m hm _ hxa) (mayP_m hm' _ hyb)with⟨h0,-⟩|h8
 rotate_left
 ·rw[h8]at gT
  have hF:ptimesF a b=([],8):=if_neg fun h=>by
   have:=prodOk_at h hxa hyb
   rw[h8]at this
   cases this
  ((repeat(first|refine wDB ?_|refine awp_seq_k fun K hK=>?_|refine wC gT ?_|refine wC gM ?_|(refine wH ?_;clear hK)));refine wN fun b10=>?_;(repeat(first|refine wDB ?_|refine awp_seq_k fun K hK=>?_|refine wN fun bx=>?_|refine wC gT ?_|refine wC gM ?_|(refine wH ?_;clear hK))))
  refine r2 ?_ ?_
  ·exact(Sub.nilsv _ _).trans (Sub.of_eq (by rw[hF];rfl))
  ·exact Sub.of_eq (by rw[hF])
 obtain⟨w,hw2⟩:∃w,timesF (a.getD i default).m (b.getD j default).m=(w,0):=⟨_,Prod.ext rfl h0⟩
 rw[hw2]at gT hrs
 have hol:((prodZ (a.take i) b++rowZ (a.getD i default) (b.take j)).map zR).length≤1000000000:=by
  rw[List.length_map,List.length_append,hpl,rowZ_len,List.length_take]
  omega
 ((repeat(first|refine wDB ?_|refine awp_seq_k fun K hK=>?_|refine wC gT ?_|refine wC gM ?_|(refine wH ?_;clear hK)));refine wN fun b10=>?_;(repeat(first|refine wDB ?_|refine awp_seq_k fun K hK=>?_|refine wN fun bx=>?_|refine wC gT ?_|refine wC gM ?_|(refine wH ?_;clear hK))))
 refine qapp tyok termE ((prodZ (a.take i) b++rowZ (a.getD i default) (b.take j)).map zR) (zR ((a.getD i default).c.z*(b.getD j default).c.z,w)) (SubL.refl _) ?_ fun ad3 cp3=>?_
 ·simp only
  omega
 rw[show(prodZ (a.take i) b++rowZ (a.getD i default) (b.take j)).map zR++[zR ((a.getD i default).c.z*(b.getD j default).c.z,w)]=(prodZ (a.take i) b++rowZ (a.getD i default) (b.take (j+1))).map zR by rw[hrs];simp]
 repeat(first|refine wDB ?_|refine awp_seq_k fun K hK=>?_|refine wN fun bx=>?_|(refine wH ?_;clear hK))
 refine⟨⟨⟨j+1,ad3,cp3⟩,⟨hjt,fun n hn=>?_⟩⟩,wk,qpm,by simp only;omega⟩
 have hn:n<j+1:=hn
 by_cases e:n=j
 ·rw[e];exact h0
 ·exact hJ.ok n (by simp only;omega)
end Go.Proofs.YtamgilppehibeaaGreatDoor
namespace Go.Proofs.YtamgilppehibeaaGreatDoor
open Go.Ab
theorem zR_zT {k:Nat} {t:TermR} (h:TermOk k t) (hm:mayT t=true):zR (zT t)=t:=by
 unfold mayT at hm
 rw[Bool.and_eq_true,Bool.and_eq_true]at hm
 have e:=(mayZ_C h.c).1 hm.1.2
 unfold zR zT
 simp only
 rw[←e]
theorem cbCopied:Callable Tryz.prog 164:=fun _ _=>by kernel_rfl
theorem copied_c (t:TermR) (h:TermOk 1000000 t):PCalls Tryz.prog 164 [.agg (termE t)] (.agg (termE (zR (zT t)))):=by
 refine pcalls_of_awp tyok cbCopied Tryz.func164 rfl rfl ?_
 have gA:=add2_c t.c ⟨false,[]⟩ (h.c.mono (by omega)) ⟨fun x hx=>absurd hx List.not_mem_nil,Nat.zero_le _⟩
 rw[int0_z,Int.add_zero]at gA
 have gA':=gA.sub (vs:=[.agg (intEs t.c),.agg [.bool false,.nils]]) (.cons (Sub.refl _) (.cons (subAgg (.cons (Sub.refl _) (.cons (Sub.nilsv _ _) .nil))) .nil))
 have gC:=cloneM_c t.m (by have:=h.m;omega)
 repeat(first|refine wKB ?_|refine awp_seq_k fun K hK=>?_|refine wN fun bx=>?_|(refine wH ?_;clear hK))
 refine areg_soft mixed tyok [3,6] [(3,[]),(6,[])] (List.range 9) (by decide +kernel) ?_
 repeat(first|refine wDB ?_|refine awp_seq_k fun K hK=>?_|refine wN fun bx=>?_|refine wC gA' ?_|refine wC gC ?_|(refine wH ?_;clear hK))
 refine rcA ?_
 exact Sub.refl _
def term0:TermR:=⟨⟨false,[]⟩,[]⟩
theorem term0_sub:Sub (.agg [.bool false,.nils,.nils]) (.agg (termE term0)):=subAgg (.cons (Sub.refl _) (.cons (Sub.nilsv _ _) (.cons (Sub.nilsv _ _) .nil)))
theorem cbLead:Callable Tryz.prog 111:=fun _ _=>by kernel_rfl
theorem lead_c (p:List TermR) (h:PolyOk 1000000 p) (hm:mayP p=true) (h0:0<p.length):PCalls Tryz.prog 111 [polyV p] (.tuple [.agg (termE (p.getD 0 default)),.bool true]):=by
 refine pcalls_of_awp tyok cbLead Tryz.func111 rfl rfl ?_
 have g:=pmay_c p (h.mono (by omega))
 rw[hm]at g
 have gC:=copied_c (p.getD 0 default) (h.get h0)
 rw[zR_zT (h.get h0) (mayP_at hm _ (getD_mem h0))]at gC
 have hl:=h.len
 have h0':¬(p.length:Int)=0:=by omega
 have h0'':(0:Int)<p.length:=by omega
 repeat(first|refine wDB ?_|refine awp_seq_k fun K hK=>?_|refine wN fun bx=>?_|refine wC g ?_|refine wC gC ?_|(refine wH ?_;clear hK))
 refine rcB ?_ ?_
 ·exact Sub.refl _
 ·exact Sub.refl _
theorem lead0_c:PCalls Tryz.prog 111 [polyV []] (.tuple [.agg (termE term0),.bool false]):=by
 refine pcalls_of_awp tyok cbLead Tryz.func111 rfl rfl ?_
 have e:(([]:List TermR).length:Int)=0:=rfl
 repeat(first|refine wDB ?_|refine awp_seq_k fun K hK=>?_|refine wN fun bx=>?_|(refine wH ?_;clear hK))
 refine rcB ?_ ?_
 ·exact term0_sub
 ·exact Sub.refl _
def classP (p:List TermR):Int:=match p with|[]=>0|t::_=>classF t.m
def degP (v:Int) (p:List TermR):Int:=p.foldl (fun d t=>if degF v t.m>d then degF v t.m else d) 0
theorem cbVClass:Callable Tryz.prog 66:=fun _ _=>by kernel_rfl
theorem vclass_c (p:List TermR) (h:PolyOk 1000000 p) (hm:mayP p=true):PCalls Tryz.prog 66 [polyV p] (.int .i64 (classP p)):=by
 refine pcalls_of_awp tyok cbVClass Tryz.func66 rfl rfl ?_
 match p,h,hm with
 |[],h,hm=>
  have g1:=lead0_c
  have g2:=class_c [] (by decide)
  ((repeat(first|refine wDB ?_|refine awp_seq_k fun K hK=>?_|refine wC g1 ?_|refine wC g2 ?_|(refine wH ?_;clear hK)));refine wN fun b3=>?_;(repeat(first|refine wDB ?_|refine awp_seq_k fun K hK=>?_|refine wN fun bx=>?_|refine wC g1 ?_|refine wC g2 ?_|(refine wH ?_;clear hK))))
  refine r1 ?_
  exact Sub.refl _
 |t::p,h,hm=>
  have g1:=lead_c (t::p) h hm (Nat.succ_pos _)
  have g2:=class_c t.m (h.at' t (List.mem_cons_self ..)).m
  ((repeat(first|refine wDB ?_|refine awp_seq_k fun K hK=>?_|refine wC g1 ?_|refine wC g2 ?_|(refine wH ?_;clear hK)));refine wN fun b3=>?_;(repeat(first|refine wDB ?_|refine awp_seq_k fun K hK=>?_|refine wN fun bx=>?_|refine wC g1 ?_|refine wC g2 ?_|(refine wH ?_;clear hK))))
  refine r1 ?_
  exact Sub.refl _
theorem cbVPlain:Callable Tryz.prog 131:=fun _ _=>by kernel_rfl
theorem vplain_c (p:List TermR) (h:PolyOk 1000000 p) (hm:mayP p=true):PCalls Tryz.prog 131 [polyV p] (polyV p):=by
 refine pcalls_of_awp tyok cbVPlain Tryz.func131 rfl rfl ?_
 have g:=pmay_c p (h.mono (by omega))
 rw[hm]at g
 repeat(first|refine wDB ?_|refine awp_seq_k fun K hK=>?_|refine wN fun bx=>?_|refine wC g ?_|(refine wH ?_;clear hK))
 refine r1 ?_
 exact Sub.refl _
theorem degP_step {v:Int} {p:List TermR} {i:Nat} (hi:i<p.length):degP v (p.take (i+1))=if degF v (p.getD i default).m>degP v (p.take i) then degF v (p.getD i default).m else degP v (p.take i):=by
 unfold degP
 rw[List.take_add_one,List.foldl_append,List.getD_eq_getElem?_getD,List.getElem?_eq_getElem hi]
 rfl
theorem plainF_may {m:List Pw} (h:may m=true):plainF m=m:=if_pos h
theorem cbVDegree:Callable Tryz.prog 132:=fun _ _=>by kernel_rfl
theorem vdegree_c (p:List TermR) (v:Int) (h:PolyOk 1000000 p) (hm:mayP p=true):PCalls Tryz.prog 132 [polyV p,.int .i64 v] (.int .i64 (degP v p)):=by
 refine pcalls_of_awp tyok cbVDegree Tryz.func132 rfl rfl ?_
 have hl:=h.len
 have g:=vplain_c p h hm
 repeat(first|refine wDB ?_|refine awp_seq_k fun K hK=>?_|refine wN fun bx=>?_|refine wC g ?_|(refine wH ?_;clear hK))
 refine awp_loop0 (ι:={i:Nat//i≤p.length}) (fun i=>[(1,.int .i64 v),(4,.int .i64 (degP v (p.take i.1))),(8,polyV p),(9,.int .i64 p.length),(10,.int .i64 i.1)]) (fun _=>[]) (fun i=>p.length-i.1) ⟨0,Nat.zero_le _⟩ wk dp ?_
 rintro⟨i,hi⟩
 simp only at hi ⊢
 by_cases hlt:i<p.length
 ·have hlt':(i:Int)<p.length:=by omega
  have hs:=degP_step (v:=v) hlt
  have gd:=degree_c (p.getD i default).m v (h.get hlt).m
  rw[plainF_may (mayP_m hm _ (getD_mem hlt))]at gd
  ((repeat(first|refine wDB ?_|refine awp_seq_k fun K hK=>?_|refine wC gd ?_|(refine wH ?_;clear hK)));refine wN fun b6=>?_;(repeat(first|refine wDB ?_|refine awp_seq_k fun K hK=>?_|refine wN fun bx=>?_|refine wC gd ?_|(refine wH ?_;clear hK))))
  rw[←hs]
  exact⟨⟨i+1,hlt⟩,wk,dp,by simp only;omega⟩
 have hge:¬(i:Int)<p.length:=by omega
 obtain rfl:i=p.length:=by omega
 rw[List.take_length]
 repeat(first|refine wDB ?_|refine awp_seq_k fun K hK=>?_|refine wN fun bx=>?_|(refine wH ?_;clear hK))
 refine r1 ?_
 exact Sub.refl _
def pickR (pm:TermR→List Pw) (pb:TermR→Bool) (p:List TermR):List TermR:=(p.filter pb).map fun t=>⟨t.c,pm t⟩
theorem pickR_step {pm:TermR→List Pw} {pb:TermR→Bool} {p:List TermR} {i:Nat} (hi:i<p.length):
  pickR pm pb (p.take (i+1))=if pb (p.getD i default)=true then pickR pm pb (p.take i)++[⟨(p.getD i default).c,pm (p.getD i default)⟩] else pickR pm pb (p.take i):=by
 unfold pickR
 rw[List.take_add_one,List.filter_append,List.getD_eq_getElem?_getD,List.getElem?_eq_getElem hi]
 simp only[Option.toList_some,Option.getD_some]
 by_cases h:pb p[i]=true
 ·rw[if_pos h,List.filter_cons_of_pos h,List.filter_nil,List.map_append]
  rfl
 ·rw[if_neg h,List.filter_cons_of_neg h,List.filter_nil,List.append_nil]
theorem pickR_len (pm:TermR→List Pw) (pb:TermR→Bool) (p:List TermR):(pickR pm pb p).length≤p.length:=by
 unfold pickR
 rw[List.length_map]
 exact List.length_filter_le _ _
theorem cbPicked:Callable Tryz.prog 173:=fun _ _=>by kernel_rfl
theorem picked_c (p:List TermR) (h:PolyOk 1000000 p) (hm:mayP p=true) (f:FuncId) (cap:List AV) (HO:AHeap) (pm:TermR→List Pw) (pb:TermR→Bool) (hpm:∀t∈p,(pm t).length≤400000)
  (hf:∀t∈p,ACalls Tryz.prog f ([.agg (termE t)]++cap) HO fun r H'=>r=.ret (.tuple [mono (pm t),.bool (pb t)])∧H'=HO):
  ACalls Tryz.prog 173 [polyV p,.func (.func f) [] cap] HO fun r H'=>r=.ret (polyV (pickR pm pb p))∧H'=HO:=by
 refine acalls_of_awp tyok cbPicked Tryz.func173 rfl rfl ?_
 have hl:=h.len
 have g:=vplain_c p h hm
 repeat(first|refine wDB ?_|refine awp_seq_k fun K hK=>?_|refine wN fun bx=>?_|refine wC g ?_|(refine wH ?_;clear hK))
 refine awp_tok0 3 70 ?_
 refine awp_loop0 (ι:={y:TimS//y.i≤p.length}) (fun y=>[(1,.func (.func f) [] cap),(4,sl termE 3 (pickR pm pb (p.take y.1.i)) (.own y.1.a y.1.cp)),(10,polyV p),(11,.int .i64 p.length),(12,.int .i64 y.1.i)])
  (fun y=>.tok y.1.a y.1.cp (pickR pm pb (p.take y.1.i)).length 3 70::HO) (fun y=>p.length-y.1.i) ⟨⟨0,none,0⟩,Nat.zero_le _⟩ wk ⟨0,rfl⟩ ?_
 rintro⟨⟨i,ad,cp⟩,hi⟩
 simp only at hi ⊢
 by_cases hlt:i<p.length
 rotate_left
 ·have hge:¬(i:Int)<p.length:=by omega
  obtain rfl:i=p.length:=by omega
  rw[List.take_length]
  repeat(first|refine wDB ?_|refine awp_seq_k fun K hK=>?_|refine wN fun bx=>?_|(refine wH ?_;clear hK))
  exact fnQ_ret 1 rfl (.tmp rfl .nil) (Sub.view _ _ _ _) ⟨rfl,rfl⟩
 have hlt':(i:Int)<p.length:=by omega
 have hxp:p.getD i default∈p:=getD_mem hlt
 have hk:=h.get hlt
 have hs:=pickR_step (pm:=pm) (pb:=pb) hlt
 have hf1:=hf _ hxp
 have gA:=add2_c (p.getD i default).c ⟨false,[]⟩ (hk.c.mono (by omega)) ⟨fun x hx=>absurd hx List.not_mem_nil,Nat.zero_le _⟩
 rw[int0_z,Int.add_zero]at gA
 have hzz:intC (p.getD i default).c.z=(p.getD i default).c:=congrArg TermR.c (zR_zT hk (mayP_at hm _ hxp))
 rw[hzz]at gA
 have gA':=gA.sub (vs:=[.agg (intEs (p.getD i default).c),.agg [.bool false,.nils]]) (.cons (Sub.refl _) (.cons (subAgg (.cons (Sub.refl _) (.cons (Sub.nilsv _ _) .nil))) .nil))
 have gC:=cloneM_c (pm (p.getD i default)) (by have:=hpm _ hxp;omega)
 have hol:=pickR_len pm pb (p.take i)
 rw[List.length_take]at hol
 ((repeat(first|refine wDB ?_|refine awp_seq_k fun K hK=>?_|(refine wH ?_;clear hK)));refine wN fun b6=>?_;(repeat(first|refine wDB ?_|refine awp_seq_k fun K hK=>?_|refine wN fun bx=>?_|(refine wH ?_;clear hK))))
 refine qcallH (G:=[_,_]) hf1 ?_
 cases hb:pb (p.getD i default)with
 |false=>
  have hs:pickR pm pb (p.take (i+1))=pickR pm pb (p.take i):=by rw[hs,hb];rfl
  repeat(first|refine wDB ?_|refine awp_seq_k fun K hK=>?_|refine wN fun bx=>?_|(refine wH ?_;clear hK))
  rw[←hs]
  exact⟨⟨⟨i+1,ad,cp⟩,hlt⟩,wk,⟨1,rfl⟩,by simp only;omega⟩
 |true=>
  have hs:pickR pm pb (p.take (i+1))=pickR pm pb (p.take i)++[⟨(p.getD i default).c,pm (p.getD i default)⟩]:=by rw[hs,hb];rfl
  repeat(first|refine wDB ?_|refine awp_seq_k fun K hK=>?_|refine wN fun bx=>?_|refine wC gA' ?_|refine wC gC ?_|(refine wH ?_;clear hK))
  refine qapp tyok termE (pickR pm pb (p.take i)) ⟨(p.getD i default).c,pm (p.getD i default)⟩ (SubL.refl _) ?_ fun ad3 cp3=>?_
  ·simp only
   omega
  rw[←hs]
  repeat(first|refine wDB ?_|refine awp_seq_k fun K hK=>?_|refine wN fun bx=>?_|(refine wH ?_;clear hK))
  exact⟨⟨⟨i+1,ad3,cp3⟩,hlt⟩,wk,⟨1,rfl⟩,by simp only;omega⟩
theorem cbCoef1:Callable Tryz.prog 174:=fun _ _=>by kernel_rfl
theorem coef1_c (t:TermR) (v e:Int) (b4 b5:Nat) (h:TermOk 1000000 t) (hm:may t.m=true) (hv:1≤v∧v≤200):
  ACalls Tryz.prog 174 [.agg (termE t),.ptr b4 0,.ptr b5 0] [.box b5 3 (.int .i64 e),.box b4 3 (.int .i64 v)]
   (fun r H'=>r=.ret (.tuple [mono (withoutF v t.m),.bool (decide (degF v t.m=e))])∧H'=[.box b5 3 (.int .i64 e),.box b4 3 (.int .i64 v)]):=by
 refine acalls_of_awp tyok cbCoef1 Tryz.func174 rfl rfl ?_
 have gW:=without_c t.m v h.m
 have gD:=degree_c t.m v h.m
 rw[plainF_may hm]at gW gD
 have hv1:=hv.1
 have hv2:=hv.2
 by_cases he:degF v t.m=e
 ·repeat(first|refine wKB ?_|refine awp_seq_k fun K hK=>?_|refine wN fun bx=>?_|(refine wH ?_;clear hK))
  refine areg_soft mixed tyok [3,14] [(18,[])] (List.range 20) (by decide +kernel) ?_
  repeat(first|refine wDB ?_|refine awp_seq_k fun K hK=>?_|refine wN fun bx=>?_|refine wC gW ?_|refine wC gD ?_|(refine wH ?_;clear hK))
  exact fnQ_ret 1 rfl (.tmp rfl (.tmp rfl .nil)) (Sub.tuple2 (Sub.refl _) (Sub.of_eq (congrArg AV.bool (decide_eq_true he).symm))) ⟨rfl,rfl⟩
 ·repeat(first|refine wKB ?_|refine awp_seq_k fun K hK=>?_|refine wN fun bx=>?_|(refine wH ?_;clear hK))
  refine areg_soft mixed tyok [3,14] [(18,[])] (List.range 20) (by decide +kernel) ?_
  repeat(first|refine wDB ?_|refine awp_seq_k fun K hK=>?_|refine wN fun bx=>?_|refine wC gW ?_|refine wC gD ?_|(refine wH ?_;clear hK))
  exact fnQ_ret 1 rfl (.tmp rfl (.tmp rfl .nil)) (Sub.tuple2 (Sub.refl _) (Sub.of_eq (congrArg AV.bool (decide_eq_false he).symm))) ⟨rfl,rfl⟩
theorem withoutF_len (v:Int) (m:List Pw):(withoutF v m).length≤m.length:=List.length_filter_le _ _
def coefP (v e:Int) (p:List TermR):List TermR:=pickR (fun t=>withoutF v t.m) (fun t=>decide (degF v t.m=e)) p
theorem cbCoef:Callable Tryz.prog 133:=fun _ _=>by kernel_rfl
theorem vcoef_c (p:List TermR) (v e:Int) (h:PolyOk 1000000 p) (hm:mayP p=true) (hv:1≤v∧v≤200):PCalls Tryz.prog 133 [polyV p,.int .i64 v,.int .i64 e] (polyV (coefP v e p)):=by
 refine pcalls_of_awp tyok cbCoef Tryz.func133 rfl rfl ?_
 have gP:=fun b4 b5=>picked_c p h hm 174 [.ptr b4 0,.ptr b5 0] [.box b5 3 (.int .i64 e),.box b4 3 (.int .i64 v)] (fun t=>withoutF v t.m) (fun t=>decide (degF v t.m=e))
  (fun t ht=>Nat.le_trans (withoutF_len _ _) (h.at' t ht).m) (fun t ht=>coef1_c t v e b4 b5 (h.at' t ht) (mayP_m hm t ht) hv)
 ((repeat(first|refine wDB ?_|refine awp_seq_k fun K hK=>?_|(refine wH ?_;clear hK)));refine wN fun b4=>?_;(repeat(first|refine wDB ?_|refine awp_seq_k fun K hK=>?_|(refine wH ?_;clear hK)));refine wN fun b5=>?_;(repeat(first|refine wDB ?_|refine awp_seq_k fun K hK=>?_|refine wN fun bx=>?_|(refine wH ?_;clear hK))))
 refine qcallH (G:=[]) (gP b4 b5) ?_
 repeat(first|refine wDB ?_|refine awp_seq_k fun K hK=>?_|refine wN fun bx=>?_|(refine wH ?_;clear hK))
 refine r1 ?_
 exact Sub.refl _
def initP (p:List TermR):List TermR:=if classP p=0 then p else coefP (classP p) (degP (classP p) p) p
end Go.Proofs.YtamgilppehibeaaGreatDoor
namespace Go.Proofs.YtamgilppehibeaaGreatDoor
open Go.Ab
def gcdL (l:List TermR):Nat:=l.foldl (fun g t=>Nat.gcd g t.c.z.natAbs) 0
def contP (p:List TermR):Nat:=gcdL p.reverse
theorem mayT_z {t:TermR} (h:mayT t=true):t.c.z≠0:=by
 unfold mayT at h
 rw[Bool.and_eq_true,Bool.and_eq_true]at h
 exact of_decide_eq_true h.1.1
def cWhole (p:List TermR):Int:=if(p.getD 0 default).c.z<0 then -(contP p:Int) else(contP p:Int)
def wOne (c:Int) (t:TermR):TermR:=⟨intC (t.c.z.tdiv c),t.m⟩
def wholeP (p:List TermR):List TermR:=p.map (wOne (cWhole p))
end Go.Proofs.YtamgilppehibeaaGreatDoor
namespace Go.Proofs.YtamgilppehibeaaGreatDoor
open Go.Ab
theorem ordM_tri {a b:List Pw} (ha:may a=true) (hb:may b=true):Tri (fun v=>degF v a) (fun v=>degF v b) (ordM a b):=by
 obtain⟨c,e,h⟩:=compare_tri ha hb
 unfold ordM
 rw[e]
 exact h
theorem ord_at {p:List TermR} (hm:mayP p=true) {i:Nat} (h0:0<i) (hi:i<p.length):0<ordM (p.getD (i-1) default).m (p.getD i default).m:=by
 have h1:=(mayP_iff p).1 hm i hi
 unfold okAt at h1
 simp only[Bool.and_eq_true,Bool.or_eq_true,decide_eq_true_eq]at h1
 omega
theorem ord_lt {p:List TermR} (hm:mayP p=true):∀(d i:Nat),i+d+1<p.length→0<ordM (p.getD i default).m (p.getD (i+d+1) default).m
 |0,i,h=>by
  have:=ord_at hm (i:=i+1) (by omega) h
  simpa using this
 |d+1,i,h=>by
  have h2:=ord_at hm (i:=i+(d+1)+1) (by omega) h
  rw[Nat.add_sub_cancel]at h2
  exact ordM_gt (mayP_m hm _ (getD_mem (by omega))) (mayP_m hm _ (getD_mem (by omega))) (mayP_m hm _ (getD_mem (by omega))) (ord_lt hm d i (by omega)) (Int.le_of_lt h2)
theorem getD_get {α:Type} [Inhabited α] {l:List α} {i:Nat} (h:i<l.length):l.getD i default=l[i]:=by
 rw[List.getD_eq_getElem?_getD,List.getElem?_eq_getElem h]
 rfl
theorem canon_of {p:List TermR} (hm:mayP p=true):Canon (p.map zT):=by
 refine⟨fun t ht=>?_,fun t ht=>?_,List.pairwise_map.2 (List.pairwise_iff_getElem.2 fun i j hi hj hij=>?_)⟩
 ·obtain⟨u,hu,rfl⟩:=List.mem_map.1 ht
  exact mayT_z (mayP_at hm u hu)
 ·obtain⟨u,hu,rfl⟩:=List.mem_map.1 ht
  exact mayP_m hm u hu
 ·have h:=ord_lt hm (j-i-1) i (by omega)
  rw[show i+(j-i-1)+1=j by omega,getD_get hi,getD_get hj]at h
  exact h
theorem zT_map (q:PZ):(q.map zR).map zT=q:=by
 rw[List.map_map,show(zT∘zR)=id from funext zT_R,List.map_id]
structure CanK (k:Nat) (q:PZ):Prop where
 can:Canon q
 bd:∀t∈q,ZOk k t.1
theorem CanK.mono {j k:Nat} {q:PZ} (h:CanK j q) (hk:j≤k):CanK k q:=⟨h.can,fun t ht=>(h.bd t ht).mono hk⟩
theorem canK_of {k:Nat} {p:List TermR} (h:PolyOk k p) (hm:mayP p=true):CanK k (p.map zT):=⟨canon_of hm,fun t ht=>by
 obtain⟨u,hu,rfl⟩:=List.mem_map.1 ht
 exact intR_zok (h.at' u hu).c⟩
theorem CanK.ok {k:Nat} {q:PZ} (h:CanK k q) (hl:q.length≤400000000):PolyOk k (q.map zR):=⟨by rw[List.length_map];exact hl,fun t ht=>by
 obtain⟨u,hu,rfl⟩:=List.mem_map.1 ht
 exact⟨intC_ok (h.bd u hu),may_short (h.can.may u hu)⟩⟩
theorem CanK.may {k:Nat} {q:PZ} (h:CanK k q):mayP (q.map zR)=true:=by
 refine(mayP_iff _).2 fun i hi=>?_
 have hi':i<q.length:=by rwa [List.length_map]at hi
 have hg:∀j,j<q.length→(q.map zR).getD j default=zR (q[j]?.getD default):=fun j hj=>by
  rw[List.getD_eq_getElem?_getD,List.getElem?_map,List.getElem?_eq_getElem hj]
  rfl
 have hq:∀j (hj:j<q.length),q[j]?.getD default=q[j]:=fun j hj=>by rw[List.getElem?_eq_getElem hj];rfl
 unfold okAt
 rw[Bool.and_eq_true]
 constructor
 ·rw[hg i hi',hq i hi']
  have hm:=List.getElem_mem hi'
  unfold mayT
  rw[Bool.and_eq_true,Bool.and_eq_true]
  refine⟨⟨decide_eq_true ?_,(mayZ_C (intC_ok (h.bd _ hm))).2 ?_⟩,h.can.may _ hm⟩
  ·show(intC q[i].1).z≠0
   rw[intC_z]
   exact h.can.nz _ hm
  ·show intC q[i].1=intC (intC q[i].1).z
   rw[intC_z]
 ·by_cases h0:i=0
  ·rw[decide_eq_true h0]
   rfl
  ·rw[Bool.or_eq_true]
   refine .inr (decide_eq_true ?_)
   rw[hg i hi',hq i hi',hg (i-1) (by omega),hq (i-1) (by omega)]
   exact List.pairwise_iff_getElem.1 h.can.ord (i-1) i (by omega) hi' (by omega)
theorem col_canK {k:Nat} {l:PZ} (hm:∀t∈l,Proofs.YtamgilppehibeaaGreatDoor.may t.2=true) (hb:∀t∈l,ZOk k t.1) (hl:l.length≤4294967296):CanK (k+1) (colZ l):=by
 obtain⟨h1,h2⟩:=colZ_law hm
 refine⟨h1,fun t ht=>?_⟩
 rw[←h1.at' t ht,h2]
 exact coef_zok hb hl _
theorem class_spec {m:List Pw} (h:may m=true):(m=[]∧classF m=0)∨(1≤classF m∧classF m≤200∧0<degF (classF m) m∧∀u,classF m<u→degF u m=0):=by
 cases hl:m.getLast? with
 |none=>
  have e:=List.getLast?_eq_none_iff.1 hl
  subst e
  exact .inl ⟨rfl,rfl⟩
 |some l=>
  have hs:=may_srt h
  have hp:=plainF_may h
  obtain⟨q,hq⟩:=List.getLast?_eq_some_iff.1 hl
  have hm:l∈m:=by rw[hq];simp
  have e1:=deg_of_mem hs.1 hm
  have p1:=hs.2 l hm
  have hu:∀u,l.1<u→degF u m=0:=fun u hu=>by
   by_cases e:degF u m=0
   ·exact e
   ·obtain⟨p,hp,e2⟩:=deg_mem e
    rw[hq]at hp hs
    rcases List.mem_append.1 hp with hp|hp
    ·have:=(List.pairwise_append.1 hs.1).2.2 p hp l (by simp)
     simp only[Lt2]at this
     omega
    ·simp only[List.mem_singleton]at hp
     subst hp
     omega
  have hc:classF m=l.1:=class_of (by rw[hp];omega) (by rw[hp];exact hu)
  have hb:=deg_bnd h (v:=l.1) (by omega)
  rw[hc]
  exact .inr ⟨hb.1,hb.2.1,by omega,hu⟩
theorem class_ge {m:List Pw} (h:may m=true):0≤classF m∧classF m≤200:=by
 rcases class_spec h with⟨-,e⟩|⟨h1,h2,-⟩<;>omega
theorem class_above {m:List Pw} (h:may m=true) {u:Int} (hu:classF m<u):degF u m=0:=by
 rcases class_spec h with⟨rfl,e⟩|⟨-,-,-,h1⟩
 ·rfl
 ·exact h1 u hu
theorem class_le {a b:List Pw} (ha:may a=true) (hb:may b=true) (h:0≤ordM a b):classF b≤classF a:=by
 have t:=ordM_tri ha hb
 have ga:=class_ge ha
 rcases class_spec hb with⟨-,e⟩|⟨b1,-,b2,-⟩
 ·omega
 ·by_cases hlt:classF a<classF b
  ·exfalso
   have a0:=class_above ha hlt
   have:ordM a b= -1:=t.unique (.lt (classF b) (by omega) fun u hu=>by
    rw[class_above ha (by omega:classF a<u),class_above hb hu])
   omega
  ·omega
def clsZ (p:PZ):Int:=p.foldl (fun c t=>if classF t.2>c then classF t.2 else c) 0
def degZ (v:Int) (p:PZ):Int:=p.foldl (fun d t=>if degF v t.2>d then degF v t.2 else d) 0
def coefVZ (v e:Int) (p:PZ):PZ:=(p.filter fun t=>decide (degF v t.2=e)).map fun t=>(t.1,withoutF v t.2)
theorem may_without {m:List Pw} (v:Int) (h:may m=true):may (withoutF v m)=true:=
 may_of (without_srt v (may_srt h)) fun u hu=>by
  rw[without_deg]at hu ⊢
  by_cases e:u=v
  ·rw[if_pos e]at hu
   exact absurd rfl hu
  ·rw[if_neg e]at hu ⊢
   exact deg_bnd h hu
theorem ord_without {a b:List Pw} (v:Int) (ha:may a=true) (hb:may b=true) (hd:degF v a=degF v b):ordM (withoutF v a) (withoutF v b)=ordM a b:=by
 refine(ordM_tri (may_without v ha) (may_without v hb)).unique ((ordM_tri ha hb).add fun u=>?_)
 simp only[without_deg]
 by_cases e:u=v
 ·rw[if_pos e,e,if_pos rfl,hd]
  omega
 ·rw[if_neg e,if_neg e]
theorem coefVZ_canon {p:PZ} (v e:Int) (h:Canon p):Canon (coefVZ v e p):=by
 unfold coefVZ
 refine⟨fun t ht=>?_,fun t ht=>?_,List.pairwise_map.2 ?_⟩
 ·obtain⟨u,hu,rfl⟩:=List.mem_map.1 ht
  exact h.nz u (List.mem_filter.1 hu).1
 ·obtain⟨u,hu,rfl⟩:=List.mem_map.1 ht
  exact may_without v (h.may u (List.mem_filter.1 hu).1)
 ·refine(List.Pairwise.filter _ h.ord).imp_of_mem fun {a b} ha hb hab=>?_
  obtain⟨a1,a2⟩:=List.mem_filter.1 ha
  obtain⟨b1,b2⟩:=List.mem_filter.1 hb
  have a2:=of_decide_eq_true a2
  have b2:=of_decide_eq_true b2
  show 0<ordM (withoutF v a.2) (withoutF v b.2)
  rw[ord_without v (h.may a a1) (h.may b b1) (by omega)]
  exact hab
theorem coefVZ_bd {k:Nat} {p:PZ} (v e:Int) (h:∀t∈p,ZOk k t.1):∀t∈coefVZ v e p,ZOk k t.1:=fun t ht=>by
 obtain⟨u,hu,rfl⟩:=List.mem_map.1 ht
 exact h u (List.mem_filter.1 hu).1
theorem coefVZ_len (v e:Int) (p:PZ):(coefVZ v e p).length≤p.length:=by
 unfold coefVZ
 rw[List.length_map]
 exact List.length_filter_le _ _
def initZ (p:PZ):PZ:=if clsZ p=0 then p else coefVZ (clsZ p) (degZ (clsZ p) p) p
theorem coefP_z {k:Nat} {p:List TermR} (v e:Int) (h:PolyOk k p) (hm:mayP p=true):coefP v e p=(coefVZ v e (p.map zT)).map zR:=by
 unfold coefP pickR coefVZ
 rw[List.filter_map,List.map_map,List.map_map]
 refine List.map_congr_left fun t ht=>?_
 have ht':=(List.mem_filter.1 ht).1
 have e1:=zR_zT (h.at' t ht') (mayP_at hm t ht')
 show(⟨t.c,withoutF v t.m⟩:TermR)=⟨intC t.c.z,withoutF v t.m⟩
 rw[show intC t.c.z=t.c from congrArg TermR.c e1]
def gcdZ (p:PZ):Nat:=p.foldl (fun g t=>Nat.gcd g t.1.natAbs) 0
def cwZ (p:PZ):Int:=if(p.getD 0 default).1<0 then -(gcdZ p:Int) else(gcdZ p:Int)
def wholeZ (p:PZ):PZ:=p.map fun t=>(t.1.tdiv (cwZ p),t.2)
def prodQ (a b:PZ):PZ:=a.flatMap fun x=>b.map fun y=>(x.1*y.1,(timesF x.2 y.2).1)
def prodB (a b:PZ):Bool:=a.all fun x=>b.all fun y=>decide ((timesF x.2 y.2).2=0)
def tmZ (a b:PZ):PZ×Bool:=if prodB a b=true then(colZ (prodQ a b),true) else([],false)
theorem prodZ_z (a b:List TermR):prodZ a b=prodQ (a.map zT) (b.map zT):=by
 unfold prodZ prodQ rowZ
 rw[List.flatMap_map]
 refine congrArg (fun f=>List.flatMap f a) (funext fun x=>?_)
 rw[List.map_map]
 rfl
theorem prodOk_z (a b:List TermR):prodOk a b=prodB (a.map zT) (b.map zT):=by
 unfold prodOk prodB rowOk
 rw[List.all_map]
 refine congrArg (fun f=>List.all a f) (funext fun x=>?_)
 rw[Function.comp,List.all_map]
 rfl
theorem ptimesF_z (a b:List TermR):ptimesF a b=((tmZ (a.map zT) (b.map zT)).1,if(tmZ (a.map zT) (b.map zT)).2=true then 0 else 8):=by
 unfold ptimesF tmZ
 rw[prodOk_z,prodZ_z]
 split<;>rfl
theorem prodQ_len (a b:PZ):(prodQ a b).length=a.length*b.length:=by
 have h:=prodZ_len (a.map zR) (b.map zR)
 rw[prodZ_z,zT_map,zT_map,List.length_map,List.length_map]at h
 exact h
theorem prodQ_may {a b:PZ} (ha:Canon a) (hb:Canon b) (h:prodB a b=true):∀t∈prodQ a b,may t.2=true:=fun t ht=>by
 unfold prodQ at ht
 obtain⟨x,hx,ht⟩:=List.mem_flatMap.1 ht
 obtain⟨y,hy,rfl⟩:=List.mem_map.1 ht
 rcases timesF_two (ha.may x hx) (hb.may y hy)with h1|h1
 ·exact h1.2
 ·have:=of_decide_eq_true (List.all_eq_true.1 (List.all_eq_true.1 h x hx) y hy)
  rw[h1]at this
  cases this
theorem prodQ_bd {j k:Nat} {a b:PZ} (ha:∀t∈a,ZOk j t.1) (hb:∀t∈b,ZOk k t.1):∀t∈prodQ a b,ZOk (j+k) t.1:=fun t ht=>by
 unfold prodQ at ht
 obtain⟨x,hx,ht⟩:=List.mem_flatMap.1 ht
 obtain⟨y,hy,rfl⟩:=List.mem_map.1 ht
 have h1:=ha x hx
 have h2:=hb y hy
 unfold ZOk at*
 rw[Int.natAbs_mul]
 exact nat_mul_ok h1 h2
end Go.Proofs.YtamgilppehibeaaGreatDoor
