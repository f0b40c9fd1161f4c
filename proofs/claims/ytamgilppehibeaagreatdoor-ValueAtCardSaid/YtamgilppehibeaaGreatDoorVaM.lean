/-
  porismref10.At tells a polynomial's value at a point.
-/
import Derived.Test.YtamgilppehibeaaGreatDoorVlM
import Derived.Test.YtamgilppehibeaaGreatDoorRdA
import Derived.Test.YtamgilppehibeaaGreatDoorNzM
import Derived.Test.YtamgilppehibeaaGreatDoorVkM
set_option maxRecDepth 100000
set_option maxHeartbeats 12800000
namespace Go.Proofs.YtamgilppehibeaaGreatDoor
open Go.Ab
theorem evP_take {ρ:Int→Rat} {P:PZ} {i:Nat} (hi:i<P.length):evZ ρ (P.take (i+1))=evZ ρ (P.take i)+((P.getD i default).1:Rat)*mvZ ρ (P.getD i default).2:=by
 rw[List.take_add_one,ev_app,List.getD_eq_getElem?_getD,List.getElem?_eq_getElem hi]
 show _=_+_
 refine congrArg (evZ ρ (P.take i)+ ·) ?_
 show evZ ρ [P[i]]=_
 rw[evZ,evZ,Rat.add_zero]
 rfl
theorem pz_getD {p:List TermR} {i:Nat} (hi:i<p.length):(pz p).getD i default=zT (p.getD i default):=by
 rw[List.getD_eq_getElem?_getD,List.getD_eq_getElem?_getD,pz,List.getElem?_map,List.getElem?_eq_getElem hi]
 rfl
theorem q_new (t:Int×List Pw):setAt [.bool false,.nils,.bool false,.nils] 0 (setAt (setAt [.bool false,.nils,.bool false,.nils] 0 (List.take 2 (List.drop 0 (tZ t)))) 2 (zE 1))=qE (qrC (t.1:Rat)):=rfl
theorem cbRAt:Callable Tryz.prog 22:=fun _ _=>by kernel_rfl
theorem rat10_c (p:List TermR) (pt:List RatR) (C M E L:Nat) (hl:p.length≤1000000) (hml:∀t∈p,t.m.length≤1000000) (hb:BdV C M E p) (hE:E<300) (hp:∀x∈pt,RatOk (L+1) x) (hpt:pt.length≤1000)
  (hv:∀t∈p,∀w∈t.m,1≤w.1∧w.1≤pt.length∧0<w.2)
  (hB:1+p.length*(C+3+M*(1+(L+1)*E))+(C+3+M*(1+(L+1)*E))+(2+L+(L+1)*E)≤499999):PCalls Tryz.prog 22 [pZ (pz p),ratsV pt] (.agg (qE (qrC (evZ (rhoR pt) (pz p))))):=by
 have hρ:=rho_ok hp
 have hsum:=qok_sum hb hρ
 have hterm:=fun t (ht:t∈p)=>qok_term hb hρ ht
 obtain⟨P,hP⟩:∃P,P=pz p:=⟨_,rfl⟩
 have hPl:P.length=p.length:=by rw[hP,List.length_map]
 have hPt:∀i,pz (p.take i)=P.take i:=fun i=>by rw[hP,pz,List.map_take]
 have hPg:∀i,i<P.length→P.getD i default=zT (p.getD i default):=fun i hi=>by rw[hP];exact pz_getD (by omega)
 rw[←hP]
 refine pcalls_of_awp tyok cbRAt Tryz.func22 rfl rfl ?_
 have g0:PCalls Tryz.prog 39 [.int .i64 0,.int .i64 1] (.agg (qE (qrC (evZ (rhoR pt) (P.take 0))))):=qSmall_c 0 1 (by decide) (by decide) (by decide) (by decide)
 have g1:=zSmall_c 1 (by decide) (by decide)
 ((repeat(first|refine wDB ?_|refine awp_seq_k fun K hK=>?_|refine wC g0 ?_|(refine wH ?_;clear hK)));refine wN fun b4=>?_;(repeat(first|refine wDB ?_|refine awp_seq_k fun K hK=>?_|refine wC g0 ?_|(refine wH ?_;clear hK)));refine wN fun b5=>?_;(repeat(first|refine wDB ?_|refine awp_seq_k fun K hK=>?_|refine wN fun bx=>?_|refine wC g0 ?_|(refine wH ?_;clear hK))))
 refine awp_loopP (ι:={i:Nat//i≤P.length}) (fun i=>[(0,pZ P),(1,ratsV pt),(4,.ptr b4 0),(5,.ptr b5 0),(6,.int .i64 i.1)])
  (fun i=>[.box b5 55 (.agg (qE (qrC (evZ (rhoR pt) (P.take i.1))))),.box b4 55 (.agg [.bool false,.nils,.bool false,.nils])]) (fun i=>P.length-i.1) ⟨0,Nat.zero_le _⟩ wk qpm ?_
 rintro⟨i,hi⟩
 simp only at hi ⊢
 by_cases hlt:i<P.length
 rotate_left
 ·have hge:¬(i:Int)<P.length:=by omega
  obtain rfl:i=P.length:=by omega
  rw[List.take_length]
  repeat(first|refine wDB ?_|refine awp_seq_k fun K hK=>?_|refine wN fun bx=>?_|(refine wH ?_;clear hK))
  refine rcA ?_
  exact Sub.refl _
 have hlt':(i:Int)<P.length:=by omega
 have hS:=hsum i (by omega)
 rw[hPt]at hS
 have ht:p.getD i default∈p:=getD_mem (by omega)
 have hX:=hterm _ ht
 have hpv:=hv _ ht
 have hpe:=hb.e _ ht
 have hpl:=hml _ ht
 have hg:=hPg i hlt
 have hce:((p.getD i default).c.z:Rat)=((P.getD i default).1:Rat):=by rw[hg];rfl
 have hme:(p.getD i default).m=(P.getD i default).2:=by rw[hg];rfl
 have hst:=evP_take (ρ:=rhoR pt) hlt
 rw[hce,hme]at hX
 rw[hme]at hpv hpe hpl
 have hmul:i*(C+3+M*(1+(L+1)*E))≤p.length*(C+3+M*(1+(L+1)*E)):=Nat.mul_le_mul_right _ (by omega)
 repeat(first|refine wKB ?_|refine awp_seq_k fun K hK=>?_|refine wN fun bx=>?_|(refine wH ?_;clear hK))
 refine areg_soft mixed tyok [5] [(7,[])] [0,1,2,3,4,5,6,7,8] (by decide +kernel) ?_
 ((repeat(first|refine wDB ?_|refine awp_seq_k fun K hK=>?_|refine wC g1 ?_|(refine wH ?_;clear hK)));refine wN fun b7=>?_;(repeat(first|refine wDB ?_|refine awp_seq_k fun K hK=>?_|refine wN fun bx=>?_|refine wC g1 ?_|(refine wH ?_;clear hK))))
 rw[q_new,show(((P.getD ((i:Int)).toNat default).1:Rat))=((P.getD i default).1:Rat)*mvZ (rhoR pt) ((P.getD i default).2.take 0) from (Rat.mul_one _).symm]
 refine awp_loopP (ι:={k:Nat//k≤(P.getD i default).2.length}) (fun k=>[(0,pZ P),(1,ratsV pt),(4,.ptr b4 0),(5,.ptr b5 0),(6,.int .i64 i),(7,.ptr b7 0),(8,.int .i64 k.1)])
  (fun k=>[.box b7 55 (.agg (qE (qrC (((P.getD i default).1:Rat)*mvZ (rhoR pt) ((P.getD i default).2.take k.1))))),.box b5 55 (.agg (qE (qrC (evZ (rhoR pt) (P.take i))))),.box b4 55 (.agg [.bool false,.nils,.bool false,.nils])]) (fun k=>(P.getD i default).2.length-k.1) ⟨0,Nat.zero_le _⟩ wk qpm ?_
 rintro⟨k,hk⟩
 simp only at hk ⊢
 have hXk:=hX k
 by_cases hkt:k<(P.getD i default).2.length
 rotate_left
 ·have hge:¬(k:Int)<(P.getD i default).2.length:=by omega
  obtain rfl:k=(P.getD i default).2.length:=by omega
  rw[List.take_length]at hXk ⊢
  have gA:=qAdd_c 499999 (qrC (evZ (rhoR pt) (P.take i))) (qrC (((P.getD i default).1:Rat)*mvZ (rhoR pt) (P.getD i default).2)) (by decide) ((qrC_ok hS).mono (by omega)) ((qrC_ok hXk).mono (by omega))
  rw[qrC_q,qrC_q,←hst]at gA
  repeat(first|refine wDB ?_|refine awp_seq_k fun K hK=>?_|refine wN fun bx=>?_|refine wC gA ?_|(refine wH ?_;clear hK))
  exact⟨⟨i+1,hlt⟩,wk,qpm,by simp only;omega⟩
 have hkt':(k:Int)<(P.getD i default).2.length:=by omega
 have hw:(P.getD i default).2.getD k default∈(P.getD i default).2:=getD_mem hkt
 obtain⟨v1,v2,v3⟩:=hpv _ hw
 have hwe:=hpe _ hw
 have hstep:=mv_take (ρ:=rhoR pt) hkt
 have hpq:∀v,rhoR pt v=(pt.getD (v-1).toNat default).q:=fun _=>rfl
 repeat(first|refine wDB ?_|refine awp_seq_k fun K hK=>?_|refine wN fun bx=>?_|(refine wH ?_;clear hK))
 rw[←Rat.mul_one (((P.getD i default).1:Rat)*mvZ (rhoR pt) ((P.getD i default).2.take k)),←Rat.pow_zero (rhoR pt ((P.getD i default).2.getD k default).1)]
 refine awp_loopP (ι:={n:Nat//(n:Int)≤((P.getD i default).2.getD k default).2}) (fun n=>[(0,pZ P),(1,ratsV pt),(4,.ptr b4 0),(5,.ptr b5 0),(6,.int .i64 i),(7,.ptr b7 0),(8,.int .i64 k),(9,.int .i64 n.1)])
  (fun n=>[.box b7 55 (.agg (qE (qrC (((P.getD i default).1:Rat)*mvZ (rhoR pt) ((P.getD i default).2.take k)*rhoR pt ((P.getD i default).2.getD k default).1^n.1)))),.box b5 55 (.agg (qE (qrC (evZ (rhoR pt) (P.take i))))),.box b4 55 (.agg [.bool false,.nils,.bool false,.nils])]) (fun n=>((P.getD i default).2.getD k default).2.toNat-n.1) ⟨0,by omega⟩ wk qpm ?_
 rintro⟨n,hn⟩
 simp only at hn ⊢
 have hkt2:(k:Int)<(P.getD ((i:Int)).toNat default).2.length:=hkt'
 have hx:((P.getD ((i:Int)).toNat default).2.getD ((k:Int)).toNat default).2=((P.getD i default).2.getD k default).2:=rfl
 by_cases hnt:(n:Int)<((P.getD i default).2.getD k default).2
 rotate_left
 ·obtain rfl:n=((P.getD i default).2.getD k default).2.toNat:=by omega
  rw[Rat.mul_assoc,←hstep]
  repeat(first|refine wDB ?_|refine awp_seq_k fun K hK=>?_|refine wN fun bx=>?_|(refine wH ?_;clear hK))
  exact⟨⟨k+1,hkt⟩,wk,qpm,by simp only;omega⟩
 have hLn:(L+1)*n≤(L+1)*E:=Nat.mul_le_mul_left _ (by omega)
 have hvl:(((P.getD i default).2.getD k default).1-1).toNat<pt.length:=by omega
 have hr:=hp _ (getD_mem hvl)
 have gO:=qOf_c (pt.getD (((P.getD i default).2.getD k default).1-1).toNat default) (hr.mono' (by omega))
 have gM:=qMul_c 499999 (qrC (((P.getD i default).1:Rat)*mvZ (rhoR pt) ((P.getD i default).2.take k)*rhoR pt ((P.getD i default).2.getD k default).1^n)) (ofQ (pt.getD (((P.getD i default).2.getD k default).1-1).toNat default)) (by decide)
  ((qrC_ok (hXk.mul (qok_pow (hρ ((P.getD i default).2.getD k default).1) n))).mono (by omega)) ((ofQ_ok hr).mono (by omega))
 have eM:((P.getD i default).1:Rat)*mvZ (rhoR pt) ((P.getD i default).2.take k)*rhoR pt ((P.getD i default).2.getD k default).1^n*(ofQ (pt.getD (((P.getD i default).2.getD k default).1-1).toNat default)).q=((P.getD i default).1:Rat)*mvZ (rhoR pt) ((P.getD i default).2.take k)*rhoR pt ((P.getD i default).2.getD k default).1^(n+1):=by
  rw[ofQ_q,←hpq,Rat.pow_succ,Rat.mul_assoc]
 rw[qrC_q,eM]at gM
 have d1:1≤((P.getD ((i:Int)).toNat default).2.getD ((k:Int)).toNat default).1:=v1
 have d2:((P.getD ((i:Int)).toNat default).2.getD ((k:Int)).toNat default).1≤pt.length:=v2
 repeat(first|refine wKB ?_|refine awp_seq_k fun K hK=>?_|refine wN fun bx=>?_|(refine wH ?_;clear hK))
 refine areg_soft mixed tyok [14,15] [] [0,1,2,3,4,5,6,7,8,9,10,11,12,13,14,15,16] (by decide +kernel) ?_
 repeat(first|refine wDB ?_|refine awp_seq_k fun K hK=>?_|refine wN fun bx=>?_|refine wC gO ?_|refine wC gM ?_|(refine wH ?_;clear hK))
 exact⟨⟨n+1,hnt⟩,wk,qpm,by simp only;omega⟩
end Go.Proofs.YtamgilppehibeaaGreatDoor
namespace Go.Proofs.YtamgilppehibeaaGreatDoor
open Go.Ab
def bigE (t:TermR):Bool:=t.m.any fun w=>decide (12<w.2)
def bigQ (x:RatR):Bool:=decide (3<x.n.mag.length) || decide (3<x.d.mag.length)
def great10 (p:List TermR) (pt:List RatR):Bool:=greatP8 p 12 || decide (10<pt.length) || p.any bigE || pt.any bigQ
theorem cbGreat10:Callable Tryz.prog 18:=fun _ _=>by kernel_rfl
theorem great10_c (p:List TermR) (pt:List RatR) (hr:RawP p) (hq:∀y∈pt,RawQ y) (hl:pt.length≤1000000000000000):PCalls Tryz.prog 18 [polyV p,ratsV pt] (.bool (great10 p pt)):=by
 refine pcalls_of_awp tyok cbGreat10 Tryz.func18 rfl rfl ?_
 have hrl:=hr.len
 have g:=rpgreat_c p 12 (by omega)
 cases hg:greatP8 p 12 with
 |true=>
  rw[hg]at g
  have e:great10 p pt=true:=by unfold great10;rw[hg];rfl
  rw[e]
  repeat(first|refine wDB ?_|refine awp_seq_k fun K hK=>?_|refine wN fun bx=>?_|refine wC g ?_|(refine wH ?_;clear hK))
  refine r1 ?_
  exact Sub.refl _
 |false=>
 rw[hg]at g
 by_cases h10:10<pt.length
 ·have h10':(pt.length:Int)>10:=by omega
  have e:great10 p pt=true:=by unfold great10;rw[hg,decide_eq_true h10];rfl
  rw[e]
  repeat(first|refine wDB ?_|refine awp_seq_k fun K hK=>?_|refine wN fun bx=>?_|refine wC g ?_|(refine wH ?_;clear hK))
  refine r1 ?_
  exact Sub.refl _
 have h10':¬(pt.length:Int)>10:=by omega
 have e0:great10 p pt=(p.any bigE || pt.any bigQ):=by unfold great10;rw[hg,decide_eq_false h10];rfl
 rw[e0]
 clear e0
 repeat(first|refine wDB ?_|refine awp_seq_k fun K hK=>?_|refine wN fun bx=>?_|refine wC g ?_|(refine wH ?_;clear hK))
 refine awp_loop0 (ι:={i:Nat//i≤p.length∧∀j,j<i→bigE (p.getD j default)=false}) (fun i=>[(0,polyV p),(1,ratsV pt),(16,.int .i64 p.length),(17,.int .i64 i.1)]) (fun _=>[]) (fun i=>p.length-i.1) ⟨0,Nat.zero_le _,fun j hj=>absurd hj (Nat.not_lt_zero j)⟩ wk dp ?_
 rintro⟨i,hi,hs⟩
 simp only at hi hs ⊢
 by_cases hlt:i<p.length
 rotate_left
 ·have hge:¬(i:Int)<p.length:=by omega
  obtain rfl:i=p.length:=by omega
  have e1:(p.any bigE || pt.any bigQ)=pt.any bigQ:=by rw[any_false hs,Bool.false_or]
  repeat(first|refine wDB ?_|refine awp_seq_k fun K hK=>?_|refine wN fun bx=>?_|(refine wH ?_;clear hK))
  refine awp_loop0 (ι:={i:Nat//i≤pt.length∧∀j,j<i→bigQ (pt.getD j default)=false}) (fun i=>[(1,ratsV pt),(42,.int .i64 pt.length),(43,.int .i64 i.1)]) (fun _=>[]) (fun i=>pt.length-i.1) ⟨0,Nat.zero_le _,fun j hj=>absurd hj (Nat.not_lt_zero j)⟩ wk dp ?_
  rintro⟨j,hj,hs2⟩
  simp only at hj hs2 ⊢
  by_cases hjl:j<pt.length
  rotate_left
  ·have hge:¬(j:Int)<pt.length:=by omega
   obtain rfl:j=pt.length:=by omega
   repeat(first|refine wDB ?_|refine awp_seq_k fun K hK=>?_|refine wN fun bx=>?_|(refine wH ?_;clear hK))
   refine r1 ?_
   exact Sub.of_eq (congrArg AV.bool (by rw[e1,any_false hs2]))
  have hjl':(j:Int)<pt.length:=by omega
  have hrq:=hq _ (getD_mem hjl)
  have hnn:=hrq.nn
  have hdn:=hrq.dn
  have yes:bigQ (pt.getD j default)=true→Sub (AV.bool true) (AV.bool (p.any bigE || pt.any bigQ)):=fun h=>Sub.of_eq (congrArg AV.bool (by rw[e1,any_hit hjl h]))
  by_cases h1:3<(pt.getD j default).n.mag.length
  ·have h1':((pt.getD j default).n.mag.length:Int)>3:=by omega
   have e:=yes (by unfold bigQ;rw[decide_eq_true h1];rfl)
   repeat(first|refine wDB ?_|refine awp_seq_k fun K hK=>?_|refine wN fun bx=>?_|(refine wH ?_;clear hK))
   refine r1 ?_
   exact e
  have h1':¬((pt.getD j default).n.mag.length:Int)>3:=by omega
  by_cases h2:3<(pt.getD j default).d.mag.length
  ·have h2':((pt.getD j default).d.mag.length:Int)>3:=by omega
   have e:=yes (by unfold bigQ;rw[decide_eq_true h2,Bool.or_true])
   repeat(first|refine wDB ?_|refine awp_seq_k fun K hK=>?_|refine wN fun bx=>?_|(refine wH ?_;clear hK))
   refine r1 ?_
   exact e
  have h2':¬((pt.getD j default).d.mag.length:Int)>3:=by omega
  have hno:bigQ (pt.getD j default)=false:=by unfold bigQ;rw[decide_eq_false h1,decide_eq_false h2];rfl
  repeat(first|refine wDB ?_|refine awp_seq_k fun K hK=>?_|refine wN fun bx=>?_|(refine wH ?_;clear hK))
  refine⟨⟨j+1,hjl,fun q hq=>?_⟩,wk,dp,by simp only;omega⟩
  by_cases e:q=j
  ·rw[e];exact hno
  ·exact hs2 q (by omega)
 have hlt':(i:Int)<p.length:=by omega
 have hrt:=hr.at' _ (getD_mem hlt)
 have htm:=hrt.m
 have yes:bigE (p.getD i default)=true→Sub (AV.bool true) (AV.bool (p.any bigE || pt.any bigQ)):=fun h=>Sub.of_eq (congrArg AV.bool (by rw[any_hit hlt h];rfl))
 repeat(first|refine wDB ?_|refine awp_seq_k fun K hK=>?_|refine wN fun bx=>?_|(refine wH ?_;clear hK))
 refine awp_loop0 (ι:={k:Nat//k≤(p.getD i default).m.length∧∀q,q<k→decide (12<((p.getD i default).m.getD q default).2)=false}) (fun k=>[(0,polyV p),(1,ratsV pt),(5,.int .i64 i),(16,.int .i64 p.length),(17,.int .i64 i),(25,.int .i64 (p.getD i default).m.length),(26,.int .i64 k.1)]) (fun _=>[]) (fun k=>(p.getD i default).m.length-k.1) ⟨0,Nat.zero_le _,fun j hj=>absurd hj (Nat.not_lt_zero j)⟩ wk dp ?_
 rintro⟨k,hk,hsk⟩
 simp only at hk hsk ⊢
 by_cases hkl:k<(p.getD i default).m.length
 rotate_left
 ·have hge:¬(k:Int)<(p.getD i default).m.length:=by omega
  obtain rfl:k=(p.getD i default).m.length:=by omega
  have hb:bigE (p.getD i default)=false:=any_false hsk
  repeat(first|refine wDB ?_|refine awp_seq_k fun K hK=>?_|refine wN fun bx=>?_|(refine wH ?_;clear hK))
  refine⟨⟨i+1,hlt,fun q hq=>?_⟩,wk,dp,by simp only;omega⟩
  by_cases e:q=i
  ·rw[e];exact hb
  ·exact hs q (by omega)
 have hkl':(k:Int)<(p.getD i default).m.length:=by omega
 have hkl2:(k:Int)<(p.getD ((i:Int)).toNat default).m.length:=hkl'
 have hx:((p.getD ((i:Int)).toNat default).m.getD ((k:Int)).toNat default).2=((p.getD i default).m.getD k default).2:=rfl
 by_cases h3:12<((p.getD i default).m.getD k default).2
 ·have h3':((p.getD i default).m.getD k default).2>12:=by omega
  have e:=yes (any_hit (f:=fun w:Pw=>decide (12<w.2)) hkl (decide_eq_true h3))
  repeat(first|refine wDB ?_|refine awp_seq_k fun K hK=>?_|refine wN fun bx=>?_|(refine wH ?_;clear hK))
  refine r1 ?_
  exact e
 have h3':¬((p.getD i default).m.getD k default).2>12:=by omega
 repeat(first|refine wDB ?_|refine awp_seq_k fun K hK=>?_|refine wN fun bx=>?_|(refine wH ?_;clear hK))
 refine⟨⟨k+1,hkl,fun q hq=>?_⟩,wk,dp,by simp only;omega⟩
 by_cases e:q=k
 ·rw[e];exact decide_eq_false h3
 ·exact hsk q (by omega)
theorem great10_ok {p:List TermR} {pt:List RatR} (hr:RawP p) (hq:∀y∈pt,RawQ y) (h:great10 p pt=false):BdV 20 12 12 p∧p.length≤12∧pt.length≤10∧(∀y∈pt,RatOk 3 y)∧PolyOk 1000000 p∧OkV p pt:=by
 unfold great10 at h
 simp only[Bool.or_eq_false_iff,decide_eq_false_iff_not]at h
 obtain⟨⟨⟨h1,h2⟩,h3⟩,h4⟩:=h
 unfold greatP8 at h1
 rw[Bool.or_eq_false_iff,decide_eq_false_iff_not]at h1
 obtain⟨h1a,h1b⟩:=h1
 have hp:∀t∈p,t.c.mag.length≤20∧t.m.length≤12:=fun t ht=>by
  have h5:=List.any_eq_false.1 h1a t ht
  unfold bigT8 at h5
  simp only[Bool.or_eq_true,not_or,decide_eq_true_eq]at h5
  omega
 have he:∀t∈p,∀w∈t.m,w.2≤((12:Nat):Int):=fun t ht w hw=>by
  have h5:=List.any_eq_false.1 (Bool.eq_false_iff.2 (List.any_eq_false.1 h3 t ht)) w hw
  simp only[decide_eq_true_eq]at h5
  omega
 have hq3:∀y∈pt,RatOk 3 y:=fun y hy=>by
  have h5:=List.any_eq_false.1 h4 y hy
  unfold bigQ at h5
  simp only[Bool.or_eq_true,not_or,decide_eq_true_eq]at h5
  exact⟨⟨(hq y hy).nl,by omega⟩,⟨(hq y hy).dl,by omega⟩⟩
 have hb:BdV 20 12 12 p:=⟨fun t ht=>⟨(hr.at' t ht).lt,(hp t ht).1⟩,fun t ht=>(hp t ht).2,he⟩
 have ho:PolyOk 1000000 p:=⟨by omega,fun t ht=>⟨⟨(hr.at' t ht).lt,by have:=(hp t ht).1;omega⟩,by have:=(hp t ht).2;omega⟩⟩
 refine⟨hb,by omega,by omega,hq3,ho,⟨ho,⟨20,12,12,2,hb,by decide,hq3,?_,by decide,by decide⟩,by omega⟩⟩
 omega
end Go.Proofs.YtamgilppehibeaaGreatDoor
namespace Go.Proofs.YtamgilppehibeaaGreatDoor
open Go.Ab
theorem cbAt10:Callable Tryz.prog 5:=fun _ _=>by kernel_rfl
theorem valueAt_c (p:List TermR) (pt:List RatR) (hr:RawP p) (hql:(∀y∈pt,RawQ y)∧pt.length≤1000000000000000):PCalls Tryz.prog 5 [polyV p,ratsV pt] (.bool true):=by
 refine pcalls_of_awp tyok cbAt10 Tryz.func5 rfl rfl ?_
 obtain⟨hq,hl⟩:=hql
 have gK:=known10_c
 have gG:=great10_c p pt hr hq hl
 cases hg:great10 p pt with
 |true=>
  rw[hg]at gG
  repeat(first|refine wDB ?_|refine awp_seq_k fun K hK=>?_|refine wN fun bx=>?_|refine wC gG ?_|refine wC gK ?_|(refine wH ?_;clear hK))
  refine r1 ?_
  exact Sub.refl _
 |false=>
 rw[hg]at gG
 obtain⟨hb,hpl,hptl,hq3,ho,hv⟩:=great10_ok hr hq hg
 obtain⟨gA,-⟩:=at_c hv
 have gS:=vsign_c hv
 have gM:=rpmay_c p ho
 cases hm:mayP p with
 |false=>
  rw[hm]at gM
  have e1:atE p pt=2:=by unfold atE;rw[if_pos hm]
  have e2:sgE p pt=0:=by unfold sgE;rw[e1];rfl
  rw[e1]at gA gS
  rw[e2]at gS
  ((repeat(first|refine wDB ?_|refine awp_seq_k fun K hK=>?_|refine wC gG ?_|refine wC gA ?_|refine wC gS ?_|refine wC gM ?_|(refine wH ?_;clear hK)));refine wN fun b5=>?_;(repeat(first|refine wDB ?_|refine awp_seq_k fun K hK=>?_|refine wN fun bx=>?_|refine wC gG ?_|refine wC gA ?_|refine wC gS ?_|refine wC gM ?_|(refine wH ?_;clear hK))))
  repeat(first|refine wDE ?_|refine awp_seq_k fun K hK=>?_|refine wN fun bx=>?_|refine wC gK ?_|(refine wH ?_;clear hK))
  refine r1 ?_
  exact Sub.refl _
 |true=>
 rw[hm]at gM
 have hc:=canon_of hm
 have gO:=rpof_c p 20 (by decide) ⟨by omega,fun t ht=>⟨hb.c t ht,by have:=hb.m t ht;omega⟩⟩ fun t ht=>hc.may (zT t) (List.mem_map_of_mem ht)
 rw[colZ_self hc]at gO
 have gC:=rpclass_c (pz p) hc.may (by rw[List.length_map];omega)
 rw[←classP_z hm]at gC
 by_cases hcl:classP p>pt.length
 ·have e1:atE p pt=5:=by unfold atE;rw[if_neg (by rw[hm];decide),if_pos hcl]
  have e2:sgE p pt=0:=by unfold sgE;rw[e1];rfl
  rw[e1]at gA gS
  rw[e2]at gS
  ((repeat(first|refine wDB ?_|refine awp_seq_k fun K hK=>?_|refine wC gG ?_|refine wC gA ?_|refine wC gS ?_|refine wC gM ?_|refine wC gO ?_|refine wC gC ?_|(refine wH ?_;clear hK)));refine wN fun b5=>?_;(repeat(first|refine wDB ?_|refine awp_seq_k fun K hK=>?_|refine wN fun bx=>?_|refine wC gG ?_|refine wC gA ?_|refine wC gS ?_|refine wC gM ?_|refine wC gO ?_|refine wC gC ?_|(refine wH ?_;clear hK))))
  repeat(first|refine wDE ?_|refine awp_seq_k fun K hK=>?_|refine wN fun bx=>?_|refine wC gK ?_|(refine wH ?_;clear hK))
  refine r1 ?_
  exact Sub.refl _
 have e1:atE p pt=0:=by unfold atE;rw[if_neg (by rw[hm];decide),if_neg hcl]
 have e2:sgE p pt=signQ (evZ (rhoR pt) (pz p)):=by unfold sgE;rw[if_pos e1]
 have e3:atR p pt=ratC (evZ (rhoR pt) (pz p)):=by unfold atR;rw[if_pos e1]
 rw[e1,e3]at gA
 rw[e1,e2]at gS
 have gV:=rat10_c p pt 20 12 12 2 (by omega) (fun t ht=>by have:=hb.m t ht;omega) hb (by decide) hq3 (by omega) (fun t ht w hw=>var_in hm (by omega) ht hw) (by omega)
 have hS:=qok_sum hb (rho_ok hq3) p.length (Nat.le_refl _)
 rw[List.take_length]at hS
 have hS':QOk 10000 (evZ (rhoR pt) (pz p)):=hS.mono (by omega)
 generalize evZ (rhoR pt) (pz p)=q at gA gS gV hS'
 have gR:=qRat_c 10000 (qrC q) (by decide) (qrC_ok hS')
 rw[qrC_q]at gR
 have hn:=(ratC_ok1 hS' (by decide)).mono' (m:=1000000000) (by decide)
 have gE:=qSame_c (ratC q) (ratC q) hn hn
 rw[sameR_C,decide_eq_true rfl]at gE
 have gT:=qSign_c q
 generalize signQ q=sg at gS gT
 ((repeat(first|refine wKB ?_|refine awp_seq_k fun K hK=>?_|refine wC gG ?_|refine wC gA ?_|refine wC gS ?_|refine wC gM ?_|refine wC gO ?_|refine wC gC ?_|refine wC gV ?_|(refine wH ?_;clear hK)));refine wN fun b5=>?_;(repeat(first|refine wKB ?_|refine awp_seq_k fun K hK=>?_|refine wC gG ?_|refine wC gA ?_|refine wC gS ?_|refine wC gM ?_|refine wC gO ?_|refine wC gC ?_|refine wC gV ?_|(refine wH ?_;clear hK)));refine wN fun b10=>?_;(repeat(first|refine wKB ?_|refine awp_seq_k fun K hK=>?_|refine wN fun bx=>?_|refine wC gG ?_|refine wC gA ?_|refine wC gS ?_|refine wC gM ?_|refine wC gO ?_|refine wC gC ?_|refine wC gV ?_|(refine wH ?_;clear hK))))
 refine areg_soft mixed tyok [5,6,11,15] [] [0,1,2,3,4,5,6,7,8,9,10,11,12,13,14,15,16,17] (by decide +kernel) ?_
 repeat(first|refine wDE ?_|refine awp_seq_k fun K hK=>?_|refine wN fun bx=>?_|refine wC gR ?_|refine wC gE ?_|refine wC gT ?_|refine wC gK ?_|(refine wH ?_;clear hK))
 refine r1 ?_
 exact Sub.refl _
end Go.Proofs.YtamgilppehibeaaGreatDoor
