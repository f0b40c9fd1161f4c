/-
  The law of layer 10: what is great.
-/
import Derived.Test.YtamgilppehibeaaGreatDoorVlM
import Derived.Test.YtamgilppehibeaaGreatDoorRdA
import Derived.Test.YtamgilppehibeaaGreatDoorMoM
import Derived.Test.YtamgilppehibeaaGreatDoorVkM
set_option maxRecDepth 100000
set_option maxHeartbeats 12800000
namespace Go.Proofs.YtamgilppehibeaaGreatDoor
open Go.Ab
def bigE (t:TermR):Bool:=t.m.any fun w=>decide (12<w.2)
def bigQ (x:RatR):Bool:=decide (3<x.n.mag.length) || decide (3<x.d.mag.length)
def great10 (p:List TermR) (pt:List RatR):Bool:=greatP8 p 12 || decide (10<pt.length) || p.any bigE || pt.any bigQ
theorem cbGreat10:Callable Tryz.prog 18:=fun _ _=>by kernel_rfl
theorem great10_c (p:List TermR) (pt:List RatR) (hr:RawP p) (hq:∀y∈pt,RawQ y) (hl:pt.length≤1000000000000000):PCalls Tryz.prog 18 [polyV p,ratsV pt] (.bool (great10 p pt)):=by
 refine pcalls_of_awp tyok cbGreat10 Tryz.func18 rfl rfl ?_
 have hrl:=hr.len
 have g:=rpgreat_c p 12 (by omega)
 cases hg:greatP8 p 12 with
 |true=>
  rw[hg]at g
  have e:great10 p pt=true:=by unfold great10;rw[hg];rfl
  rw[e]
  repeat(first|refine wDB ?_|refine awp_seq_k fun K hK=>?_|refine wN fun bx=>?_|refine wC g ?_|(refine wH ?_;clear hK))
  refine r1 ?_
  exact Sub.refl _
 |false=>
 rw[hg]at g
 by_cases h10:10<pt.length
 ·have h10':(pt.length:Int)>10:=by omega
  have e:great10 p pt=true:=by unfold great10;rw[hg,decide_eq_true h10];rfl
  rw[e]
  repeat(first|refine wDB ?_|refine awp_seq_k fun K hK=>?_|refine wN fun bx=>?_|refine wC g ?_|(refine wH ?_;clear hK))
  refine r1 ?_
  exact Sub.refl _
 have h10':¬(pt.length:Int)>10:=by omega
 have e0:great10 p pt=(p.any bigE || pt.any bigQ):=by unfold great10;rw[hg,decide_eq_false h10];rfl
 rw[e0]
 clear e0
 repeat(first|refine wDB ?_|refine awp_seq_k fun K hK=>?_|refine wN fun bx=>?_|refine wC g ?_|(refine wH ?_;clear hK))
 refine awp_loop0 (ι:={i:Nat//i≤p.length∧∀j,j<i→bigE (p.getD j default)=false}) (fun i=>[(0,polyV p),(1,ratsV pt),(16,.int .i64 p.length),(17,.int .i64 i.1)]) (fun _=>[]) (fun i=>p.length-i.1) ⟨0,Nat.zero_le _,fun j hj=>absurd hj (Nat.not_lt_zero j)⟩ wk dp ?_
 rintro⟨i,hi,hs⟩
 simp only at hi hs ⊢
 by_cases hlt:i<p.length
 rotate_left
 ·have hge:¬(i:Int)<p.length:=by omega
  obtain rfl:i=p.length:=by omega
  have e1:(p.any bigE || pt.any bigQ)=pt.any bigQ:=by rw[any_false hs,Bool.false_or]
  repeat(first|refine wDB ?_|refine awp_seq_k fun K hK=>?_|refine wN fun bx=>?_|(refine wH ?_;clear hK))
  refine awp_loop0 (ι:={i:Nat//i≤pt.length∧∀j,j<i→bigQ (pt.getD j default)=false}) (fun i=>[(1,ratsV pt),(42,.int .i64 pt.length),(43,.int .i64 i.1)]) (fun _=>[]) (fun i=>pt.length-i.1) ⟨0,Nat.zero_le _,fun j hj=>absurd hj (Nat.not_lt_zero j)⟩ wk dp ?_
  rintro⟨j,hj,hs2⟩
  simp only at hj hs2 ⊢
  by_cases hjl:j<pt.length
  rotate_left
  ·have hge:¬(j:Int)<pt.length:=by omega
   obtain rfl:j=pt.length:=by omega
   repeat(first|refine wDB ?_|refine awp_seq_k fun K hK=>?_|refine wN fun bx=>?_|(refine wH ?_;clear hK))
   refine r1 ?_
   exact Sub.of_eq (congrArg AV.bool (by rw[e1,any_false hs2]))
  have hjl':(j:Int)<pt.length:=by omega
  have hrq:=hq _ (getD_mem hjl)
  have hnn:=hrq.nn
  have hdn:=hrq.dn
  have yes:bigQ (pt.getD j default)=true→Sub (AV.bool true) (AV.bool (p.any bigE || pt.any bigQ)):=fun h=>Sub.of_eq (congrArg AV.bool (by rw[e1,any_hit hjl h]))
  by_cases h1:3<(pt.getD j default).n.mag.length
  ·have h1':((pt.getD j default).n.mag.length:Int)>3:=by omega
   have e:=yes (by unfold bigQ;rw[decide_eq_true h1];rfl)
   repeat(first|refine wDB ?_|refine awp_seq_k fun K hK=>?_|refine wN fun bx=>?_|(refine wH ?_;clear hK))
   refine r1 ?_
   exact e
  have h1':¬((pt.getD j default).n.mag.length:Int)>3:=by omega
  by_cases h2:3<(pt.getD j default).d.mag.length
  ·have h2':((pt.getD j default).d.mag.length:Int)>3:=by omega
   have e:=yes (by unfold bigQ;rw[decide_eq_true h2,Bool.or_true])
   repeat(first|refine wDB ?_|refine awp_seq_k fun K hK=>?_|refine wN fun bx=>?_|(refine wH ?_;clear hK))
   refine r1 ?_
   exact e
  have h2':¬((pt.getD j default).d.mag.length:Int)>3:=by omega
  have hno:bigQ (pt.getD j default)=false:=by unfold bigQ;rw[decide_eq_false h1,decide_eq_false h2];rfl
  repeat(first|refine wDB ?_|refine awp_seq_k fun K hK=>?_|refine wN fun bx=>?_|(refine wH ?_;clear hK))
  refine⟨⟨j+1,hjl,fun q hq=>?_⟩,wk,dp,by simp only;omega⟩
  by_cases e:q=j
  ·rw[e];exact hno
  ·exact hs2 q (by omega)
 have hlt':(i:Int)<p.length:=by omega
 have hrt:=hr.at' _ (getD_mem hlt)
 have htm:=hrt.m
 have yes:bigE (p.getD i default)=true→Sub (AV.bool true) (AV.bool (p.any bigE || pt.any bigQ)):=fun h=>Sub.of_eq (congrArg AV.bool (by rw[any_hit hlt h];rfl))
 repeat(first|refine wDB ?_|refine awp_seq_k fun K hK=>?_|refine wN fun bx=>?_|(refine wH ?_;clear hK))
 refine awp_loop0 (ι:={k:Nat//k≤(p.getD i default).m.length∧∀q,q<k→decide (12<((p.getD i default).m.getD q default).2)=false}) (fun k=>[(0,polyV p),(1,ratsV pt),(5,.int .i64 i),(16,.int .i64 p.length),(17,.int .i64 i),(25,.int .i64 (p.getD i default).m.length),(26,.int .i64 k.1)]) (fun _=>[]) (fun k=>(p.getD i default).m.length-k.1) ⟨0,Nat.zero_le _,fun j hj=>absurd hj (Nat.not_lt_zero j)⟩ wk dp ?_
 rintro⟨k,hk,hsk⟩
 simp only at hk hsk ⊢
 by_cases hkl:k<(p.getD i default).m.length
 rotate_left
 ·have hge:¬(k:Int)<(p.getD i default).m.length:=by omega
  obtain rfl:k=(p.getD i default).m.length:=by omega
  have hb:bigE (p.getD i default)=false:=any_false hsk
  repeat(first|refine wDB ?_|refine awp_seq_k fun K hK=>?_|refine wN fun bx=>?_|(refine wH ?_;clear hK))
  refine⟨⟨i+1,hlt,fun q hq=>?_⟩,wk,dp,by simp only;omega⟩
  by_cases e:q=i
  ·rw[e];exact hb
  ·exact hs q (by omega)
 have hkl':(k:Int)<(p.getD i default).m.length:=by omega
 have hkl2:(k:Int)<(p.getD ((i:Int)).toNat default).m.length:=hkl'
 have hx:((p.getD ((i:Int)).toNat default).m.getD ((k:Int)).toNat default).2=((p.getD i default).m.getD k default).2:=rfl
 by_cases h3:12<((p.getD i default).m.getD k default).2
 ·have h3':((p.getD i default).m.getD k default).2>12:=by omega
  have e:=yes (any_hit (f:=fun w:Pw=>decide (12<w.2)) hkl (decide_eq_true h3))
  repeat(first|refine wDB ?_|refine awp_seq_k fun K hK=>?_|refine wN fun bx=>?_|(refine wH ?_;clear hK))
  refine r1 ?_
  exact e
 have h3':¬((p.getD i default).m.getD k default).2>12:=by omega
 repeat(first|refine wDB ?_|refine awp_seq_k fun K hK=>?_|refine wN fun bx=>?_|(refine wH ?_;clear hK))
 refine⟨⟨k+1,hkl,fun q hq=>?_⟩,wk,dp,by simp only;omega⟩
 by_cases e:q=k
 ·rw[e];exact decide_eq_false h3
 ·exact hsk q (by omega)
theorem great10_ok {p:List TermR} {pt:List RatR} (hr:RawP p) (hq:∀y∈pt,RawQ y) (h:great10 p pt=false):BdV 20 12 12 p∧p.length≤12∧pt.length≤10∧(∀y∈pt,RatOk 3 y)∧PolyOk 1000000 p∧OkV p pt:=by
 unfold great10 at h
 simp only[Bool.or_eq_false_iff,decide_eq_false_iff_not]at h
 obtain⟨⟨⟨h1,h2⟩,h3⟩,h4⟩:=h
 unfold greatP8 at h1
 rw[Bool.or_eq_false_iff,decide_eq_false_iff_not]at h1
 obtain⟨h1a,h1b⟩:=h1
 have hp:∀t∈p,t.c.mag.length≤20∧t.m.length≤12:=fun t ht=>by
  have h5:=List.any_eq_false.1 h1a t ht
  unfold bigT8 at h5
  simp only[Bool.or_eq_true,not_or,decide_eq_true_eq]at h5
  omega
 have he:∀t∈p,∀w∈t.m,w.2≤((12:Nat):Int):=fun t ht w hw=>by
  have h5:=List.any_eq_false.1 (Bool.eq_false_iff.2 (List.any_eq_false.1 h3 t ht)) w hw
  simp only[decide_eq_true_eq]at h5
  omega
 have hq3:∀y∈pt,RatOk 3 y:=fun y hy=>by
  have h5:=List.any_eq_false.1 h4 y hy
  unfold bigQ at h5
  simp only[Bool.or_eq_true,not_or,decide_eq_true_eq]at h5
  exact⟨⟨(hq y hy).nl,by omega⟩,⟨(hq y hy).dl,by omega⟩⟩
 have hb:BdV 20 12 12 p:=⟨fun t ht=>⟨(hr.at' t ht).lt,(hp t ht).1⟩,fun t ht=>(hp t ht).2,he⟩
 have ho:PolyOk 1000000 p:=⟨by omega,fun t ht=>⟨⟨(hr.at' t ht).lt,by have:=(hp t ht).1;omega⟩,by have:=(hp t ht).2;omega⟩⟩
 refine⟨hb,by omega,by omega,hq3,ho,⟨ho,⟨20,12,12,2,hb,by decide,hq3,?_,by decide,by decide⟩,by omega⟩⟩
 omega
end Go.Proofs.YtamgilppehibeaaGreatDoor
namespace Go.Proofs.YtamgilppehibeaaGreatDoor
open Go.Ab
structure Sm (n E M:Nat) (m:List Pw):Prop where
 v:∀w∈m,w.1≤(n:Int)
 e:∀w∈m,w.2≤(E:Int)
 l:m.length≤M
theorem col_all {l:PZ} (hm:∀t∈l,may t.2=true) {Q:List Pw→Prop} (h:∀t∈l,Q t.2):∀t∈colZ l,Q t.2:=fun t ht=>by
 obtain⟨h1,h2⟩:=colZ_law hm
 obtain⟨u,hu,e⟩:=coef_mem (p:=l) (m:=t.2) (by rw[←h2,h1.at' t ht];exact h1.nz t ht)
 exact e▸h u hu
theorem deg_sm {E:Nat} {v:Int}:∀{m:List Pw},(∀w∈m,w.2≤(E:Int))→degF v m≤E
 |[],_=>by show(0:Int)≤E;omega
 |p::m,h=>by
  unfold degF
  split
  ·exact h p (List.mem_cons_self ..)
  ·exact deg_sm fun w hw=>h w (List.mem_cons_of_mem _ hw)
theorem times_sm {n E F M K:Nat} {a b:List Pw} (ha:may a=true) (hb:may b=true) (h1:Sm n E M a) (h2:Sm n F K b):Sm n (E+F) (M+K) (timesF a b).1:=by
 have e0:(timesF a b).1=madeF gAdd (zipM a b)∨(timesF a b).1=[]:=by
  rw[timesF,ha,hb]
  cases may (madeF gAdd (zipM a b))
  ·exact .inr rfl
  ·exact .inl rfl
 rcases e0 with e|e
 ·rw[e]
  have hl:=madeF_len gAdd a b
  have l1:=h1.l
  have l2:=h2.l
  refine⟨fun w hw=>?_,fun w hw=>?_,by omega⟩
  ·obtain⟨t,ht,rfl,h0⟩:=made_mem hw
   obtain⟨d1,d2⟩:=zip_deg a b (may_srt ha).1 (may_srt hb).1 t ht
   have h0':0<t.2.1+t.2.2:=h0
   by_cases hz:degF t.1 a=0
   ·obtain⟨p,hp,e⟩:=deg_mem (v:=t.1) (m:=b) (by omega)
    have:=h2.v p hp
    simp only
    omega
   ·obtain⟨p,hp,e⟩:=deg_mem (v:=t.1) (m:=a) hz
    have:=h1.v p hp
    simp only
    omega
  ·obtain⟨t,ht,rfl,h0⟩:=made_mem hw
   obtain⟨d1,d2⟩:=zip_deg a b (may_srt ha).1 (may_srt hb).1 t ht
   have:=deg_sm (v:=t.1) h1.e
   have:=deg_sm (v:=t.1) h2.e
   show t.2.1+t.2.2≤_
   omega
 ·rw[e]
  exact⟨fun w hw=>absurd hw List.not_mem_nil,fun w hw=>absurd hw List.not_mem_nil,Nat.zero_le _⟩
theorem class_sm {n:Nat} {m:List Pw} (hm:may m=true) (h:∀w∈m,w.1≤(n:Int)):classF m≤n:=by
 unfold classF
 rw[plainF_may hm]
 split
 ·rename_i p e
  exact h p (List.mem_of_getLast? e)
 ·omega
theorem sm_okV {k E M:Nat} {P:PZ} {pt:List RatR} (hc:CanK k P) (hE:E<300) (hp:∀x∈pt,RatOk 3 x) (hpt:pt.length≤10) (hs:∀t∈P,Sm pt.length E M t.2) (hl:P.length≤400000000)
  (hB:1+P.length*(k+3+M*(1+3*E))≤1000000) (hB2:k+3+M*(1+3*E)≤1000000):OkV (P.map zR) pt∧atE (P.map zR) pt=0∧atR (P.map zR) pt=ratC (evZ (rhoR pt) P):=by
 have hok:=hc.ok hl
 have hm:mayP (P.map zR)=true:=hc.may
 have hcl:classP (P.map zR)≤pt.length:=by
  cases P with
  |nil=>show(0:Int)≤_;omega
  |cons t r=>exact class_sm (hc.can.may t (List.mem_cons_self ..)) (hs t (List.mem_cons_self ..)).v
 have e0:atE (P.map zR) pt=0:=by unfold atE;rw[if_neg (by rw[hm];decide),if_neg (by omega)]
 refine⟨⟨hok.mono (by omega),⟨k,M,E,2,⟨fun t ht=>(hok.at' t ht).c,fun t ht=>?_,fun t ht=>?_⟩,hE,hp,?_,hB2,by omega⟩,by omega⟩,e0,?_⟩
 ·obtain⟨u,hu,rfl⟩:=List.mem_map.1 ht
  exact(hs u hu).l
 ·obtain⟨u,hu,rfl⟩:=List.mem_map.1 ht
  exact(hs u hu).e
 ·rw[List.length_map]
  exact hB
 ·unfold atR
  rw[if_pos e0,pz,zT_map]
theorem ring_sum {p q:List TermR} {pt:List RatR} (hb:BdV 20 12 12 p) (hb':BdV 20 12 12 q) (hl:p.length≤12) (hl':q.length≤12) (hm:mayP p=true) (hm':mayP q=true) (hp:∀x∈pt,RatOk 3 x) (hpt:pt.length≤10)
  (hc:classP p≤pt.length) (hc':classP q≤pt.length):
  OkV ((colZ ((p++q).map zT)).map zR) pt∧atE ((colZ ((p++q).map zT)).map zR) pt=0∧atR ((colZ ((p++q).map zT)).map zR) pt=ratC (evZ (rhoR pt) (pz p)+evZ (rhoR pt) (pz q)):=by
 have c1:=canon_of hm
 have c2:=canon_of hm'
 have hmm:∀t∈(p++q).map zT,may t.2=true:=fun t ht=>by
  rw[List.map_append]at ht
  rcases List.mem_append.1 ht with h|h
  ·exact c1.may t h
  ·exact c2.may t h
 have hz:∀t∈(p++q).map zT,ZOk 20 t.1:=fun t ht=>by
  obtain⟨u,hu,rfl⟩:=List.mem_map.1 ht
  rcases List.mem_append.1 hu with h|h
  ·exact intR_zok (hb.c u h)
  ·exact intR_zok (hb'.c u h)
 have hs:∀t∈(p++q).map zT,Sm pt.length 12 12 t.2:=fun t ht=>by
  obtain⟨u,hu,rfl⟩:=List.mem_map.1 ht
  rcases List.mem_append.1 hu with h|h
  ·exact⟨fun w hw=>(var_in hm hc h hw).2.1,hb.e u h,hb.m u h⟩
  ·exact⟨fun w hw=>(var_in hm' hc' h hw).2.1,hb'.e u h,hb'.m u h⟩
 have hlen:=colZ_len ((p++q).map zT)
 rw[List.length_map,List.length_append]at hlen
 have hk:=col_canK hmm hz (by rw[List.length_map,List.length_append];omega)
 have h:=sm_okV hk (by decide) hp hpt (col_all hmm hs) (by omega) (by omega) (by decide)
 rw[col_ev hmm,List.map_append,ev_app]at h
 rw[List.map_append]
 exact h
theorem ring_prod {p q:List TermR} {pt:List RatR} (hb:BdV 20 12 12 p) (hb':BdV 20 12 12 q) (hl:p.length≤12) (hl':q.length≤12) (hm:mayP p=true) (hm':mayP q=true) (hp:∀x∈pt,RatOk 3 x) (hpt:pt.length≤10)
  (hc:classP p≤pt.length) (hc':classP q≤pt.length):
  OkV ((ptimesF p q).1.map zR) pt∧atE ((ptimesF p q).1.map zR) pt=0∧atR ((ptimesF p q).1.map zR) pt=ratC (evZ (rhoR pt) (pz p)*evZ (rhoR pt) (pz q)):=by
 have c1:=canon_of hm
 have c2:=canon_of hm'
 have s1:∀t∈pz p,Sm pt.length 12 12 t.2:=fun t ht=>by
  obtain⟨u,hu,rfl⟩:=List.mem_map.1 ht
  exact⟨fun w hw=>(var_in hm hc hu hw).2.1,hb.e u hu,hb.m u hu⟩
 have s2:∀t∈pz q,Sm pt.length 12 12 t.2:=fun t ht=>by
  obtain⟨u,hu,rfl⟩:=List.mem_map.1 ht
  exact⟨fun w hw=>(var_in hm' hc' hu hw).2.1,hb'.e u hu,hb'.m u hu⟩
 have hB:prodB (pz p) (pz q)=true:=List.all_eq_true.2 fun x hx=>List.all_eq_true.2 fun y hy=>decide_eq_true (by
  rw[timesF_ofN (c1.may x hx) (c2.may y hy) fun v _ _=>by
   have:=deg_sm (v:=(v:Int)) (s1 x hx).e
   have:=deg_sm (v:=(v:Int)) (s2 y hy).e
   omega])
 have hmm:=prodQ_may c1 c2 hB
 have hz:∀t∈prodQ (pz p) (pz q),ZOk 40 t.1:=prodQ_bd (j:=20) (k:=20) (fun t ht=>by
  obtain⟨u,hu,rfl⟩:=List.mem_map.1 ht
  exact intR_zok (hb.c u hu)) fun t ht=>by
  obtain⟨u,hu,rfl⟩:=List.mem_map.1 ht
  exact intR_zok (hb'.c u hu)
 have hs:∀t∈prodQ (pz p) (pz q),Sm pt.length 24 24 t.2:=fun t ht=>by
  obtain⟨x,hx,hq⟩:=List.mem_flatMap.1 ht
  obtain⟨y,hy,rfl⟩:=List.mem_map.1 hq
  exact times_sm (c1.may x hx) (c2.may y hy) (s1 x hx) (s2 y hy)
 have hlen:=colZ_len (prodQ (pz p) (pz q))
 have hw:p.length*q.length≤12*12:=Nat.mul_le_mul hl hl'
 rw[prodQ_len,List.length_map,List.length_map]at hlen
 have hk:=col_canK hmm hz (by rw[prodQ_len,List.length_map,List.length_map];omega)
 have hn:=Nat.le_trans hlen hw
 have h:=sm_okV hk (by decide) hp hpt (col_all hmm hs) (Nat.le_trans hn (by decide)) (Nat.le_trans (Nat.add_le_add_left (Nat.mul_le_mul_right _ hn) 1) (by decide)) (by decide)
 rw[col_ev hmm,prod_ev c1.may c2.may hB]at h
 rw[show(ptimesF p q).1=colZ (prodQ (pz p) (pz q)) from by rw[ptimesF_z,tmZ,if_pos hB]]
 exact h
end Go.Proofs.YtamgilppehibeaaGreatDoor
namespace Go.Proofs.YtamgilppehibeaaGreatDoor
open Go.Ab
theorem cbRCmp:Callable Tryz.prog 32:=fun _ _=>by kernel_rfl
theorem ratCmp_c (x y:RatR) (h:RatOk 1000000 x) (k:RatOk 1000000 y) (ho:RatOk 10000000 (ratC (x.q-y.q))):PCalls Tryz.prog 32 [.agg (ratEs x),.agg (ratEs y)] (.int .i64 (signQ (x.q-y.q))):=by
 refine pcalls_of_awp tyok cbRCmp Tryz.func32 rfl rfl ?_
 have g1:=ratSub_c x y h k
 have g2:=ratSign_c (ratC (x.q-y.q)) ho
 rw[ratC_q]at g2
 ((repeat(first|refine wDB ?_|refine awp_seq_k fun K hK=>?_|refine wC g1 ?_|refine wC g2 ?_|(refine wH ?_;clear hK)));refine wN fun b2=>?_;(repeat(first|refine wDB ?_|refine awp_seq_k fun K hK=>?_|refine wC g1 ?_|refine wC g2 ?_|(refine wH ?_;clear hK)));refine wN fun b3=>?_;(repeat(first|refine wDB ?_|refine awp_seq_k fun K hK=>?_|refine wN fun bx=>?_|refine wC g1 ?_|refine wC g2 ?_|(refine wH ?_;clear hK))))
 refine r1 ?_
 exact Sub.refl _
theorem cbSame10:Callable Tryz.prog 28:=fun _ _=>by kernel_rfl
theorem same10_c (x:RatR) (h:RatOk 1000000 x):PCalls Tryz.prog 28 [.agg (ratEs x),.agg (ratEs x),.int .i64 0,.int .i64 0] (.bool true):=by
 refine pcalls_of_awp tyok cbSame10 Tryz.func28 rfl rfl ?_
 have e:x.q-x.q=0:=Rat.sub_self
 have g:=ratCmp_c x x h h (by rw[e];exact(ratC_ok1 (k:=1) qok_zero (by decide)).mono' (by decide))
 rw[e,show signQ 0=0 from rfl]at g
 ((repeat(first|refine wKB ?_|refine awp_seq_k fun K hK=>?_|(refine wH ?_;clear hK)));refine wN fun b4=>?_;(repeat(first|refine wKB ?_|refine awp_seq_k fun K hK=>?_|(refine wH ?_;clear hK)));refine wN fun b5=>?_;(repeat(first|refine wKB ?_|refine awp_seq_k fun K hK=>?_|refine wN fun bx=>?_|(refine wH ?_;clear hK))))
 repeat(first|refine wDE ?_|refine awp_seq_k fun K hK=>?_|refine wN fun bx=>?_|refine wC g ?_|(refine wH ?_;clear hK))
 refine r1 ?_
 exact Sub.refl _
theorem cbRing10:Callable Tryz.prog 6:=fun _ _=>by kernel_rfl
theorem valueRing_c (p q:List TermR) (pt:List RatR) (hr:RawP p) (hr':RawP q) (hql:(∀y∈pt,RawQ y)∧pt.length≤1000000000000000):PCalls Tryz.prog 6 [polyV p,polyV q,ratsV pt] (.bool true):=by
 refine pcalls_of_awp tyok cbRing10 Tryz.func6 rfl rfl ?_
 obtain⟨hq,hl⟩:=hql
 have gK:=known10_c
 have gG:=great10_c p pt hr hq hl
 have gG':=(great10_c q [] hr' (fun y hy=>absurd hy List.not_mem_nil) (Nat.zero_le _)).sub (vs:=[polyV q,.nils]) (.cons (Sub.refl _) (.cons (Sub.nilsv _ _) .nil))
 cases hg:great10 p pt with
 |true=>
  rw[hg]at gG
  repeat(first|refine wDE ?_|refine awp_seq_k fun K hK=>?_|refine wN fun bx=>?_|refine wC gG ?_|refine wC gK ?_|(refine wH ?_;clear hK))
  refine r1 ?_
  exact Sub.refl _
 |false=>
 rw[hg]at gG
 cases hg':great10 q []with
 |true=>
  rw[hg']at gG'
  repeat(first|refine wDE ?_|refine awp_seq_k fun K hK=>?_|refine wN fun bx=>?_|refine wC gG ?_|refine wC gG' ?_|refine wC gK ?_|(refine wH ?_;clear hK))
  refine r1 ?_
  exact Sub.refl _
 |false=>
 rw[hg']at gG'
 obtain⟨hb,hpl,hptl,hq3,ho,hv⟩:=great10_ok hr hq hg
 obtain⟨hb',hpl',-,-,ho',-⟩:=great10_ok hr' (fun y hy=>absurd hy List.not_mem_nil) hg'
 have hv':OkV q pt:=⟨ho',⟨20,12,12,2,hb',by decide,hq3,by omega,by decide,by decide⟩,by omega⟩
 obtain⟨gA,-⟩:=at_c hv
 obtain⟨gA',-⟩:=at_c hv'
 by_cases h1:atE p pt=0
 rotate_left
 ·((repeat(first|refine wKB ?_|refine awp_seq_k fun K hK=>?_|refine wC gG ?_|refine wC gG' ?_|refine wC gA ?_|refine wC gA' ?_|(refine wH ?_;clear hK)));refine wN fun b7=>?_;(repeat(first|refine wKB ?_|refine awp_seq_k fun K hK=>?_|refine wC gG ?_|refine wC gG' ?_|refine wC gA ?_|refine wC gA' ?_|(refine wH ?_;clear hK)));refine wN fun b9=>?_;(repeat(first|refine wKB ?_|refine awp_seq_k fun K hK=>?_|refine wN fun bx=>?_|refine wC gG ?_|refine wC gG' ?_|refine wC gA ?_|refine wC gA' ?_|(refine wH ?_;clear hK))))
  repeat(first|refine wDE ?_|refine awp_seq_k fun K hK=>?_|refine wN fun bx=>?_|refine wC gK ?_|(refine wH ?_;clear hK))
  refine r1 ?_
  exact Sub.refl _
 by_cases h2:atE q pt=0
 rotate_left
 ·rw[h1]at gA
  ((repeat(first|refine wKB ?_|refine awp_seq_k fun K hK=>?_|refine wC gG ?_|refine wC gG' ?_|refine wC gA ?_|refine wC gA' ?_|(refine wH ?_;clear hK)));refine wN fun b7=>?_;(repeat(first|refine wKB ?_|refine awp_seq_k fun K hK=>?_|refine wC gG ?_|refine wC gG' ?_|refine wC gA ?_|refine wC gA' ?_|(refine wH ?_;clear hK)));refine wN fun b9=>?_;(repeat(first|refine wKB ?_|refine awp_seq_k fun K hK=>?_|refine wN fun bx=>?_|refine wC gG ?_|refine wC gG' ?_|refine wC gA ?_|refine wC gA' ?_|(refine wH ?_;clear hK))))
  repeat(first|refine wDE ?_|refine awp_seq_k fun K hK=>?_|refine wN fun bx=>?_|refine wC gK ?_|(refine wH ?_;clear hK))
  refine r1 ?_
  exact Sub.refl _
 have ok:∀{l:List TermR},atE l pt=0→mayP l=true∧classP l≤pt.length:=fun {l} e=>by
  unfold atE at e
  cases hm:mayP l with
  |false=>rw[if_pos hm]at e;cases e
  |true=>
   rw[if_neg (by rw[hm];decide)]at e
   refine⟨rfl,?_⟩
   split at e
   ·cases e
   ·omega
 obtain⟨m1,c1⟩:=ok h1
 obtain⟨m2,c2⟩:=ok h2
 obtain⟨s1,s2,s3⟩:=ring_sum hb hb' hpl hpl' m1 m2 hq3 hptl c1 c2
 obtain⟨t1,t2,t3⟩:=ring_prod hb hb' hpl hpl' m1 m2 hq3 hptl c1 c2
 have e1:atR p pt=ratC (evZ (rhoR pt) (pz p)):=by unfold atR;rw[if_pos h1]
 have e2:atR q pt=ratC (evZ (rhoR pt) (pz q)):=by unfold atR;rw[if_pos h2]
 have k1:=qok_sum hb (rho_ok hq3) p.length (Nat.le_refl _)
 rw[List.take_length]at k1
 have k2:=qok_sum hb' (rho_ok hq3) q.length (Nat.le_refl _)
 rw[List.take_length]at k2
 have j1:QOk 10000 (evZ (rhoR pt) (pz p)):=k1.mono (by omega)
 have j2:QOk 10000 (evZ (rhoR pt) (pz q)):=k2.mono (by omega)
 rw[h1,e1]at gA
 rw[h2,e2]at gA'
 have pk:∀{l:List TermR},BdV 20 12 12 l→l.length≤12→PolyOk 20 l:=fun h hl=>⟨by omega,fun t ht=>⟨h.c t ht,by have:=h.m t ht;omega⟩⟩
 have gP:=padd_c p q 20 (by decide) (pk hb hpl) (pk hb' hpl') m1 m2
 have gT:=ptimes_c p q 20 (by decide) (pk hb hpl) (pk hb' hpl') m1 m2 (Nat.le_trans (Nat.mul_le_mul hpl hpl') (by decide))
 obtain⟨gS,-⟩:=at_c s1
 obtain⟨gM,-⟩:=at_c t1
 rw[s2,s3]at gS
 rw[t2,t3]at gM
 generalize evZ (rhoR pt) (pz p)=x at gA gS gM j1
 generalize evZ (rhoR pt) (pz q)=y at gA' gS gM j2
 have ra:=ratC_ok1 j1 (by decide)
 have rb:=ratC_ok1 j2 (by decide)
 have gD:=ratAdd_c (ratC x) (ratC y) ra rb
 have gE:=ratMul_c (ratC x) (ratC y) ra rb
 rw[ratC_q,ratC_q]at gD gE
 have z1:=same10_c (ratC (x+y)) (ratC_ok1 (j1.add j2) (by decide))
 have z2:=same10_c (ratC (x*y)) (ratC_ok1 (j1.mul j2) (by decide))
 generalize (ptimesF p q).1=tq at gT gM
 generalize (ptimesF p q).2=te at gT
 ((repeat(first|refine wKB ?_|refine awp_seq_k fun K hK=>?_|refine wC gG ?_|refine wC gG' ?_|refine wC gA ?_|refine wC gA' ?_|refine wC gP ?_|refine wC gT ?_|refine wC gS ?_|refine wC gM ?_|(refine wH ?_;clear hK)));refine wN fun b7=>?_;(repeat(first|refine wKB ?_|refine awp_seq_k fun K hK=>?_|refine wC gG ?_|refine wC gG' ?_|refine wC gA ?_|refine wC gA' ?_|refine wC gP ?_|refine wC gT ?_|refine wC gS ?_|refine wC gM ?_|(refine wH ?_;clear hK)));refine wN fun b9=>?_;(repeat(first|refine wKB ?_|refine awp_seq_k fun K hK=>?_|refine wC gG ?_|refine wC gG' ?_|refine wC gA ?_|refine wC gA' ?_|refine wC gP ?_|refine wC gT ?_|refine wC gS ?_|refine wC gM ?_|(refine wH ?_;clear hK)));refine wN fun b15=>?_;(repeat(first|refine wKB ?_|refine awp_seq_k fun K hK=>?_|refine wC gG ?_|refine wC gG' ?_|refine wC gA ?_|refine wC gA' ?_|refine wC gP ?_|refine wC gT ?_|refine wC gS ?_|refine wC gM ?_|(refine wH ?_;clear hK)));refine wN fun b17=>?_;(repeat(first|refine wKB ?_|refine awp_seq_k fun K hK=>?_|refine wN fun bx=>?_|refine wC gG ?_|refine wC gG' ?_|refine wC gA ?_|refine wC gA' ?_|refine wC gP ?_|refine wC gT ?_|refine wC gS ?_|refine wC gM ?_|(refine wH ?_;clear hK))))
 refine areg_soft mixed tyok [3,5,10,12,15] [] [0,1,2,3,4,5,6,7,8,9,10,11,12,13,14,15,16,17] (by decide +kernel) ?_
 repeat(first|refine wDE ?_|refine awp_seq_k fun K hK=>?_|refine wN fun bx=>?_|refine wC gD ?_|refine wC gE ?_|refine wC z1 ?_|refine wC z2 ?_|refine wC gK ?_|(refine wH ?_;clear hK))
 refine r1 ?_
 exact Sub.refl _
end Go.Proofs.YtamgilppehibeaaGreatDoor
