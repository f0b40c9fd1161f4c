/-
  The law of layer 10: what is great.
-/
import Derived.Test.YtamgilppehibeaaGreatDoorVlM
import Derived.Test.YtamgilppehibeaaGreatDoorRdA
import Derived.Test.YtamgilppehibeaaGreatDoorMoM
import Derived.Test.YtamgilppehibeaaGreatDoorVkM
set_option maxRecDepth 100000
set_option maxHeartbeats 6400000
namespace Go.Proofs.YtamgilppehibeaaGreatDoor
open Go.Ab
def bigE (t:TermR):Bool:=t.m.any fun w=>decide (12<w.2)
def bigQ (x:RatR):Bool:=decide (3<x.n.mag.length) || decide (3<x.d.mag.length)
def great10 (p:List TermR) (pt:List RatR):Bool:=greatP8 p 12 || decide (10<pt.length) || p.any bigE || pt.any bigQ
theorem cbGreat10:Callable Tryz.prog 18:=fun _ _=>by kernel_rfl
theorem great10_c (p:List TermR) (pt:List RatR) (hr:RawP p) (hq:∀y∈pt,RawQ y) (hl:pt.length≤1000000000000000):PCalls Tryz.prog 18 [polyV p,ratsV pt] (.bool (great10 p pt)):=by
 refine pcalls_of_awp tyok cbGreat10 Tryz.func18 rfl rfl ?_
 have hrl:=hr.len
 have g:=rpgreat_c p 12 (by omega)
 cases hg:greatP8 p 12 with
 |true=>
  rw[hg]at g
  have e:great10 p pt=true:=by unfold great10;rw[hg];rfl
  rw[e]
  repeat(first|refine wDB ?_|refine awp_seq_k fun K hK=>?_|refine wN fun bx=>?_|refine wC g ?_|(refine wH ?_;clear hK))
  refine r1 ?_
  exact Sub.refl _
 |false=>
 rw[hg]at g
 by_cases h10:10<pt.length
 ·have h10':(pt.length:Int)>10:=by omega
  have e:great10 p pt=true:=by unfold great10;rw[hg,decide_eq_true h10];rfl
  rw[e]
  repeat(first|refine wDB ?_|refine awp_seq_k fun K hK=>?_|refine wN fun bx=>?_|refine wC g ?_|(refine wH ?_;clear hK))
  refine r1 ?_
  exact Sub.refl _
 have h10':¬(pt.length:Int)>10:=by omega
 have e0:great10 p pt=(p.any bigE || pt.any bigQ):=by unfold great10;rw[hg,decide_eq_false h10];rfl
 rw[e0]
 clear e0
 repeat(first|refine wDB ?_|refine awp_seq_k fun K hK=>?_|refine wN fun bx=>?_|refine wC g ?_|(refine wH ?_;clear hK))
 refine awp_loop0 (ι:={i:Nat//i≤p.length∧∀j,j<i→bigE (p.getD j default)=false}) (fun i=>[(0,polyV p),(1,ratsV pt),(16,.int .i64 p.length),(17,.int .i64 i.1)]) (fun _=>[]) (fun i=>p.length-i.1) ⟨0,Nat.zero_le _,fun j hj=>absurd hj (Nat.not_lt_zero j)⟩ wk dp ?_
 rintro⟨i,hi,hs⟩
 simp only at hi hs ⊢
 by_cases hlt:i<p.length
 rotate_left
 ·have hge:¬(i:Int)<p.length:=by omega
  obtain rfl:i=p.length:=by omega
  have e1:(p.any bigE || pt.any bigQ)=pt.any bigQ:=by rw[any_false hs,Bool.false_or]
  repeat(first|refine wDB ?_|refine awp_seq_k fun K hK=>?_|refine wN fun bx=>?_|(refine wH ?_;clear hK))
  refine awp_loop0 (ι:={i:Nat//i≤pt.length∧∀j,j<i→bigQ (pt.getD j default)=false}) (fun i=>[(1,ratsV pt),(42,.int .i64 pt.length),(43,.int .i64 i.1)]) (fun _=>[]) (fun i=>pt.length-i.1) ⟨0,Nat.zero_le _,fun j hj=>absurd hj (Nat.not_lt_zero j)⟩ wk dp ?_
  rintro⟨j,hj,hs2⟩
  simp only at hj hs2 ⊢
  by_cases hjl:j<pt.length
  rotate_left
  ·have hge:¬(j:Int)<pt.length:=by omega
   obtain rfl:j=pt.length:=by omega
   repeat(first|refine wDB ?_|refine awp_seq_k fun K hK=>?_|refine wN fun bx=>?_|(refine wH ?_;clear hK))
   refine r1 ?_
   exact Sub.of_eq (congrArg AV.bool (by rw[e1,any_false hs2]))
  have hjl':(j:Int)<pt.length:=by omega
  have hrq:=hq _ (getD_mem hjl)
  have hnn:=hrq.nn
  have hdn:=hrq.dn
  have yes:bigQ (pt.getD j default)=true→Sub (AV.bool true) (AV.bool (p.any bigE || pt.any bigQ)):=fun h=>Sub.of_eq (congrArg AV.bool (by rw[e1,any_hit hjl h]))
  by_cases h1:3<(pt.getD j default).n.mag.length
  ·have h1':((pt.getD j default).n.mag.length:Int)>3:=by omega
   have e:=yes (by unfold bigQ;rw[decide_eq_true h1];rfl)
   repeat(first|refine wDB ?_|refine awp_seq_k fun K hK=>?_|refine wN fun bx=>?_|(refine wH ?_;clear hK))
   refine r1 ?_
   exact e
  have h1':¬((pt.getD j default).n.mag.length:Int)>3:=by omega
  by_cases h2:3<(pt.getD j default).d.mag.length
  ·have h2':((pt.getD j default).d.mag.length:Int)>3:=by omega
   have e:=yes (by unfold bigQ;rw[decide_eq_true h2,Bool.or_true])
   repeat(first|refine wDB ?_|refine awp_seq_k fun K hK=>?_|refine wN fun bx=>?_|(refine wH ?_;clear hK))
   refine r1 ?_
   exact e
  have h2':¬((pt.getD j default).d.mag.length:Int)>3:=by omega
  have hno:bigQ (pt.getD j default)=false:=by unfold bigQ;rw[decide_eq_false h1,decide_eq_false h2];rfl
  repeat(first|refine wDB ?_|refine awp_seq_k fun K hK=>?_|refine wN fun bx=>?_|(refine wH ?_;clear hK))
  refine⟨⟨j+1,hjl,fun q hq=>?_⟩,wk,dp,by simp only;omega⟩
  by_cases e:q=j
  ·rw[e];exact hno
  ·exact hs2 q (by omega)
 have hlt':(i:Int)<p.length:=by omega
 have hrt:=hr.at' _ (getD_mem hlt)
 have htm:=hrt.m
 have yes:bigE (p.getD i default)=true→Sub (AV.bool true) (AV.bool (p.any bigE || pt.any bigQ)):=fun h=>Sub.of_eq (congrArg AV.bool (by rw[any_hit hlt h];rfl))
 repeat(first|refine wDB ?_|refine awp_seq_k fun K hK=>?_|refine wN fun bx=>?_|(refine wH ?_;clear hK))
 refine awp_loop0 (ι:={k:Nat//k≤(p.getD i default).m.length∧∀q,q<k→decide (12<((p.getD i default).m.getD q default).2)=false}) (fun k=>[(0,polyV p),(1,ratsV pt),(5,.int .i64 i),(16,.int .i64 p.length),(17,.int .i64 i),(25,.int .i64 (p.getD i default).m.length),(26,.int .i64 k.1)]) (fun _=>[]) (fun k=>(p.getD i default).m.length-k.1) ⟨0,Nat.zero_le _,fun j hj=>absurd hj (Nat.not_lt_zero j)⟩ wk dp ?_
 rintro⟨k,hk,hsk⟩
 simp only at hk hsk ⊢
 by_cases hkl:k<(p.getD i default).m.length
 rotate_left
 ·have hge:¬(k:Int)<(p.getD i default).m.length:=by omega
  obtain rfl:k=(p.getD i default).m.length:=by omega
  have hb:bigE (p.getD i default)=false:=any_false hsk
  repeat(first|refine wDB ?_|refine awp_seq_k fun K hK=>?_|refine wN fun bx=>?_|(refine wH ?_;clear hK))
  refine⟨⟨i+1,hlt,fun q hq=>?_⟩,wk,dp,by simp only;omega⟩
  by_cases e:q=i
  ·rw[e];exact hb
  ·exact hs q (by omega)
 have hkl':(k:Int)<(p.getD i default).m.length:=by omega
 have hkl2:(k:Int)<(p.getD ((i:Int)).toNat default).m.length:=hkl'
 have hx:((p.getD ((i:Int)).toNat default).m.getD ((k:Int)).toNat default).2=((p.getD i default).m.getD k default).2:=rfl
 by_cases h3:12<((p.getD i default).m.getD k default).2
 ·have h3':((p.getD i default).m.getD k default).2>12:=by omega
  have e:=yes (any_hit (f:=fun w:Pw=>decide (12<w.2)) hkl (decide_eq_true h3))
  repeat(first|refine wDB ?_|refine awp_seq_k fun K hK=>?_|refine wN fun bx=>?_|(refine wH ?_;clear hK))
  refine r1 ?_
  exact e
 have h3':¬((p.getD i default).m.getD k default).2>12:=by omega
 repeat(first|refine wDB ?_|refine awp_seq_k fun K hK=>?_|refine wN fun bx=>?_|(refine wH ?_;clear hK))
 refine⟨⟨k+1,hkl,fun q hq=>?_⟩,wk,dp,by simp only;omega⟩
 by_cases e:q=k
 ·rw[e];exact decide_eq_false h3
 ·exact hsk q (by omega)
theorem great10_ok {p:List TermR} {pt:List RatR} (hr:RawP p) (hq:∀y∈pt,RawQ y) (h:great10 p pt=false):BdV 20 12 12 p∧p.length≤12∧pt.length≤10∧(∀y∈pt,RatOk 3 y)∧PolyOk 1000000 p∧OkV p pt:=by
 unfold great10 at h
 simp only[Bool.or_eq_false_iff,decide_eq_false_iff_not]at h
 obtain⟨⟨⟨h1,h2⟩,h3⟩,h4⟩:=h
 unfold greatP8 at h1
 rw[Bool.or_eq_false_iff,decide_eq_false_iff_not]at h1
 obtain⟨h1a,h1b⟩:=h1
 have hp:∀t∈p,t.c.mag.length≤20∧t.m.length≤12:=fun t ht=>by
  have h5:=List.any_eq_false.1 h1a t ht
  unfold bigT8 at h5
  simp only[Bool.or_eq_true,not_or,decide_eq_true_eq]at h5
  omega
 have he:∀t∈p,∀w∈t.m,w.2≤((12:Nat):Int):=fun t ht w hw=>by
  have h5:=List.any_eq_false.1 (Bool.eq_false_iff.2 (List.any_eq_false.1 h3 t ht)) w hw
  simp only[decide_eq_true_eq]at h5
  omega
 have hq3:∀y∈pt,RatOk 3 y:=fun y hy=>by
  have h5:=List.any_eq_false.1 h4 y hy
  unfold bigQ at h5
  simp only[Bool.or_eq_true,not_or,decide_eq_true_eq]at h5
  exact⟨⟨(hq y hy).nl,by omega⟩,⟨(hq y hy).dl,by omega⟩⟩
 have hb:BdV 20 12 12 p:=⟨fun t ht=>⟨(hr.at' t ht).lt,(hp t ht).1⟩,fun t ht=>(hp t ht).2,he⟩
 have ho:PolyOk 1000000 p:=⟨by omega,fun t ht=>⟨⟨(hr.at' t ht).lt,by have:=(hp t ht).1;omega⟩,by have:=(hp t ht).2;omega⟩⟩
 refine⟨hb,by omega,by omega,hq3,ho,⟨ho,⟨20,12,12,2,hb,by decide,hq3,?_,by decide,by decide⟩,by omega⟩⟩
 omega
end Go.Proofs.YtamgilppehibeaaGreatDoor
namespace Go.Proofs.YtamgilppehibeaaGreatDoor
open Go.Ab
structure Sm (n E M:Nat) (m:List Pw):Prop where
 v:∀w∈m,w.1≤(n:Int)
 e:∀w∈m,w.2≤(E:Int)
 l:m.length≤M
theorem Sm.mono {n E F M K:Nat} {m:List Pw} (h:Sm n E M m) (h1:E≤F) (h2:M≤K):Sm n F K m:=⟨h.v,fun w hw=>by have:=h.e w hw;omega,by have:=h.l;omega⟩
theorem col_all {l:PZ} (hm:∀t∈l,may t.2=true) {Q:List Pw→Prop} (h:∀t∈l,Q t.2):∀t∈colZ l,Q t.2:=fun t ht=>by
 obtain⟨h1,h2⟩:=colZ_law hm
 obtain⟨u,hu,e⟩:=coef_mem (p:=l) (m:=t.2) (by rw[←h2,h1.at' t ht];exact h1.nz t ht)
 exact e▸h u hu
theorem deg_sm {E:Nat} {v:Int}:∀{m:List Pw},(∀w∈m,w.2≤(E:Int))→degF v m≤E
 |[],_=>by show(0:Int)≤E;omega
 |p::m,h=>by
  unfold degF
  split
  ·exact h p (List.mem_cons_self ..)
  ·exact deg_sm fun w hw=>h w (List.mem_cons_of_mem _ hw)
theorem times_sm {n E F M K:Nat} {a b:List Pw} (ha:may a=true) (hb:may b=true) (h1:Sm n E M a) (h2:Sm n F K b):Sm n (E+F) (M+K) (timesF a b).1:=by
 have e0:(timesF a b).1=madeF gAdd (zipM a b)∨(timesF a b).1=[]:=by
  rw[timesF,ha,hb]
  cases may (madeF gAdd (zipM a b))
  ·exact .inr rfl
  ·exact .inl rfl
 rcases e0 with e|e
 ·rw[e]
  have hl:=madeF_len gAdd a b
  have l1:=h1.l
  have l2:=h2.l
  refine⟨fun w hw=>?_,fun w hw=>?_,by omega⟩
  ·obtain⟨t,ht,rfl,h0⟩:=made_mem hw
   obtain⟨d1,d2⟩:=zip_deg a b (may_srt ha).1 (may_srt hb).1 t ht
   have h0':0<t.2.1+t.2.2:=h0
   by_cases hz:degF t.1 a=0
   ·obtain⟨p,hp,e⟩:=deg_mem (v:=t.1) (m:=b) (by omega)
    have:=h2.v p hp
    simp only
    omega
   ·obtain⟨p,hp,e⟩:=deg_mem (v:=t.1) (m:=a) hz
    have:=h1.v p hp
    simp only
    omega
  ·obtain⟨t,ht,rfl,h0⟩:=made_mem hw
   obtain⟨d1,d2⟩:=zip_deg a b (may_srt ha).1 (may_srt hb).1 t ht
   have:=deg_sm (v:=t.1) h1.e
   have:=deg_sm (v:=t.1) h2.e
   show t.2.1+t.2.2≤_
   omega
 ·rw[e]
  exact⟨fun w hw=>absurd hw List.not_mem_nil,fun w hw=>absurd hw List.not_mem_nil,Nat.zero_le _⟩
end Go.Proofs.YtamgilppehibeaaGreatDoor
namespace Go.Proofs.YtamgilppehibeaaGreatDoor
open Go.Ab
theorem cbRCmp:Callable Tryz.prog 32:=fun _ _=>by kernel_rfl
theorem ratCmp_c (x y:RatR) (h:RatOk 1000000 x) (k:RatOk 1000000 y) (ho:RatOk 10000000 (ratC (x.q-y.q))):PCalls Tryz.prog 32 [.agg (ratEs x),.agg (ratEs y)] (.int .i64 (signQ (x.q-y.q))):=by
 refine pcalls_of_awp tyok cbRCmp Tryz.func32 rfl rfl ?_
 have g1:=ratSub_c x y h k
 have g2:=ratSign_c (ratC (x.q-y.q)) ho
 rw[ratC_q]at g2
 ((repeat(first|refine wDB ?_|refine awp_seq_k fun K hK=>?_|refine wC g1 ?_|refine wC g2 ?_|(refine wH ?_;clear hK)));refine wN fun b2=>?_;(repeat(first|refine wDB ?_|refine awp_seq_k fun K hK=>?_|refine wC g1 ?_|refine wC g2 ?_|(refine wH ?_;clear hK)));refine wN fun b3=>?_;(repeat(first|refine wDB ?_|refine awp_seq_k fun K hK=>?_|refine wN fun bx=>?_|refine wC g1 ?_|refine wC g2 ?_|(refine wH ?_;clear hK))))
 refine r1 ?_
 exact Sub.refl _
end Go.Proofs.YtamgilppehibeaaGreatDoor
