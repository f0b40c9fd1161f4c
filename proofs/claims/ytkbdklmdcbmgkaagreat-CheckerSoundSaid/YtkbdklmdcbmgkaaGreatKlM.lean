/-
  The law of layer 31: what is great.
-/
import Derived.Test.YtkbdklmdcbmgkaaGreatKcB
set_option maxRecDepth 100000
set_option maxHeartbeats 25600000
namespace Go.Proofs.YtkbdklmdcbmgkaaGreat
open Go.Ab
def bigT4 (t:TermR):Bool:=decide (4<t.c.mag.length) || decide (6<t.m.length) || t.m.any fun p=>decide (12<p.2)
def greatF (most:Int) (ps:List (List TermR)):Bool:=ps.any fun p=>greatP8 p most || p.any bigT4
structure RawT (t:TermR):Prop where
 lt:∀z∈t.c.mag,z<B32
 len:t.c.mag.length≤1000000000000000
 m:t.m.length≤1000000000000000
structure RawP (p:List TermR):Prop where
 len:p.length≤10000000000000
 at':∀t∈p,RawT t
theorem any_false {α:Type} [Inhabited α] {l:List α} {f:α→Bool} (h:∀j,j<l.length→f (l.getD j default)=false):l.any f=false:=by
 rw[List.any_eq_false]
 intro x hx
 obtain⟨j,hj,e⟩:=List.getElem_of_mem hx
 have:=h j hj
 rw[getD_get hj,e]at this
 rw[this]
 decide
theorem any_hit {α:Type} [Inhabited α] {l:List α} {f:α→Bool} {i:Nat} (hi:i<l.length) (h:f (l.getD i default)=true):l.any f=true:=List.any_eq_true.2 ⟨_,getD_mem hi,h⟩
theorem great_pol {most:Nat} {ps:List (List TermR)} (h:greatF most ps=false) (hr:∀p∈ps,RawP p) (hm:most≤40):∀p∈ps,PolR 4 40 p:=fun p hp=>by
 have h1:=List.any_eq_false.1 h p hp
 simp only[Bool.or_eq_true,not_or,Bool.not_eq_true]at h1
 obtain⟨h2,h3⟩:=h1
 unfold greatP8 at h2
 rw[Bool.or_eq_false_iff,decide_eq_false_iff_not]at h2
 have hlen:p.length≤40:=by omega
 refine⟨⟨by omega,fun t ht=>?_⟩,hlen⟩
 have h4:=List.any_eq_false.1 h3 t ht
 unfold bigT4 at h4
 simp only[Bool.or_eq_true,not_or,decide_eq_true_eq]at h4
 exact⟨⟨((hr p hp).at' t ht).lt,by omega⟩,by omega⟩
structure Low (p:List TermR):Prop where
 len:p.length≤12
 at':∀t∈p,t.m.length≤6∧∀w∈t.m,w.2≤12
theorem great_low {ps:List (List TermR)} (h:greatF 12 ps=false):∀p∈ps,Low p:=fun p hp=>by
 have h1:=List.any_eq_false.1 h p hp
 simp only[Bool.or_eq_true,not_or,Bool.not_eq_true]at h1
 obtain⟨h2,h3⟩:=h1
 unfold greatP8 at h2
 rw[Bool.or_eq_false_iff,decide_eq_false_iff_not]at h2
 refine⟨by omega,fun t ht=>?_⟩
 have h4:=List.any_eq_false.1 h3 t ht
 unfold bigT4 at h4
 simp only[Bool.or_eq_true,not_or,decide_eq_true_eq]at h4
 refine⟨by omega,fun w hw=>?_⟩
 have h5:=List.any_eq_false.1 (Bool.eq_false_iff.2 h4.2) w hw
 simp only[decide_eq_true_eq]at h5
 omega
theorem cbGreat31:Callable Tryz.prog 10:=fun _ _=>by kernel_rfl
theorem great31_c (most:Int) (ps:List (List TermR)) (hl:ps.length≤5864062014635) (hr:∀p∈ps,RawP p):PCalls Tryz.prog 10 [.int .i64 most,polysV ps] (.bool (greatF most ps)):=by
 refine pcalls_of_awp tyok cbGreat31 Tryz.func10 rfl rfl ?_
 unfold polysV polyE
 repeat(first|refine wDB ?_|refine awp_seq_k fun K hK=>?_|refine wN fun bx=>?_|(refine wH ?_;clear hK))
 refine awp_loop0 (ι:={i:Nat//i≤ps.length∧∀j,j<i→(greatP8 (ps.getD j default) most || (ps.getD j default).any bigT4)=false}) (fun i=>[(0,.int .i64 most),(9,sl (fun p:List TermR=>[polyV p]) 1 ps .view),(10,.int .i64 ps.length),(11,.int .i64 i.1)]) (fun _=>[]) (fun i=>ps.length-i.1) ⟨0,Nat.zero_le _,fun j hj=>absurd hj (Nat.not_lt_zero j)⟩ wk dp ?_
 rintro⟨i,hi,hs⟩
 simp only at hi hs ⊢
 by_cases hlt:i<ps.length
 rotate_left
 ·have hge:¬(i:Int)<ps.length:=by omega
  obtain rfl:i=ps.length:=by omega
  repeat(first|refine wDB ?_|refine awp_seq_k fun K hK=>?_|refine wN fun bx=>?_|(refine wH ?_;clear hK))
  refine r1 ?_
  exact Sub.of_eq (congrArg AV.bool (any_false hs).symm)
 have hlt':(i:Int)<ps.length:=by omega
 have hrp:=hr _ (getD_mem hlt)
 have hrl:=hrp.len
 have yes:(greatP8 (ps.getD i default) most || (ps.getD i default).any bigT4)=true→Sub (AV.bool true) (AV.bool (greatF most ps)):=fun h=>Sub.of_eq (congrArg AV.bool (any_hit (f:=fun p=>greatP8 p most || p.any bigT4) hlt h).symm)
 have g:=rpgreat_c (ps.getD i default) most (by omega)
 cases hg:greatP8 (ps.getD i default) most with
 |true=>
  rw[hg]at g
  repeat(first|refine wDB ?_|refine awp_seq_k fun K hK=>?_|refine wN fun bx=>?_|refine wC g ?_|(refine wH ?_;clear hK))
  refine r1 ?_
  exact yes (by rw[hg];rfl)
 |false=>
 rw[hg]at g
 rw[hg,Bool.false_or]at yes
 have hnext:(ps.getD i default).any bigT4=false→∀j,j<i+1→(greatP8 (ps.getD j default) most || (ps.getD j default).any bigT4)=false:=fun h j hj=>by
  by_cases e:j=i
  ·rw[e,hg,h];rfl
  ·exact hs j (by omega)
 repeat(first|refine wDB ?_|refine awp_seq_k fun K hK=>?_|refine wN fun bx=>?_|refine wC g ?_|(refine wH ?_;clear hK))
 refine awp_loop0 (ι:={j:Nat//j≤(ps.getD i default).length∧∀q,q<j→bigT4 ((ps.getD i default).getD q default)=false}) (fun j=>[(0,.int .i64 most),(6,polyV (ps.getD i default)),(9,sl (fun p:List TermR=>[polyV p]) 1 ps .view),(10,.int .i64 ps.length),(11,.int .i64 i),(19,.int .i64 (ps.getD i default).length),(20,.int .i64 j.1)]) (fun _=>[]) (fun j=>(ps.getD i default).length-j.1) ⟨0,Nat.zero_le _,fun j hj=>absurd hj (Nat.not_lt_zero j)⟩ wk dp ?_
 rintro⟨j,hj,hsj⟩
 simp only at hj hsj ⊢
 by_cases hjl:j<(ps.getD i default).length
 rotate_left
 ·have hge:¬(j:Int)<(ps.getD i default).length:=by omega
  obtain rfl:j=(ps.getD i default).length:=by omega
  have hn:=hnext (any_false hsj)
  repeat(first|refine wDB ?_|refine awp_seq_k fun K hK=>?_|refine wN fun bx=>?_|(refine wH ?_;clear hK))
  exact⟨⟨i+1,hlt,hn⟩,wk,dp,by simp only;omega⟩
 have hjl':(j:Int)<(ps.getD i default).length:=by omega
 have hrt:=hrp.at' _ (getD_mem hjl)
 have htl:=hrt.len
 have htm:=hrt.m
 have yes2:bigT4 ((ps.getD i default).getD j default)=true→Sub (AV.bool true) (AV.bool (greatF most ps)):=fun h=>yes (any_hit hjl h)
 by_cases h1:4<((ps.getD i default).getD j default).c.mag.length
 ·have h1':(((ps.getD i default).getD j default).c.mag.length:Int)>4:=by omega
  have e:=yes2 (by unfold bigT4;rw[decide_eq_true h1];rfl)
  repeat(first|refine wDB ?_|refine awp_seq_k fun K hK=>?_|refine wN fun bx=>?_|(refine wH ?_;clear hK))
  refine r1 ?_
  exact e
 have h1':¬(((ps.getD i default).getD j default).c.mag.length:Int)>4:=by omega
 by_cases h2:6<((ps.getD i default).getD j default).m.length
 ·have h2':(((ps.getD i default).getD j default).m.length:Int)>6:=by omega
  have e:=yes2 (by unfold bigT4;rw[decide_eq_true h2,Bool.or_true];rfl)
  repeat(first|refine wDB ?_|refine awp_seq_k fun K hK=>?_|refine wN fun bx=>?_|(refine wH ?_;clear hK))
  refine r1 ?_
  exact e
 have h2':¬(((ps.getD i default).getD j default).m.length:Int)>6:=by omega
 have ebt:bigT4 ((ps.getD i default).getD j default)=((ps.getD i default).getD j default).m.any fun p=>decide (12<p.2):=by
  unfold bigT4
  rw[decide_eq_false h1,decide_eq_false h2]
  rfl
 repeat(first|refine wDB ?_|refine awp_seq_k fun K hK=>?_|refine wN fun bx=>?_|(refine wH ?_;clear hK))
 refine awp_loop0 (ι:={k:Nat//k≤((ps.getD i default).getD j default).m.length∧∀q,q<k→decide (12<(((ps.getD i default).getD j default).m.getD q default).2)=false}) (fun k=>[(0,.int .i64 most),(6,polyV (ps.getD i default)),(7,.int .i64 j),(9,sl (fun p:List TermR=>[polyV p]) 1 ps .view),(10,.int .i64 ps.length),(11,.int .i64 i),(19,.int .i64 (ps.getD i default).length),(20,.int .i64 j),(45,.int .i64 ((ps.getD i default).getD j default).m.length),(46,.int .i64 k.1)]) (fun _=>[]) (fun k=>((ps.getD i default).getD j default).m.length-k.1) ⟨0,Nat.zero_le _,fun j hj=>absurd hj (Nat.not_lt_zero j)⟩ wk dp ?_
 rintro⟨k,hk,hsk⟩
 simp only at hk hsk ⊢
 by_cases hkl:k<((ps.getD i default).getD j default).m.length
 rotate_left
 ·have hge:¬(k:Int)<((ps.getD i default).getD j default).m.length:=by omega
  obtain rfl:k=((ps.getD i default).getD j default).m.length:=by omega
  have hb:bigT4 ((ps.getD i default).getD j default)=false:=by
   rw[ebt]
   exact any_false hsk
  repeat(first|refine wDB ?_|refine awp_seq_k fun K hK=>?_|refine wN fun bx=>?_|(refine wH ?_;clear hK))
  refine⟨⟨j+1,hjl,fun q hq=>?_⟩,wk,dp,by simp only;omega⟩
  by_cases e:q=j
  ·rw[e];exact hb
  ·exact hsj q (by omega)
 have hkl':(k:Int)<((ps.getD i default).getD j default).m.length:=by omega
 have hkl2:(k:Int)<((ps.getD i default).getD ((j:Int)).toNat default).m.length:=hkl'
 have hx:(((ps.getD i default).getD ((j:Int)).toNat default).m.getD ((k:Int)).toNat default).2=(((ps.getD i default).getD j default).m.getD k default).2:=rfl
 by_cases h3:12<(((ps.getD i default).getD j default).m.getD k default).2
 ·have h3':(((ps.getD i default).getD j default).m.getD k default).2>12:=by omega
  have e:=yes2 (by rw[ebt];exact any_hit (f:=fun p:Pw=>decide (12<p.2)) hkl (decide_eq_true h3))
  repeat(first|refine wDB ?_|refine awp_seq_k fun K hK=>?_|refine wN fun bx=>?_|(refine wH ?_;clear hK))
  refine r1 ?_
  exact e
 have h3':¬(((ps.getD i default).getD j default).m.getD k default).2>12:=by omega
 repeat(first|refine wDB ?_|refine awp_seq_k fun K hK=>?_|refine wN fun bx=>?_|(refine wH ?_;clear hK))
 refine⟨⟨k+1,hkl,fun q hq=>?_⟩,wk,dp,by simp only;omega⟩
 by_cases e:q=k
 ·rw[e];exact decide_eq_false h3
 ·exact hsk q (by omega)
end Go.Proofs.YtkbdklmdcbmgkaaGreat
namespace Go.Proofs.YtkbdklmdcbmgkaaGreat
open Go.Ab
structure RawD (d:DerR):Prop where
 lt:∀z∈d.n.mag,z<B32
 nl:d.n.mag.length≤1000000000000000
 p:RawP d.p
 by':∀p∈d.by',RawP p
 len:d.by'.length≤5864062014634
structure RawV (d:DivR):Prop where
 cof:∀p∈d.cof,RawP p
 len:d.cof.length≤5864062014634
 rest:RawP d.rest
 pw:d.pw.length≤1000000000000000
structure RawN (n:NodeR):Prop where
 set:∀d∈n.set,RawD d
 setl:n.set.length≤1000000000000000
 divs:∀d∈n.divs,RawV d
 divl:n.divs.length≤1000000000000000
 heads:∀h∈n.heads,RawP h.p
 headl:n.heads.length≤1000000000000000
structure RawS (x:SysR) (conds:List (List TermR)) (proof:List NodeR):Prop where
 hypos:∀h∈x.hypos,RawP h.1
 hypol:x.hypos.length≤1000000000000000
 shown:∀p∈x.shown,RawP p
 shownl:x.shown.length≤5864062014634
 cnd:∀p∈conds,RawP p
 condl:conds.length≤5864062014634
 nodes:∀n∈proof,RawN n
 nodel:proof.length≤1000000000000000
theorem poly1_sub (p:List TermR):Sub (.slice 1 1 (chunk [polyV p] 1) .full) (polysV [p]):=
 (Sub.view _ _ _ _).trans (Sub.els fun i hi=>by
   have e:i=0:=by omega
   subst e
   exact SubL.refl _)
theorem great1_c (most:Int) (p:List TermR) (h:RawP p):PCalls Tryz.prog 10 [.int .i64 most,.slice 1 1 (chunk [polyV p] 1) .full] (.bool (greatF most [p])):=
 (great31_c most [p] (by simp) (fun q hq=>by rw[List.mem_singleton.1 hq];exact h)).sub (.cons (Sub.refl _) (.cons (poly1_sub p) .nil))
theorem great2_c (most:Int) (p:List TermR) (ps:List (List TermR)) (h:RawP p) (hs:∀q∈ps,RawP q) (hl:ps.length≤5864062014634) (a:Option Addr) (c:Nat):PCalls Tryz.prog 10 [.int .i64 most,sl polyE 1 ([p]++ps) (.own a c)] (.bool (greatF most (p::ps))):=
 (great31_c most (p::ps) (by rw[List.length_cons];omega) (fun q hq=>by
   rcases List.mem_cons.1 hq with rfl|hq
   ·exact h
   ·exact hs q hq)).sub (.cons (Sub.refl _) (.cons (Sub.view _ _ _ _) .nil))
structure LowS (x:SysR) (conds:List (List TermR)):Prop where
 hypos:∀h∈x.hypos,Low h.1
 shown:∀p∈x.shown,Low p
 cnd:∀p∈conds,Low p
theorem cbBig31:Callable Tryz.prog 5:=fun _ _=>by kernel_rfl
theorem big31_c (x:SysR) (conds:List (List TermR)) (proof:List NodeR) (hr:RawS x conds proof):
  ACalls Tryz.prog 5 [.agg (sysE x),polysV conds,nodesV proof] [] fun r H'=>∃b:{b:Bool//b=false→SysB x conds proof∧LowS x conds},r=.ret (.bool b.1)∧H'=[]:=by
 refine acalls_of_awp tyok cbBig31 Tryz.func5 rfl rfl ?_
 have hhl:=hr.hypol
 have hsl:=hr.shownl
 have hcl:=hr.condl
 have hnl:=hr.nodel
 ((repeat(first|refine wDB ?_|refine awp_seq_k fun K hK=>?_|(refine wH ?_;clear hK)));refine wN fun b3=>?_)
 (((repeat(first|refine wT ?_|refine wN fun bx=>?_)));(try refine wP ?_);repeat(refine wH ?_;clear hK))
 refine awp_freeze [] (s:=3) rfl rfl ?_
 repeat(first|refine wDB ?_|refine awp_seq_k fun K hK=>?_|refine wN fun bx=>?_|(refine wH ?_;clear hK))
 refine awp_loop0 (ι:={i:Nat//i≤x.hypos.length∧∀j,j<i→PolR 4 40 (x.hypos.getD j default).1∧Low (x.hypos.getD j default).1}) (fun i=>[(1,polysV conds),(2,nodesV proof),(3,.rptr (sysE x)),(20,sl hypE 2 x.hypos .view),(21,.int .i64 x.hypos.length),(22,.int .i64 i.1)]) (fun _=>[]) (fun i=>x.hypos.length-i.1) ⟨0,Nat.zero_le _,fun j hj=>absurd hj (Nat.not_lt_zero j)⟩ wk dp ?_
 rintro⟨i,hi,hok⟩
 simp only at hi hok ⊢
 by_cases hlt:i<x.hypos.length
 ·have hlt':(i:Int)<x.hypos.length:=by omega
  have hrp:=hr.hypos _ (getD_mem hlt)
  have g:=great1_c 12 (x.hypos.getD i default).1 hrp
  cases hg:greatF 12 [(x.hypos.getD i default).1]with
  |true=>
   rw[hg]at g
   ((repeat(first|refine wDB ?_|refine awp_seq_k fun K hK=>?_|refine wC g ?_|(refine wH ?_;clear hK)));refine wN fun b8=>?_;(repeat(first|refine wDB ?_|refine awp_seq_k fun K hK=>?_|refine wN fun bx=>?_|refine wC g ?_|(refine wH ?_;clear hK))))
   exact fnQ_ret 1 rfl (.tmp rfl .nil) (Sub.refl _) ⟨⟨true,fun h=>by cases h⟩,rfl,rfl⟩
  |false=>
   rw[hg]at g
   have hpol:=great_pol (most:=12) hg (fun p hp=>by rw[List.mem_singleton.1 hp];exact hrp) (by decide) _ (List.mem_singleton.2 rfl)
   have hlow:=great_low hg _ (List.mem_singleton.2 rfl)
   ((repeat(first|refine wDB ?_|refine awp_seq_k fun K hK=>?_|refine wC g ?_|(refine wH ?_;clear hK)));refine wN fun b8=>?_;(repeat(first|refine wDB ?_|refine awp_seq_k fun K hK=>?_|refine wN fun bx=>?_|refine wC g ?_|(refine wH ?_;clear hK))))
   refine⟨⟨i+1,hlt,fun j hj=>?_⟩,wk,dp,by simp only;omega⟩
   by_cases e:j=i
   ·rw[e];exact⟨hpol,hlow⟩
   ·exact hok j (by omega)
 have hge:¬(i:Int)<x.hypos.length:=by omega
 obtain rfl:i=x.hypos.length:=by omega
 have hypos:∀h∈x.hypos,PolR 4 40 h.1∧Low h.1:=fun h hh=>by
  obtain⟨j,hj,e⟩:=List.getElem_of_mem hh
  have:=hok j hj
  rw[getD_get hj,e]at this
  exact this
 have g1:=great31_c 12 x.shown (by omega) hr.shown
 have g2:=great31_c 12 conds (by omega) hr.cnd
 cases hg1:greatF 12 x.shown with
 |true=>
  rw[hg1]at g1
  repeat(first|refine wDB ?_|refine awp_seq_k fun K hK=>?_|refine wN fun bx=>?_|refine wC g1 ?_|(refine wH ?_;clear hK))
  exact fnQ_ret 0 rfl (.tmp rfl .nil) (Sub.refl _) ⟨⟨true,fun h=>by cases h⟩,rfl,rfl⟩
 |false=>
 rw[hg1]at g1
 have shown:=great_pol (most:=12) hg1 hr.shown (by decide)
 cases hg2:greatF 12 conds with
 |true=>
  rw[hg2]at g2
  repeat(first|refine wDB ?_|refine awp_seq_k fun K hK=>?_|refine wN fun bx=>?_|refine wC g1 ?_|refine wC g2 ?_|(refine wH ?_;clear hK))
  exact fnQ_ret 0 rfl (.tmp rfl .nil) (Sub.refl _) ⟨⟨true,fun h=>by cases h⟩,rfl,rfl⟩
 |false=>
 rw[hg2]at g2
 have cnd:=great_pol (most:=12) hg2 hr.cnd (by decide)
 by_cases l1:(x.hypos.length:Int)>6
 ·repeat(first|refine wDB ?_|refine awp_seq_k fun K hK=>?_|refine wN fun bx=>?_|refine wC g1 ?_|refine wC g2 ?_|(refine wH ?_;clear hK))
  exact fnQ_ret 0 rfl (.tmp rfl .nil) (Sub.refl _) ⟨⟨true,fun h=>by cases h⟩,rfl,rfl⟩
 by_cases l2:(x.shown.length:Int)>3
 ·repeat(first|refine wDB ?_|refine awp_seq_k fun K hK=>?_|refine wN fun bx=>?_|refine wC g1 ?_|refine wC g2 ?_|(refine wH ?_;clear hK))
  exact fnQ_ret 0 rfl (.tmp rfl .nil) (Sub.refl _) ⟨⟨true,fun h=>by cases h⟩,rfl,rfl⟩
 by_cases l3:(conds.length:Int)>6
 ·repeat(first|refine wDB ?_|refine awp_seq_k fun K hK=>?_|refine wN fun bx=>?_|refine wC g1 ?_|refine wC g2 ?_|(refine wH ?_;clear hK))
  exact fnQ_ret 0 rfl (.tmp rfl .nil) (Sub.refl _) ⟨⟨true,fun h=>by cases h⟩,rfl,rfl⟩
 by_cases l4:(proof.length:Int)>5
 ·repeat(first|refine wDB ?_|refine awp_seq_k fun K hK=>?_|refine wN fun bx=>?_|refine wC g1 ?_|refine wC g2 ?_|(refine wH ?_;clear hK))
  exact fnQ_ret 0 rfl (.tmp rfl .nil) (Sub.refl _) ⟨⟨true,fun h=>by cases h⟩,rfl,rfl⟩
 repeat(first|refine wDB ?_|refine awp_seq_k fun K hK=>?_|refine wN fun bx=>?_|refine wC g1 ?_|refine wC g2 ?_|(refine wH ?_;clear hK))
 refine awp_loop0 (ι:={i:Nat//i≤proof.length∧∀j,j<i→NodeB (proof.getD j default)}) (fun i=>[(60,nodesV proof),(61,.int .i64 proof.length),(62,.int .i64 i.1)]) (fun _=>[]) (fun i=>proof.length-i.1) ⟨0,Nat.zero_le _,fun j hj=>absurd hj (Nat.not_lt_zero j)⟩ wk dp ?_
 rintro⟨i,hi,hok2⟩
 simp only at hi hok2 ⊢
 by_cases hlt:i<proof.length
 rotate_left
 ·have hge2:¬(i:Int)<proof.length:=by omega
  obtain rfl:i=proof.length:=by omega
  have nodes:∀n∈proof,NodeB n:=fun n hn=>by
   obtain⟨j,hj,e⟩:=List.getElem_of_mem hn
   have:=hok2 j hj
   rw[getD_get hj,e]at this
   exact this
  have all:SysB x conds proof∧LowS x conds:=⟨⟨fun h hh=>(hypos h hh).1,by omega,shown,by omega,cnd,by omega,nodes,by omega⟩,fun h hh=>(hypos h hh).2,great_low hg1,great_low hg2⟩
  repeat(first|refine wDB ?_|refine awp_seq_k fun K hK=>?_|refine wN fun bx=>?_|(refine wH ?_;clear hK))
  exact fnQ_ret 0 rfl (.tmp rfl .nil) (Sub.refl _) ⟨⟨false,fun _=>all⟩,rfl,rfl⟩
 have hlt':(i:Int)<proof.length:=by omega
 have hrn:=hr.nodes _ (getD_mem hlt)
 have n1:=hrn.setl
 have n2:=hrn.divl
 have n3:=hrn.headl
 have hnext:NodeB (proof.getD i default)→∀j,j<i+1→NodeB (proof.getD j default):=fun h j hj=>by
  by_cases e:j=i
  ·rw[e];exact h
  ·exact hok2 j (by omega)
 ((repeat(first|refine wDB ?_|refine awp_seq_k fun K hK=>?_|(refine wH ?_;clear hK)));refine wN fun b10=>?_)
 (((repeat(first|refine wT ?_|refine wN fun bx=>?_)));(try refine wP ?_);repeat(refine wH ?_;clear hK))
 refine awp_freeze [] (s:=10) rfl rfl ?_
 refine awp_weak (T':=[(10,.rptr (nodeE (proof.getD i default))),(60,nodesV proof),(61,.int .i64 proof.length),(62,.int .i64 i)]) wk ?_
 generalize hnd:proof.getD i default=n at*
 by_cases s1:(n.set.length:Int)>6
 ·repeat(first|refine wDB ?_|refine awp_seq_k fun K hK=>?_|refine wN fun bx=>?_|(refine wH ?_;clear hK))
  exact fnQ_ret 0 rfl (.tmp rfl .nil) (Sub.refl _) ⟨⟨true,fun h=>by cases h⟩,rfl,rfl⟩
 by_cases s2:(n.divs.length:Int)>4
 ·repeat(first|refine wDB ?_|refine awp_seq_k fun K hK=>?_|refine wN fun bx=>?_|(refine wH ?_;clear hK))
  exact fnQ_ret 0 rfl (.tmp rfl .nil) (Sub.refl _) ⟨⟨true,fun h=>by cases h⟩,rfl,rfl⟩
 by_cases s3:(n.heads.length:Int)>5
 ·repeat(first|refine wDB ?_|refine awp_seq_k fun K hK=>?_|refine wN fun bx=>?_|(refine wH ?_;clear hK))
  exact fnQ_ret 0 rfl (.tmp rfl .nil) (Sub.refl _) ⟨⟨true,fun h=>by cases h⟩,rfl,rfl⟩
 repeat(first|refine wDB ?_|refine awp_seq_k fun K hK=>?_|refine wN fun bx=>?_|(refine wH ?_;clear hK))
 refine awp_loop0 (ι:={j:Nat//j≤n.set.length∧∀q,q<j→DerB (n.set.getD q default)}) (fun j=>[(10,.rptr (nodeE n)),(60,nodesV proof),(61,.int .i64 proof.length),(62,.int .i64 i),(83,sl derE 4 n.set .view),(84,.int .i64 n.set.length),(85,.int .i64 j.1)]) (fun _=>[]) (fun j=>n.set.length-j.1) ⟨0,Nat.zero_le _,fun j hj=>absurd hj (Nat.not_lt_zero j)⟩ wk dp ?_
 rintro⟨j,hj,hokd⟩
 simp only at hj hokd ⊢
 by_cases hjl:j<n.set.length
 ·have hjl':(j:Int)<n.set.length:=by omega
  have hrd:=hrn.set _ (getD_mem hjl)
  have d1:=hrd.len
  have d2:=hrd.nl
  ((repeat(first|refine wDB ?_|refine awp_seq_k fun K hK=>?_|(refine wH ?_;clear hK)));refine wN fun b12=>?_)
  (((repeat(first|refine wT ?_|refine wN fun bx=>?_)));(try refine wP ?_);repeat(refine wH ?_;clear hK))
  refine awp_freeze [] (s:=12) rfl rfl ?_
  refine awp_weak (T':=[(10,.rptr (nodeE n)),(12,.rptr (derE (n.set.getD j default))),(60,nodesV proof),(61,.int .i64 proof.length),(62,.int .i64 i),(83,sl derE 4 n.set .view),(84,.int .i64 n.set.length),(85,.int .i64 j)]) wk ?_
  generalize hde:n.set.getD j default=d at*
  have g:=great2_c 40 d.p d.by' hrd.p hrd.by' d1
  cases hg:greatF 40 (d.p::d.by')with
  |true=>
   rw[hg]at g
   repeat(first|refine wDB ?_|refine awp_seq_k fun K hK=>?_|refine wN fun bx=>?_|(refine wH ?_;clear hK))
   refine qappG tyok polyE [d.p] d.by' (fun i hi=>?_) (fun _ _=>SubL.refl _) ?_ fun a1 c1=>?_
   ·have e0:i=0:=by simpa using hi
    subst e0
    exact SubL.refl _
   ·constructor
    ·show(1+d.by'.length)*24≤_
     omega
    ·show 1+d.by'.length≤_
     omega
   have g':=g a1 c1
   repeat(first|refine wDB ?_|refine awp_seq_k fun K hK=>?_|refine wN fun bx=>?_|refine wC g' ?_|(refine wH ?_;clear hK))
   exact fnQ_ret 1 rfl (.tmp rfl .nil) (Sub.refl _) ⟨⟨true,fun h=>by cases h⟩,rfl,rfl⟩
  |false=>
   rw[hg]at g
   have hps:=great_pol (most:=40) hg (fun p hp=>by
    rcases List.mem_cons.1 hp with rfl|hp
    ·exact hrd.p
    ·exact hrd.by' p hp) (by decide)
   by_cases d3:(d.n.mag.length:Int)>4
   ·repeat(first|refine wDB ?_|refine awp_seq_k fun K hK=>?_|refine wN fun bx=>?_|(refine wH ?_;clear hK))
    refine qappG tyok polyE [d.p] d.by' (fun i hi=>?_) (fun _ _=>SubL.refl _) ?_ fun a1 c1=>?_
    ·have e0:i=0:=by simpa using hi
     subst e0
     exact SubL.refl _
    ·constructor
     ·show(1+d.by'.length)*24≤_
      omega
     ·show 1+d.by'.length≤_
      omega
    have g':=g a1 c1
    repeat(first|refine wDB ?_|refine awp_seq_k fun K hK=>?_|refine wN fun bx=>?_|refine wC g' ?_|(refine wH ?_;clear hK))
    exact fnQ_ret 1 rfl (.tmp rfl .nil) (Sub.refl _) ⟨⟨true,fun h=>by cases h⟩,rfl,rfl⟩
   have hdb:DerB d:=by
    have hp:=hps d.p (List.mem_cons_self ..)
    have hby:=fun q hq=>hps q (List.mem_cons_of_mem _ hq)
    exact⟨⟨⟨hrd.lt,by omega⟩,hp.ok,fun q hq=>(hby q hq).ok,d1⟩,hp,hby⟩
   repeat(first|refine wDB ?_|refine awp_seq_k fun K hK=>?_|refine wN fun bx=>?_|(refine wH ?_;clear hK))
   refine qappG tyok polyE [d.p] d.by' (fun i hi=>?_) (fun _ _=>SubL.refl _) ?_ fun a1 c1=>?_
   ·have e0:i=0:=by simpa using hi
    subst e0
    exact SubL.refl _
   ·constructor
    ·show(1+d.by'.length)*24≤_
     omega
    ·show 1+d.by'.length≤_
     omega
   have g':=g a1 c1
   repeat(first|refine wDB ?_|refine awp_seq_k fun K hK=>?_|refine wN fun bx=>?_|refine wC g' ?_|(refine wH ?_;clear hK))
   refine⟨⟨j+1,hjl,fun q hq=>?_⟩,wk,dp,by simp only;omega⟩
   by_cases e:q=j
   ·rw[e,hde];exact hdb
   ·exact hokd q (by omega)
 have hjge:¬(j:Int)<n.set.length:=by omega
 obtain rfl:j=n.set.length:=by omega
 have hset:∀d∈n.set,DerB d:=fun d hd=>by
  obtain⟨q,hq,e⟩:=List.getElem_of_mem hd
  have:=hokd q hq
  rw[getD_get hq,e]at this
  exact this
 repeat(first|refine wDB ?_|refine awp_seq_k fun K hK=>?_|refine wN fun bx=>?_|(refine wH ?_;clear hK))
 refine awp_loop0 (ι:={j:Nat//j≤n.divs.length∧∀q,q<j→DivB (n.divs.getD q default)}) (fun j=>[(10,.rptr (nodeE n)),(60,nodesV proof),(61,.int .i64 proof.length),(62,.int .i64 i),(105,sl divE 3 n.divs .view),(106,.int .i64 n.divs.length),(107,.int .i64 j.1)]) (fun _=>[]) (fun j=>n.divs.length-j.1) ⟨0,Nat.zero_le _,fun j hj=>absurd hj (Nat.not_lt_zero j)⟩ wk dp ?_
 rintro⟨j,hj,hokv⟩
 simp only at hj hokv ⊢
 by_cases hjl:j<n.divs.length
 ·have hjl':(j:Int)<n.divs.length:=by omega
  have hrv:=hrn.divs _ (getD_mem hjl)
  have d1:=hrv.len
  have d2:=hrv.pw
  ((repeat(first|refine wDB ?_|refine awp_seq_k fun K hK=>?_|(refine wH ?_;clear hK)));refine wN fun b14=>?_)
  (((repeat(first|refine wT ?_|refine wN fun bx=>?_)));(try refine wP ?_);repeat(refine wH ?_;clear hK))
  refine awp_freeze [] (s:=14) rfl rfl ?_
  refine awp_weak (T':=[(10,.rptr (nodeE n)),(14,.rptr (divE (n.divs.getD j default))),(60,nodesV proof),(61,.int .i64 proof.length),(62,.int .i64 i),(105,sl divE 3 n.divs .view),(106,.int .i64 n.divs.length),(107,.int .i64 j)]) wk ?_
  generalize hdv:n.divs.getD j default=d at*
  have g:=great2_c 40 d.rest d.cof hrv.rest hrv.cof d1
  cases hg:greatF 40 (d.rest::d.cof)with
  |true=>
   rw[hg]at g
   repeat(first|refine wDB ?_|refine awp_seq_k fun K hK=>?_|refine wN fun bx=>?_|(refine wH ?_;clear hK))
   refine qappG tyok polyE [d.rest] d.cof (fun i hi=>?_) (fun _ _=>SubL.refl _) ?_ fun a1 c1=>?_
   ·have e0:i=0:=by simpa using hi
    subst e0
    exact SubL.refl _
   ·constructor
    ·show(1+d.cof.length)*24≤_
     omega
    ·show 1+d.cof.length≤_
     omega
   have g':=g a1 c1
   repeat(first|refine wDB ?_|refine awp_seq_k fun K hK=>?_|refine wN fun bx=>?_|refine wC g' ?_|(refine wH ?_;clear hK))
   exact fnQ_ret 1 rfl (.tmp rfl .nil) (Sub.refl _) ⟨⟨true,fun h=>by cases h⟩,rfl,rfl⟩
  |false=>
   rw[hg]at g
   have hps:=great_pol (most:=40) hg (fun p hp=>by
    rcases List.mem_cons.1 hp with rfl|hp
    ·exact hrv.rest
    ·exact hrv.cof p hp) (by decide)
   by_cases d3:(d.pw.length:Int)>6
   ·repeat(first|refine wDB ?_|refine awp_seq_k fun K hK=>?_|refine wN fun bx=>?_|(refine wH ?_;clear hK))
    refine qappG tyok polyE [d.rest] d.cof (fun i hi=>?_) (fun _ _=>SubL.refl _) ?_ fun a1 c1=>?_
    ·have e0:i=0:=by simpa using hi
     subst e0
     exact SubL.refl _
    ·constructor
     ·show(1+d.cof.length)*24≤_
      omega
     ·show 1+d.cof.length≤_
      omega
    have g':=g a1 c1
    repeat(first|refine wDB ?_|refine awp_seq_k fun K hK=>?_|refine wN fun bx=>?_|refine wC g' ?_|(refine wH ?_;clear hK))
    exact fnQ_ret 1 rfl (.tmp rfl .nil) (Sub.refl _) ⟨⟨true,fun h=>by cases h⟩,rfl,rfl⟩
   repeat(first|refine wDB ?_|refine awp_seq_k fun K hK=>?_|refine wN fun bx=>?_|(refine wH ?_;clear hK))
   refine qappG tyok polyE [d.rest] d.cof (fun i hi=>?_) (fun _ _=>SubL.refl _) ?_ fun a1 c1=>?_
   ·have e0:i=0:=by simpa using hi
    subst e0
    exact SubL.refl _
   ·constructor
    ·show(1+d.cof.length)*24≤_
     omega
    ·show 1+d.cof.length≤_
     omega
   have g':=g a1 c1
   repeat(first|refine wDB ?_|refine awp_seq_k fun K hK=>?_|refine wN fun bx=>?_|refine wC g' ?_|(refine wH ?_;clear hK))
   refine awp_loop0 (ι:={k:Nat//k≤d.pw.length∧∀q,q<k→d.pw.getD q default≤4∨100<d.pw.getD q default}) (fun k=>[(10,.rptr (nodeE n)),(60,nodesV proof),(61,.int .i64 proof.length),(62,.int .i64 i),(105,sl divE 3 n.divs .view),(106,.int .i64 n.divs.length),(107,.int .i64 j),(125,pwsV d.pw),(126,.int .i64 d.pw.length),(127,.int .i64 k.1)]) (fun _=>[]) (fun k=>d.pw.length-k.1) ⟨0,Nat.zero_le _,fun j hj=>absurd hj (Nat.not_lt_zero j)⟩ wk dp ?_
   rintro⟨k,hk,hokp⟩
   simp only at hk hokp ⊢
   by_cases hkl:k<d.pw.length
   ·have hkl':(k:Int)<d.pw.length:=by omega
    have hx:d.pw.getD ((k:Int)).toNat default=d.pw.getD k default:=rfl
    by_cases p1:d.pw.getD k default>4
    ·by_cases p2:d.pw.getD k default≤100
     ·repeat(first|refine wDB ?_|refine awp_seq_k fun K hK=>?_|refine wN fun bx=>?_|(refine wH ?_;clear hK))
      exact fnQ_ret 0 rfl (.tmp rfl .nil) (Sub.refl _) ⟨⟨true,fun h=>by cases h⟩,rfl,rfl⟩
     ·repeat(first|refine wDB ?_|refine awp_seq_k fun K hK=>?_|refine wN fun bx=>?_|(refine wH ?_;clear hK))
      refine⟨⟨k+1,hkl,fun q hq=>?_⟩,wk,dp,by simp only;omega⟩
      by_cases e:q=k
      ·rw[e];omega
      ·exact hokp q (by omega)
    ·repeat(first|refine wDB ?_|refine awp_seq_k fun K hK=>?_|refine wN fun bx=>?_|(refine wH ?_;clear hK))
     refine⟨⟨k+1,hkl,fun q hq=>?_⟩,wk,dp,by simp only;omega⟩
     by_cases e:q=k
     ·rw[e];omega
     ·exact hokp q (by omega)
   have hkge:¬(k:Int)<d.pw.length:=by omega
   obtain rfl:k=d.pw.length:=by omega
   have hdb:DivB d:=⟨fun q hq=>hps q (List.mem_cons_of_mem _ hq),d1,by have:=(hps d.rest (List.mem_cons_self ..)).len;omega,by omega,fun z hz=>by
    obtain⟨q,hq,e⟩:=List.getElem_of_mem hz
    have:=hokp q hq
    rw[getD_get hq,e]at this
    exact this⟩
   repeat(first|refine wDB ?_|refine awp_seq_k fun K hK=>?_|refine wN fun bx=>?_|(refine wH ?_;clear hK))
   refine⟨⟨j+1,hjl,fun q hq=>?_⟩,wk,dp,by simp only;omega⟩
   by_cases e:q=j
   ·rw[e,hdv];exact hdb
   ·exact hokv q (by omega)
 have hjge:¬(j:Int)<n.divs.length:=by omega
 obtain rfl:j=n.divs.length:=by omega
 have hdivs:∀d∈n.divs,DivB d:=fun d hd=>by
  obtain⟨q,hq,e⟩:=List.getElem_of_mem hd
  have:=hokv q hq
  rw[getD_get hq,e]at this
  exact this
 repeat(first|refine wDB ?_|refine awp_seq_k fun K hK=>?_|refine wN fun bx=>?_|(refine wH ?_;clear hK))
 refine awp_loop0 (ι:={j:Nat//j≤n.heads.length∧∀q,q<j→PolR 4 40 (n.heads.getD q default).p}) (fun j=>[(10,.rptr (nodeE n)),(60,nodesV proof),(61,.int .i64 proof.length),(62,.int .i64 i),(140,sl headE 3 n.heads .view),(141,.int .i64 n.heads.length),(142,.int .i64 j.1)]) (fun _=>[]) (fun j=>n.heads.length-j.1) ⟨0,Nat.zero_le _,fun j hj=>absurd hj (Nat.not_lt_zero j)⟩ wk dp ?_
 rintro⟨j,hj,hokh⟩
 simp only at hj hokh ⊢
 by_cases hjl:j<n.heads.length
 rotate_left
 ·have hjge:¬(j:Int)<n.heads.length:=by omega
  obtain rfl:j=n.heads.length:=by omega
  have hheads:∀h∈n.heads,PolR 4 40 h.p:=fun h hh=>by
   obtain⟨q,hq,e⟩:=List.getElem_of_mem hh
   have:=hokh q hq
   rw[getD_get hq,e]at this
   exact this
  have hnb:NodeB n:=⟨hset,by omega,hdivs,by omega,hheads,by omega⟩
  repeat(first|refine wDB ?_|refine awp_seq_k fun K hK=>?_|refine wN fun bx=>?_|(refine wH ?_;clear hK))
  exact⟨⟨i+1,hlt,hnext hnb⟩,wk,dp,by simp only;omega⟩
 have hjl':(j:Int)<n.heads.length:=by omega
 have hrp:=hrn.heads _ (getD_mem hjl)
 have g:=great1_c 12 (n.heads.getD j default).p hrp
 cases hg:greatF 12 [(n.heads.getD j default).p]with
 |true=>
  rw[hg]at g
  ((repeat(first|refine wDB ?_|refine awp_seq_k fun K hK=>?_|refine wC g ?_|(refine wH ?_;clear hK)));refine wN fun b18=>?_;(repeat(first|refine wDB ?_|refine awp_seq_k fun K hK=>?_|refine wN fun bx=>?_|refine wC g ?_|(refine wH ?_;clear hK))))
  exact fnQ_ret 1 rfl (.tmp rfl .nil) (Sub.refl _) ⟨⟨true,fun h=>by cases h⟩,rfl,rfl⟩
 |false=>
  rw[hg]at g
  have hpol:=great_pol (most:=12) hg (fun p hp=>by rw[List.mem_singleton.1 hp];exact hrp) (by decide) _ (List.mem_singleton.2 rfl)
  ((repeat(first|refine wDB ?_|refine awp_seq_k fun K hK=>?_|refine wC g ?_|(refine wH ?_;clear hK)));refine wN fun b18=>?_;(repeat(first|refine wDB ?_|refine awp_seq_k fun K hK=>?_|refine wN fun bx=>?_|refine wC g ?_|(refine wH ?_;clear hK))))
  refine⟨⟨j+1,hjl,fun q hq=>?_⟩,wk,dp,by simp only;omega⟩
  by_cases e:q=j
  ·rw[e];exact hpol
  ·exact hokh q (by omega)
end Go.Proofs.YtkbdklmdcbmgkaaGreat
namespace Go.Proofs.YtkbdklmdcbmgkaaGreat
open Go.Ab
def z3:Option Addr×Nat×Nat:=(none,0,0)
def xP:PZ:=[(1,[(1,1)])]
def oneP:PZ:=[(1,[])]
def nodeOne:NodeR:=⟨3,[],0,0,[],[]⟩
def byR:DerR:=⟨⟨false,[1]⟩,rawZ xP,[rawZ oneP]⟩
def divR:DivR:=⟨[0],[rawZ oneP],[]⟩
def nodeTwo:NodeR:=⟨3,[byR],0,0,[divR],[]⟩
def sys0:SysR:=⟨z3,z3,0,0,[],[],z3⟩
def sys1:SysR:=⟨z3,z3,0,0,[(rawZ xP,0)],[rawZ xP],z3⟩
def sys2:SysR:=⟨z3,z3,0,0,[],[rawZ xP],z3⟩
theorem kn1:acceptsP [] [] [] [nodeOne]=true:=by decide +kernel
theorem kn2:acceptsP [] [] [] []=false:=by decide +kernel
theorem kn3:acceptsP [rawZ xP] [rawZ xP] [] [nodeTwo]=true:=by decide +kernel
theorem kn4:acceptsP [] [rawZ xP] [] [nodeTwo]=false:=by decide +kernel
theorem x_ok:CanK 1 xP:=⟨⟨by decide,by decide,List.pairwise_singleton _ _⟩,fun t ht=>by rw[List.mem_singleton.1 ht];unfold ZOk;decide⟩
theorem one_ok:CanK 1 oneP:=⟨⟨by decide,by decide,List.pairwise_singleton _ _⟩,fun t ht=>by rw[List.mem_singleton.1 ht];unfold ZOk;decide⟩
theorem cbX8:Callable Tryz.prog 11:=fun _ _=>by kernel_rfl
theorem x8_c:PCalls Tryz.prog 11 [.int .i64 1] (pZ xP):=by
 refine pcalls_of_awp tyok cbX8 Tryz.func11 rfl rfl ?_
 have g:=zSmall_c 1 (by decide) (by decide)
 repeat(first|refine wDB ?_|refine awp_seq_k fun K hK=>?_|refine wN fun bx=>?_|refine wC g ?_|(refine wH ?_;clear hK))
 refine r1 ?_
 refine(Sub.view _ _ _ _).trans (Sub.els fun i hi=>?_)
 have e:i=0:=by omega
 subst e
 refine .cons (Sub.refl _) (.cons (Sub.refl _) (.cons ?_ .nil))
 refine(Sub.view _ _ _ _).trans (Sub.els fun i hi=>?_)
 have e:i=0:=by omega
 subst e
 exact SubL.refl _
theorem cbSmall8:Callable Tryz.prog 13:=fun _ _=>by kernel_rfl
theorem small8_c:PCalls Tryz.prog 13 [.int .i64 1] (pZ oneP):=by
 refine pcalls_of_awp tyok cbSmall8 Tryz.func13 rfl rfl ?_
 have g:=zSmall_c 1 (by decide) (by decide)
 have g2:=(r8put_c [] 1 [] 1 (by decide) (canK_nil 1) (by unfold ZOk;decide) rfl (by decide)).sub (vs:=[.nils,.agg (zE 1),.nils]) (.cons (Sub.nilsv _ _) (.cons (Sub.refl _) (.cons (Sub.nilsv _ _) .nil)))
 have e:putZ 1 [] []=oneP:=rfl
 rw[e]at g2
 repeat(first|refine wDB ?_|refine awp_seq_k fun K hK=>?_|refine wN fun bx=>?_|refine wC g ?_|refine wC g2 ?_|(refine wH ?_;clear hK))
 refine r1 ?_
 exact Sub.refl _
theorem xPoly_c:PCalls Tryz.prog 12 [pZ xP] (polyV (rawZ xP)):=rppoly_c xP 1 (by decide) x_ok.bd (by decide) (by decide)
theorem onePoly_c:PCalls Tryz.prog 12 [pZ oneP] (polyV (rawZ oneP)):=rppoly_c oneP 1 (by decide) one_ok.bd (by decide) (by decide)
theorem one_sl {α:Type} [Inhabited α] (f:α→List AV) (x:α) {sz:Nat} {el:Nat→List AV} (h:SubL (el 0) (f x)):Sub (.slice sz 1 el .full) (sl f sz [x] .view):=
 (Sub.view _ _ _ _).trans (Sub.els fun i hi=>by
   have e:i=0:=by omega
   subst e
   exact h)
theorem nils_conc:Sub .nils (concS z3):=fun st w c h=>by
 cases h
 exact .conc _
theorem polR_raw {q:PZ} (h:CanK 1 q) (hl:q.length≤1):PolR 4 40 (rawZ q):=⟨(h.ok (by omega)).mono (by decide),by unfold rawZ;rw[List.length_map];omega⟩
theorem xR:PolR 4 40 (rawZ xP):=polR_raw x_ok (by decide)
theorem oneR:PolR 4 40 (rawZ oneP):=polR_raw one_ok (by decide)
theorem nodeOneB:NodeB nodeOne:=⟨fun d hd=>absurd hd List.not_mem_nil,by decide,fun d hd=>absurd hd List.not_mem_nil,by decide,fun d hd=>absurd hd List.not_mem_nil,by decide⟩
theorem byB:DerB byR:=⟨⟨⟨by decide,by decide⟩,xR.ok,fun p hp=>by rw[List.mem_singleton.1 hp];exact oneR.ok,by decide⟩,xR,fun p hp=>by rw[List.mem_singleton.1 hp];exact oneR⟩
theorem divB:DivB divR:=⟨fun p hp=>by rw[List.mem_singleton.1 hp];exact oneR,by decide,by decide,by decide,by decide⟩
theorem nodeTwoB:NodeB nodeTwo:=⟨fun d hd=>by rw[List.mem_singleton.1 hd];exact byB,by decide,fun d hd=>by rw[List.mem_singleton.1 hd];exact divB,by decide,fun d hd=>absurd hd List.not_mem_nil,by decide⟩
theorem sysB (x:SysR) (proof:List NodeR) (h1:∀h∈x.hypos,PolR 4 40 h.1) (h2:x.hypos.length≤6) (h3:∀p∈x.shown,PolR 4 40 p) (h4:x.shown.length≤3) (h5:∀n∈proof,NodeB n) (h6:proof.length≤5):SysB x [] proof:=
 ⟨h1,h2,h3,h4,fun p hp=>absurd hp List.not_mem_nil,by decide,h5,h6⟩
theorem sys_sub (sh:List (List TermR)) (v:AV) (hv:Sub v (polysV sh)):Sub (.agg [.nils,.nils,.int .i64 0,.int .i64 0,.nils,v,.nils]) (.agg (sysE ⟨z3,z3,0,0,[],sh,z3⟩)):=
 subAgg (.cons nils_conc (.cons nils_conc (.cons (Sub.refl _) (.cons (Sub.refl _) (.cons (Sub.nilsv _ _) (.cons hv (.cons nils_conc .nil)))))))
theorem cbKnown:Callable Tryz.prog 6:=fun _ _=>by kernel_rfl
theorem known_c:PCalls Tryz.prog 6 [] (.bool true):=by
 refine pcalls_of_awp tyok cbKnown Tryz.func6 rfl rfl ?_
 have g1:=x8_c
 have g2:=small8_c
 have g3:=xPoly_c
 have g4:=onePoly_c
 ((repeat(first|refine wDB ?_|refine awp_seq_k fun K hK=>?_|refine wC g1 ?_|refine wC g2 ?_|refine wC g3 ?_|refine wC g4 ?_|(refine wH ?_;clear hK)));refine wN fun b3=>?_)
 (((repeat(first|refine wT ?_|refine wN fun bx=>?_)));(try refine wP ?_);repeat(refine wH ?_;clear hK))
 refine awp_boxSub [] (v':=.agg (derE byR)) (subAgg (.cons (Sub.refl _) (.cons (one_sl limE 1 (SubL.refl _)) (.cons (Sub.refl _) (.cons (one_sl polyE (rawZ oneP) (SubL.refl _)) .nil))))) ?_
 refine awp_freeze [] (s:=3) rfl rfl ?_
 ((repeat(first|refine wDB ?_|refine awp_seq_k fun K hK=>?_|(refine wH ?_;clear hK)));refine wN fun b4=>?_)
 (((repeat(first|refine wT ?_|refine wN fun bx=>?_)));(try refine wP ?_);repeat(refine wH ?_;clear hK))
 refine awp_boxSub [] (v':=.agg (sysE sys1)) (subAgg (.cons nils_conc (.cons nils_conc (.cons (Sub.refl _) (.cons (Sub.refl _) (.cons (one_sl hypE (rawZ xP,0) (SubL.refl _)) (.cons (one_sl polyE (rawZ xP) (SubL.refl _)) (.cons nils_conc .nil)))))))) ?_
 refine awp_freeze [] (s:=4) rfl rfl ?_
 refine awp_weak (T':=[(1,nodesV [nodeOne]),(3,.rptr (derE byR)),(4,.rptr (sysE sys1))]) ⟨⟨_,rfl,one_sl nodeE nodeOne (.cons (Sub.refl _) (.cons (Sub.nilsv _ _) (.cons (Sub.refl _) (.cons (Sub.refl _) (.cons (Sub.nilsv _ _) (.cons (Sub.nilsv _ _) .nil))))))⟩,⟨_,rfl,Sub.refl _⟩,⟨_,rfl,Sub.refl _⟩,trivial⟩ ?_
 repeat(first|refine wKB ?_|refine awp_seq_k fun K hK=>?_|refine wN fun bx=>?_|(refine wH ?_;clear hK))
 refine(have hr:∀T' H',Weak T' [(1,nodesV [nodeOne]),(4,.rptr (sysE sys1)),(5,nodesV [nodeTwo])]→List.Perm (α:=Ent) H' []→K T' H':=cutKP hK ?_;?_)
 rotate_left
 ·clear hK
  refine areg_anyK mixed tyok [1,2,3,4,5,7] [0] [1,2,3,4,5,6,7] [8,9,10] (by decide +kernel) (by decide +kernel) ?_
  repeat(first|refine wD ?_|refine awp_seq_k fun K hK=>?_|refine wN fun bx=>?_|(refine wH ?_;clear hK))
  all_goals
   intro a ha hrd
   have h7:a∈([1,2,3,4,5,6,7]:List Nat):=by
    (repeat(first|exact ha|replace ha:=List.mem_of_mem_erase ha))
   simp only[List.mem_cons,List.mem_nil_iff,or_false]at h7
   rcases h7 with rfl|rfl|rfl|rfl|rfl|rfl|rfl
  all_goals try exact absurd ha (by decide)
  all_goals try exact absurd (ancB_spec (by decide +kernel)) (hrd 2 (by decide))
  all_goals try exact absurd (ancB_spec (by decide +kernel)) (hrd 3 (by decide))
  all_goals try exact absurd (ancB_spec (by decide +kernel)) (hrd 4 (by decide))
  all_goals try exact absurd (ancB_spec (by decide +kernel)) (hrd 5 (by decide))
  all_goals try exact absurd (ancB_spec (by decide +kernel)) (hrd 6 (by decide))
  all_goals
   first
    |refine .inl ⟨rfl,one_pcall rfl rfl rfl rfl True.intro rfl rfl g2 ?_⟩
    |refine .inl ⟨rfl,one_pcall rfl rfl rfl rfl True.intro rfl rfl g4 ?_⟩
    |refine .inl ⟨rfl,one_build tyok rfl rfl rfl rfl True.intro rfl rfl rfl rfl rfl rfl rfl rfl ?_⟩
    |(refine .inr ⟨rfl,?_⟩;repeat(first|refine wD ?_|refine awp_seq_k fun K hK=>?_|refine wN fun bx=>?_|(refine wH ?_;clear hK)))
  all_goals
   intro a ha hrd
   have h7:a∈([1,2,3,4,5,6,7]:List Nat):=by
    (repeat(first|exact ha|replace ha:=List.mem_of_mem_erase ha))
   simp only[List.mem_cons,List.mem_nil_iff,or_false]at h7
   rcases h7 with rfl|rfl|rfl|rfl|rfl|rfl|rfl
  all_goals try exact absurd ha (by decide)
  all_goals try exact absurd (ancB_spec (by decide +kernel)) (hrd 2 (by decide))
  all_goals try exact absurd (ancB_spec (by decide +kernel)) (hrd 3 (by decide))
  all_goals try exact absurd (ancB_spec (by decide +kernel)) (hrd 4 (by decide))
  all_goals try exact absurd (ancB_spec (by decide +kernel)) (hrd 5 (by decide))
  all_goals try exact absurd (ancB_spec (by decide +kernel)) (hrd 6 (by decide))
  all_goals
   first
    |refine .inl ⟨rfl,one_pcall rfl rfl rfl rfl True.intro rfl rfl g2 ?_⟩
    |refine .inl ⟨rfl,one_pcall rfl rfl rfl rfl True.intro rfl rfl g4 ?_⟩
    |refine .inl ⟨rfl,one_build tyok rfl rfl rfl rfl True.intro rfl rfl rfl rfl rfl rfl rfl rfl ?_⟩
    |(refine .inr ⟨rfl,?_⟩;repeat(first|refine wD ?_|refine awp_seq_k fun K hK=>?_|refine wN fun bx=>?_|(refine wH ?_;clear hK)))
  all_goals
   intro a ha hrd
   have h7:a∈([1,2,3,4,5,6,7]:List Nat):=by
    (repeat(first|exact ha|replace ha:=List.mem_of_mem_erase ha))
   simp only[List.mem_cons,List.mem_nil_iff,or_false]at h7
   rcases h7 with rfl|rfl|rfl|rfl|rfl|rfl|rfl
  all_goals try exact absurd ha (by decide)
  all_goals try exact absurd (ancB_spec (by decide +kernel)) (hrd 2 (by decide))
  all_goals try exact absurd (ancB_spec (by decide +kernel)) (hrd 3 (by decide))
  all_goals try exact absurd (ancB_spec (by decide +kernel)) (hrd 4 (by decide))
  all_goals try exact absurd (ancB_spec (by decide +kernel)) (hrd 5 (by decide))
  all_goals try exact absurd (ancB_spec (by decide +kernel)) (hrd 6 (by decide))
  all_goals
   first
    |refine .inl ⟨rfl,one_pcall rfl rfl rfl rfl True.intro rfl rfl g2 ?_⟩
    |refine .inl ⟨rfl,one_pcall rfl rfl rfl rfl True.intro rfl rfl g4 ?_⟩
    |refine .inl ⟨rfl,one_build tyok rfl rfl rfl rfl True.intro rfl rfl rfl rfl rfl rfl rfl rfl ?_⟩
    |(refine .inr ⟨rfl,?_⟩;repeat(first|refine wD ?_|refine awp_seq_k fun K hK=>?_|refine wN fun bx=>?_|(refine wH ?_;clear hK)))
  all_goals
   intro a ha hrd
   have h7:a∈([1,2,3,4,5,6,7]:List Nat):=by
    (repeat(first|exact ha|replace ha:=List.mem_of_mem_erase ha))
   simp only[List.mem_cons,List.mem_nil_iff,or_false]at h7
   rcases h7 with rfl|rfl|rfl|rfl|rfl|rfl|rfl
  all_goals try exact absurd ha (by decide)
  all_goals try exact absurd (ancB_spec (by decide +kernel)) (hrd 2 (by decide))
  all_goals try exact absurd (ancB_spec (by decide +kernel)) (hrd 3 (by decide))
  all_goals try exact absurd (ancB_spec (by decide +kernel)) (hrd 4 (by decide))
  all_goals try exact absurd (ancB_spec (by decide +kernel)) (hrd 5 (by decide))
  all_goals try exact absurd (ancB_spec (by decide +kernel)) (hrd 6 (by decide))
  all_goals
   first
    |refine .inl ⟨rfl,one_pcall rfl rfl rfl rfl True.intro rfl rfl g2 ?_⟩
    |refine .inl ⟨rfl,one_pcall rfl rfl rfl rfl True.intro rfl rfl g4 ?_⟩
    |refine .inl ⟨rfl,one_build tyok rfl rfl rfl rfl True.intro rfl rfl rfl rfl rfl rfl rfl rfl ?_⟩
    |(refine .inr ⟨rfl,?_⟩;repeat(first|refine wD ?_|refine awp_seq_k fun K hK=>?_|refine wN fun bx=>?_|(refine wH ?_;clear hK)))
  all_goals
   intro a ha hrd
   have h7:a∈([1,2,3,4,5,6,7]:List Nat):=by
    (repeat(first|exact ha|replace ha:=List.mem_of_mem_erase ha))
   simp only[List.mem_cons,List.mem_nil_iff,or_false]at h7
   rcases h7 with rfl|rfl|rfl|rfl|rfl|rfl|rfl
  all_goals try exact absurd ha (by decide)
  all_goals try exact absurd (ancB_spec (by decide +kernel)) (hrd 2 (by decide))
  all_goals try exact absurd (ancB_spec (by decide +kernel)) (hrd 3 (by decide))
  all_goals try exact absurd (ancB_spec (by decide +kernel)) (hrd 4 (by decide))
  all_goals try exact absurd (ancB_spec (by decide +kernel)) (hrd 5 (by decide))
  all_goals try exact absurd (ancB_spec (by decide +kernel)) (hrd 6 (by decide))
  all_goals
   first
    |refine .inl ⟨rfl,one_pcall rfl rfl rfl rfl True.intro rfl rfl g2 ?_⟩
    |refine .inl ⟨rfl,one_pcall rfl rfl rfl rfl True.intro rfl rfl g4 ?_⟩
    |refine .inl ⟨rfl,one_build tyok rfl rfl rfl rfl True.intro rfl rfl rfl rfl rfl rfl rfl rfl ?_⟩
    |(refine .inr ⟨rfl,?_⟩;repeat(first|refine wD ?_|refine awp_seq_k fun K hK=>?_|refine wN fun bx=>?_|(refine wH ?_;clear hK)))
  all_goals
   intro a ha hrd
   have h7:a∈([1,2,3,4,5,6,7]:List Nat):=by
    (repeat(first|exact ha|replace ha:=List.mem_of_mem_erase ha))
   simp only[List.mem_cons,List.mem_nil_iff,or_false]at h7
   rcases h7 with rfl|rfl|rfl|rfl|rfl|rfl|rfl
  all_goals try exact absurd ha (by decide)
  all_goals try exact absurd (ancB_spec (by decide +kernel)) (hrd 2 (by decide))
  all_goals try exact absurd (ancB_spec (by decide +kernel)) (hrd 3 (by decide))
  all_goals try exact absurd (ancB_spec (by decide +kernel)) (hrd 4 (by decide))
  all_goals try exact absurd (ancB_spec (by decide +kernel)) (hrd 5 (by decide))
  all_goals try exact absurd (ancB_spec (by decide +kernel)) (hrd 6 (by decide))
  all_goals
   first
    |refine .inl ⟨rfl,one_pcall rfl rfl rfl rfl True.intro rfl rfl g2 ?_⟩
    |refine .inl ⟨rfl,one_pcall rfl rfl rfl rfl True.intro rfl rfl g4 ?_⟩
    |refine .inl ⟨rfl,one_build tyok rfl rfl rfl rfl True.intro rfl rfl rfl rfl rfl rfl rfl rfl ?_⟩
    |(refine .inr ⟨rfl,?_⟩;repeat(first|refine wD ?_|refine awp_seq_k fun K hK=>?_|refine wN fun bx=>?_|(refine wH ?_;clear hK)))
  all_goals
   intro a ha hrd
   have h7:a∈([1,2,3,4,5,6,7]:List Nat):=by
    (repeat(first|exact ha|replace ha:=List.mem_of_mem_erase ha))
   simp only[List.mem_cons,List.mem_nil_iff,or_false]at h7
   rcases h7 with rfl|rfl|rfl|rfl|rfl|rfl|rfl
  all_goals try exact absurd ha (by decide)
  all_goals try exact absurd (ancB_spec (by decide +kernel)) (hrd 2 (by decide))
  all_goals try exact absurd (ancB_spec (by decide +kernel)) (hrd 3 (by decide))
  all_goals try exact absurd (ancB_spec (by decide +kernel)) (hrd 4 (by decide))
  all_goals try exact absurd (ancB_spec (by decide +kernel)) (hrd 5 (by decide))
  all_goals try exact absurd (ancB_spec (by decide +kernel)) (hrd 6 (by decide))
  all_goals
   first
    |refine .inl ⟨rfl,one_pcall rfl rfl rfl rfl True.intro rfl rfl g2 ?_⟩
    |refine .inl ⟨rfl,one_pcall rfl rfl rfl rfl True.intro rfl rfl g4 ?_⟩
    |refine .inl ⟨rfl,one_build tyok rfl rfl rfl rfl True.intro rfl rfl rfl rfl rfl rfl rfl rfl ?_⟩
    |(refine .inr ⟨rfl,?_⟩;repeat(first|refine wD ?_|refine awp_seq_k fun K hK=>?_|refine wN fun bx=>?_|(refine wH ?_;clear hK)))
  all_goals
   refine allx_zero ?_
   repeat(first|refine wD ?_|refine awp_seq_k fun K hK=>?_|refine wN fun bx=>?_|(refine wH ?_;clear hK))
   refine hr _ _ ⟨⟨_,rfl,Sub.refl _⟩,⟨_,rfl,Sub.refl _⟩,⟨_,rfl,one_sl nodeE nodeTwo (.cons (Sub.refl _) (.cons (one_sl derE byR (SubL.refl _)) (.cons (Sub.refl _) (.cons (Sub.refl _) (.cons (one_sl divE divR (.cons (one_sl pwE 0 (SubL.refl _)) (.cons (one_sl polyE (rawZ oneP) (SubL.refl _)) (.cons (Sub.nilsv _ _) .nil)))) (.cons (Sub.nilsv _ _) .nil))))))⟩,trivial⟩ (List.Perm.refl _)
 clear hK
 have a1:=(acc_c sys0 [] [nodeOne] (sysB _ _ (fun h hh=>absurd hh List.not_mem_nil) (by decide) (fun h hh=>absurd hh List.not_mem_nil) (by decide) (fun n hn=>by rw[List.mem_singleton.1 hn];exact nodeOneB) (by decide))).sub (vs:=[.agg [.nils,.nils,.int .i64 0,.int .i64 0,.nils,.nils,.nils],.nils,nodesV [nodeOne]]) (.cons (sys_sub [] _ (Sub.nilsv _ _)) (.cons (Sub.nilsv _ _) (.cons (Sub.refl _) .nil)))
 have a2:=(acc_c sys0 [] [] (sysB _ _ (fun h hh=>absurd hh List.not_mem_nil) (by decide) (fun h hh=>absurd hh List.not_mem_nil) (by decide) (fun n hn=>absurd hn List.not_mem_nil) (by decide))).sub (vs:=[.agg [.nils,.nils,.int .i64 0,.int .i64 0,.nils,.nils,.nils],.nils,.nils]) (.cons (sys_sub [] _ (Sub.nilsv _ _)) (.cons (Sub.nilsv _ _) (.cons (Sub.nilsv _ _) .nil)))
 have a3:=(acc_c sys1 [] [nodeTwo] (sysB _ _ (fun h hh=>by rw[List.mem_singleton.1 hh];exact xR) (by decide) (fun p hp=>by rw[List.mem_singleton.1 hp];exact xR) (by decide) (fun n hn=>by rw[List.mem_singleton.1 hn];exact nodeTwoB) (by decide))).sub (vs:=[.agg (sysE sys1),.nils,nodesV [nodeTwo]]) (.cons (Sub.refl _) (.cons (Sub.nilsv _ _) (.cons (Sub.refl _) .nil)))
 have a4:=(acc_c sys2 [] [nodeTwo] (sysB _ _ (fun h hh=>absurd hh List.not_mem_nil) (by decide) (fun p hp=>by rw[List.mem_singleton.1 hp];exact xR) (by decide) (fun n hn=>by rw[List.mem_singleton.1 hn];exact nodeTwoB) (by decide))).sub (vs:=[.agg [.nils,.nils,.int .i64 0,.int .i64 0,.nils,polysV [rawZ xP],.nils],.nils,nodesV [nodeTwo]]) (.cons (sys_sub [rawZ xP] _ (Sub.refl _)) (.cons (Sub.nilsv _ _) (.cons (Sub.refl _) .nil)))
 rw[show acceptsP (sys0.hypos.map (·.1)) sys0.shown [] [nodeOne]=true from kn1]at a1
 rw[show acceptsP (sys0.hypos.map (·.1)) sys0.shown [] []=false from kn2]at a2
 rw[show acceptsP (sys1.hypos.map (·.1)) sys1.shown [] [nodeTwo]=true from kn3]at a3
 rw[show acceptsP (sys2.hypos.map (·.1)) sys2.shown [] [nodeTwo]=false from kn4]at a4
 repeat(first|refine wDB ?_|refine awp_seq_k fun K hK=>?_|refine wN fun bx=>?_|refine wC a1 ?_|refine wC a2 ?_|refine wC a3 ?_|refine wC a4 ?_|(refine wH ?_;clear hK))
 refine r1 ?_
 exact Sub.refl _
theorem cbLawA:Callable Tryz.prog 3:=fun _ _=>by kernel_rfl
theorem checkerAccepts_c (x:SysR) (conds:List (List TermR)) (proof:List NodeR) (hr:RawS x conds proof):PCalls Tryz.prog 3 [.agg (sysE x),polysV conds,nodesV proof] (.bool true):=by
 refine pcalls_of_awp tyok cbLawA Tryz.func3 rfl rfl ?_
 have gB:=big31_c x conds proof hr
 have gK:=known_c
 ((repeat(first|refine wDB ?_|refine awp_seq_k fun K hK=>?_|(refine wH ?_;clear hK)));refine wN fun b3=>?_)
 (((repeat(first|refine wT ?_|refine wN fun bx=>?_)));(try refine wP ?_);repeat(refine wH ?_;clear hK))
 refine awp_freeze [] (s:=3) rfl rfl ?_
 repeat(first|refine wDB ?_|refine awp_seq_k fun K hK=>?_|refine wN fun bx=>?_|(refine wH ?_;clear hK))
 refine qcallXV (G:=[]) (H2:=fun _=>[]) gB ?_
 rintro⟨b,hb⟩
 simp only at hb ⊢
 cases b with
 |true=>
  repeat(first|refine wDB ?_|refine awp_seq_k fun K hK=>?_|refine wN fun bx=>?_|refine wC gK ?_|(refine wH ?_;clear hK))
  refine r1 ?_
  exact Sub.refl _
 |false=>
  have hs:=(hb rfl).1
  have g1:=acc_c x conds proof hs
  have g2:=r31acc_c x conds proof hs
  rw[←accepts_same]at g2
  generalize acceptsP (x.hypos.map (·.1)) x.shown conds proof=z at g1 g2
  repeat(first|refine wKB ?_|refine awp_seq_k fun K hK=>?_|refine wN fun bx=>?_|(refine wH ?_;clear hK))
  refine areg_soft mixed tyok [3,7,10] [] [0,1,2,4,5,6,3,7,8,9,10,11,12] (by decide +kernel) ?_
  cases z
  all_goals
   repeat(first|refine wDB ?_|refine awp_seq_k fun K hK=>?_|refine wN fun bx=>?_|refine wC g1 ?_|refine wC g2 ?_|refine wC gK ?_|(refine wH ?_;clear hK))
   refine r1 ?_
   exact Sub.refl _
end Go.Proofs.YtkbdklmdcbmgkaaGreat
