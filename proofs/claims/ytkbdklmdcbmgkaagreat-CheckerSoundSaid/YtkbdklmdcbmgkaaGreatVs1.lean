/-
  The law CheckerSound, walked: it answers true.
-/
import Derived.Test.YtkbdklmdcbmgkaaGreatKlM
import Derived.Test.YtkbdklmdcbmgkaaGreatEv1
import Derived.Test.YtkbdklmdcbmgkaaGreatVl2
set_option maxRecDepth 100000
set_option maxHeartbeats 25600000
namespace Go.Proofs.YtkbdklmdcbmgkaaGreat
open Go.Ab
theorem okv {p:List TermR} {pt:List RatR} (hp:PolR 4 40 p) (hl:Low p) (hq:∀y∈pt,RatOk 2 y) (h8:pt.length≤8):OkV p pt:=by
 have h12:=hl.len
 refine⟨hp.ok.mono (by decide),⟨4,6,12,1,⟨fun t ht=>(hp.ok.at' t ht).c,fun t ht=>(hl.at' t ht).1,fun t ht w hw=>(hl.at' t ht).2 w hw⟩,by decide,hq,?_,by decide,by decide⟩,by omega⟩
 show 1+p.length*157≤_
 omega
theorem sg_zero {p:List TermR} {pt:List RatR} (h:evZ (rhoR pt) (pz p)=0):sgE p pt=0:=by
 unfold sgE
 split
 ·exact signQ_zero.2 h
 ·rfl
theorem ev_of {p:List TermR} {pt:List RatR} (h0:atE p pt=0):evZ (rhoR pt) (pz p)=0↔sgE p pt=0:=by
 unfold sgE
 rw[if_pos h0]
 exact signQ_zero.symm
theorem all_get {α:Type} [Inhabited α] {Q:α→Prop} {l:List α} (h:∀j,j<l.length→Q (l.getD j default)):∀x∈l,Q x:=fun x hx=>by
 obtain⟨j,hj,e⟩:=List.getElem_of_mem hx
 have:=h j hj
 rw[getD_get hj,e]at this
 exact this
theorem snoc_get {Q:Nat→Prop} {i:Nat} (h:∀j,j<i→Q j) (hi:Q i):∀j,j<i+1→Q j:=fun j hj=>by
 by_cases e:j=i
 ·rw[e];exact hi
 ·exact h j (by omega)
theorem cbLawS:Callable Tryz.prog 4:=fun _ _=>by kernel_rfl
theorem checkerSound_c (x:SysR) (conds:List (List TermR)) (proof:List NodeR) (pt:List RatR) (hr:RawS x conds proof) (hq:∀y∈pt,RawQ y) (hpl:pt.length≤1000000000000000):
  PCalls Tryz.prog 4 [.agg (sysE x),polysV conds,nodesV proof,ratsV pt] (.bool true):=by
 refine pcalls_of_awp tyok cbLawS Tryz.func4 rfl rfl ?_
 have gB:=big31_c x conds proof hr
 have gK:=known_c
 ((repeat(first|refine wDB ?_|refine awp_seq_k fun K hK=>?_|(refine wH ?_;clear hK)));refine wN fun b4=>?_)
 (((repeat(first|refine wT ?_|refine wN fun bx=>?_)));(try refine wP ?_);repeat(refine wH ?_;clear hK))
 refine awp_freeze [] (s:=4) rfl rfl ?_
 repeat(first|refine wDB ?_|refine awp_seq_k fun K hK=>?_|refine wN fun bx=>?_|(refine wH ?_;clear hK))
 refine qcallXV (G:=[]) (H2:=fun _=>[]) gB ?_
 rintro⟨b,hb⟩
 simp only at hb ⊢
 cases b with
 |true=>
  repeat(first|refine wDB ?_|refine awp_seq_k fun K hK=>?_|refine wN fun bx=>?_|refine wC gK ?_|(refine wH ?_;clear hK))
  refine r1 ?_
  exact Sub.refl _
 |false=>
 obtain⟨hs,hlow⟩:=hb rfl
 by_cases h8:(pt.length:Int)>8
 ·repeat(first|refine wDB ?_|refine awp_seq_k fun K hK=>?_|refine wN fun bx=>?_|refine wC gK ?_|(refine wH ?_;clear hK))
  refine r1 ?_
  exact Sub.refl _
 repeat(first|refine wDB ?_|refine awp_seq_k fun K hK=>?_|refine wN fun bx=>?_|(refine wH ?_;clear hK))
 refine awp_loop0 (ι:={i:Nat//i≤pt.length∧∀j,j<i→RatOk 2 (pt.getD j default)}) (fun i=>[(1,polysV conds),(2,nodesV proof),(3,ratsV pt),(4,.rptr (sysE x)),(32,ratsV pt),(33,.int .i64 pt.length),(34,.int .i64 i.1)]) (fun _=>[]) (fun i=>pt.length-i.1) ⟨0,Nat.zero_le _,fun j hj=>absurd hj (Nat.not_lt_zero j)⟩ wk dp ?_
 rintro⟨i,hi,hok⟩
 simp only at hi hok ⊢
 by_cases hlt:i<pt.length
 ·have hlt':(i:Int)<pt.length:=by omega
  have hy:=hq _ (getD_mem hlt)
  have n1:=hy.nn
  have n2:=hy.dn
  by_cases l1:((pt.getD i default).n.mag.length:Int)>2
  ·repeat(first|refine wDB ?_|refine awp_seq_k fun K hK=>?_|refine wN fun bx=>?_|refine wC gK ?_|(refine wH ?_;clear hK))
   refine r1 ?_
   exact Sub.refl _
  by_cases l2:((pt.getD i default).d.mag.length:Int)>2
  ·repeat(first|refine wDB ?_|refine awp_seq_k fun K hK=>?_|refine wN fun bx=>?_|refine wC gK ?_|(refine wH ?_;clear hK))
   refine r1 ?_
   exact Sub.refl _
  repeat(first|refine wDB ?_|refine awp_seq_k fun K hK=>?_|refine wN fun bx=>?_|(refine wH ?_;clear hK))
  exact⟨⟨i+1,hlt,snoc_get hok ⟨⟨hy.nl,by omega⟩,⟨hy.dl,by omega⟩⟩⟩,wk,dp,by simp only;omega⟩
 have hge:¬(i:Int)<pt.length:=by omega
 obtain rfl:i=pt.length:=by omega
 have hrat:=all_get hok
 have g1:=acc_c x conds proof hs
 have hyl:=hs.hypol
 have hcl:=hs.condl
 have hsl:=hs.shownl
 cases hz:acceptsP (x.hypos.map (·.1)) x.shown conds proof with
 |false=>
  rw[hz]at g1
  repeat(first|refine wDB ?_|refine awp_seq_k fun K hK=>?_|refine wN fun bx=>?_|refine wC g1 ?_|refine wC gK ?_|(refine wH ?_;clear hK))
  refine r1 ?_
  exact Sub.refl _
 |true=>
 rw[hz]at g1
 repeat(first|refine wDB ?_|refine awp_seq_k fun K hK=>?_|refine wN fun bx=>?_|refine wC g1 ?_|(refine wH ?_;clear hK))
 refine awp_loop0 (ι:={i:Nat//i≤x.hypos.length∧∀j,j<i→evZ (rhoR pt) (pz (x.hypos.getD j default).1)=0}) (fun i=>[(1,polysV conds),(3,ratsV pt),(4,.rptr (sysE x)),(64,sl hypE 2 x.hypos .view),(65,.int .i64 x.hypos.length),(66,.int .i64 i.1)]) (fun _=>[]) (fun i=>x.hypos.length-i.1) ⟨0,Nat.zero_le _,fun j hj=>absurd hj (Nat.not_lt_zero j)⟩ wk dp ?_
 rintro⟨i,hi,hok1⟩
 simp only at hi hok1 ⊢
 by_cases hlt:i<x.hypos.length
 ·have hlt':(i:Int)<x.hypos.length:=by omega
  have hm:=getD_mem hlt
  have gS:=vsign_c (okv (hs.hypos _ hm) (hlow.hypos _ hm) hrat (by omega))
  have he:=ev_of (p:=(x.hypos.getD i default).1) (pt:=pt)
  generalize ha:atE (x.hypos.getD i default).1 pt=a at gS he
  generalize hg:sgE (x.hypos.getD i default).1 pt=g at gS he
  by_cases h1:a=0
  ·by_cases h2:g=0
   ·((repeat(first|refine wDB ?_|refine awp_seq_k fun K hK=>?_|refine wC gS ?_|(refine wH ?_;clear hK)));refine wN fun b11=>?_;(repeat(first|refine wDB ?_|refine awp_seq_k fun K hK=>?_|refine wN fun bx=>?_|refine wC gS ?_|(refine wH ?_;clear hK))))
    exact⟨⟨i+1,hlt,snoc_get hok1 ((he h1).2 h2)⟩,wk,dp,by simp only;omega⟩
   ·((repeat(first|refine wDB ?_|refine awp_seq_k fun K hK=>?_|refine wC gS ?_|refine wC gK ?_|(refine wH ?_;clear hK)));refine wN fun b11=>?_;(repeat(first|refine wDB ?_|refine awp_seq_k fun K hK=>?_|refine wN fun bx=>?_|refine wC gS ?_|refine wC gK ?_|(refine wH ?_;clear hK))))
    refine r1 ?_
    exact Sub.refl _
  ·((repeat(first|refine wDB ?_|refine awp_seq_k fun K hK=>?_|refine wC gS ?_|refine wC gK ?_|(refine wH ?_;clear hK)));refine wN fun b11=>?_;(repeat(first|refine wDB ?_|refine awp_seq_k fun K hK=>?_|refine wN fun bx=>?_|refine wC gS ?_|refine wC gK ?_|(refine wH ?_;clear hK))))
   refine r1 ?_
   exact Sub.refl _
 have hge:¬(i:Int)<x.hypos.length:=by omega
 obtain rfl:i=x.hypos.length:=by omega
 have hyp:=all_get (Q:=fun h:HypR=>evZ (rhoR pt) (pz h.1)=0) hok1
 repeat(first|refine wDB ?_|refine awp_seq_k fun K hK=>?_|refine wN fun bx=>?_|(refine wH ?_;clear hK))
 refine awp_loop0 (ι:={i:Nat//i≤conds.length∧∀j,j<i→evZ (rhoR pt) (pz (conds.getD j default))≠0}) (fun i=>[(3,ratsV pt),(4,.rptr (sysE x)),(85,polysV conds),(86,.int .i64 conds.length),(87,.int .i64 i.1)]) (fun _=>[]) (fun i=>conds.length-i.1) ⟨0,Nat.zero_le _,fun j hj=>absurd hj (Nat.not_lt_zero j)⟩ wk dp ?_
 rintro⟨i,hi,hok2⟩
 simp only at hi hok2 ⊢
 by_cases hlt:i<conds.length
 ·have hlt':(i:Int)<conds.length:=by omega
  have hm:=getD_mem hlt
  have gS:=vsign_c (okv (hs.cnd _ hm) (hlow.cnd _ hm) hrat (by omega))
  have he:=ev_of (p:=conds.getD i default) (pt:=pt)
  generalize ha:atE (conds.getD i default) pt=a at gS he
  generalize hg:sgE (conds.getD i default) pt=g at gS he
  by_cases h1:a=0
  ·by_cases h2:g=0
   ·repeat(first|refine wDB ?_|refine awp_seq_k fun K hK=>?_|refine wN fun bx=>?_|refine wC gS ?_|refine wC gK ?_|(refine wH ?_;clear hK))
    refine r1 ?_
    exact Sub.refl _
   ·repeat(first|refine wDB ?_|refine awp_seq_k fun K hK=>?_|refine wN fun bx=>?_|refine wC gS ?_|(refine wH ?_;clear hK))
    exact⟨⟨i+1,hlt,snoc_get hok2 fun h=>h2 ((he h1).1 h)⟩,wk,dp,by simp only;omega⟩
  ·repeat(first|refine wDB ?_|refine awp_seq_k fun K hK=>?_|refine wN fun bx=>?_|refine wC gS ?_|refine wC gK ?_|(refine wH ?_;clear hK))
   refine r1 ?_
   exact Sub.refl _
 have hge:¬(i:Int)<conds.length:=by omega
 obtain rfl:i=conds.length:=by omega
 have cnd:=all_get (Q:=fun p:List TermR=>evZ (rhoR pt) (pz p)≠0) hok2
 have snd:=accepts_sound (ρ:=rhoR pt) hz (fun p hp=>by
  obtain⟨h,hh,rfl⟩:=List.mem_map.1 hp
  exact hyp h hh) cnd
 repeat(first|refine wDB ?_|refine awp_seq_k fun K hK=>?_|refine wN fun bx=>?_|(refine wH ?_;clear hK))
 refine awp_loop0 (ι:={i:Nat//i≤x.shown.length}) (fun i=>[(3,ratsV pt),(106,polysV x.shown),(107,.int .i64 x.shown.length),(108,.int .i64 i.1)]) (fun _=>[]) (fun i=>x.shown.length-i.1) ⟨0,Nat.zero_le _⟩ wk dp ?_
 rintro⟨i,hi⟩
 simp only at hi ⊢
 by_cases hlt:i<x.shown.length
 ·have hlt':(i:Int)<x.shown.length:=by omega
  have hm:=getD_mem hlt
  have gS:=vsign_c (okv (hs.shown _ hm) (hlow.shown _ hm) hrat (by omega))
  rw[sg_zero (snd _ hm)]at gS
  generalize ha:atE (x.shown.getD i default) pt=a at gS
  by_cases h1:a=0
  ·repeat(first|refine wDB ?_|refine awp_seq_k fun K hK=>?_|refine wN fun bx=>?_|refine wC gS ?_|(refine wH ?_;clear hK))
   exact⟨⟨i+1,hlt⟩,wk,dp,by simp only;omega⟩
  ·repeat(first|refine wDB ?_|refine awp_seq_k fun K hK=>?_|refine wN fun bx=>?_|refine wC gS ?_|(refine wH ?_;clear hK))
   exact⟨⟨i+1,hlt⟩,wk,dp,by simp only;omega⟩
 have hge:¬(i:Int)<x.shown.length:=by omega
 repeat(first|refine wDB ?_|refine awp_seq_k fun K hK=>?_|refine wN fun bx=>?_|refine wC gK ?_|(refine wH ?_;clear hK))
 refine r1 ?_
 exact Sub.refl _
end Go.Proofs.YtkbdklmdcbmgkaaGreat
