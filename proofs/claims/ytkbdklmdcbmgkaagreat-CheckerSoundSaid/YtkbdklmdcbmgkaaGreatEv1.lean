/-
  Plain law of CheckerSound: where a proof is accepted, a point that is a nought of all hypotheses and of no condition is one of all that is shown.
-/
import Derived.Test.YtkbdklmdcbmgkaaGreatEv0
import Derived.Test.YtkbdklmdcbmgkaaGreatRdC
namespace Go.Proofs.YtkbdklmdcbmgkaaGreat
open Go.Ab
section
variable {ρ:Int→Rat}
theorem dvd_ev {c:Int}:∀{l:PZ},(∀t∈l,c∣t.1)→evZ ρ l=(c:Rat)*evZ ρ (l.map fun t=>(t.1.tdiv c,t.2))
 |[],_=>(Rat.mul_zero _).symm
 |t::l,h=>by
  have e:(t.1:Rat)=(c:Rat)*(t.1.tdiv c:Int):=by
   rw[←Rat.intCast_mul,Int.mul_tdiv_cancel' (h t (List.mem_cons_self ..))]
  rw[List.map_cons,evZ,evZ,dvd_ev fun u hu=>h u (List.mem_cons_of_mem _ hu),e]
  grind
theorem whole_ev (p:PZ):evZ ρ p=(cwZ p:Rat)*evZ ρ (wholeZ p):=
 dvd_ev fun t ht=>Int.natAbs_dvd_natAbs.1 (by rw[cwZ_abs];exact(gcdZ_dvd p 0).2 t ht)
theorem whole_ne {p:PZ} (hp:Canon p):evZ ρ p≠0↔evZ ρ (wholeZ p)≠0:=by
 rw[whole_ev p]
 constructor
 ·intro h e
  rw[e,Rat.mul_zero]at h
  exact h rfl
 ·intro h e
  rcases Rat.mul_eq_zero.1 e with e|e
  ·cases p with
   |nil=>exact h rfl
   |cons t p=>
    have h1:=gcdZ_ne (List.mem_cons_self (a:=t) (l:=p)) (hp.nz t (List.mem_cons_self ..))
    rw[←cwZ_abs]at h1
    have:=Rat.intCast_eq_zero_iff.1 e
    omega
  ·exact h e
theorem const_ev {p:PZ} (hp:Canon p) (h0:p≠[]) (hc:clsZ p=0):evZ ρ p≠0:=by
 cases p with
 |nil=>exact absurd rfl h0
 |cons t p=>
  have nil_of:∀{m:List Pw},may m=true→classF m≤0→m=[]:=fun hm hle=>by
   rcases class_spec hm with⟨e,-⟩|⟨h1,-⟩
   ·exact e
   ·omega
  rw[clsZ_head hp]at hc
  have ht:=hp.may t (List.mem_cons_self ..)
  have e1:=nil_of ht (by omega)
  have e2:p=[]:=by
   cases p with
   |nil=>rfl
   |cons u p=>
    have hu:=hp.may u (List.mem_cons_of_mem _ (List.mem_cons_self ..))
    have h1:=hp.head u (List.mem_cons_self ..)
    have h2:=class_le ht hu (Int.le_of_lt h1)
    rw[nil_of hu (by omega),e1,ordM_self (by decide)]at h1
    omega
  rw[e2,evZ,evZ,e1,mvZ]
  intro e
  have h3:((t.1:Int):Rat)=0:=by
   rw[←e]
   grind
  exact hp.nz t (List.mem_cons_self ..) (Rat.intCast_eq_zero_iff.1 h3)
theorem deg_att (v:Int):∀(p:PZ) (d:Int),(p.foldl (fun d t=>if degF v t.2>d then degF v t.2 else d) d=d∧∀t∈p,degF v t.2≤d)∨∃t∈p,degF v t.2=p.foldl (fun d t=>if degF v t.2>d then degF v t.2 else d) d
 |[],_=>.inl ⟨rfl,fun t ht=>absurd ht List.not_mem_nil⟩
 |t::p,d=>by
  rw[List.foldl_cons]
  rcases deg_att v p (if degF v t.2>d then degF v t.2 else d)with⟨h1,h2⟩|⟨u,hu,e⟩
  ·by_cases hd:degF v t.2>d
   ·rw[if_pos hd]at h1 h2 ⊢
    exact .inr ⟨t,List.mem_cons_self ..,h1.symm⟩
   ·rw[if_neg hd]at h1 h2 ⊢
    refine .inl ⟨h1,fun u hu=>?_⟩
    rcases List.mem_cons.1 hu with rfl|hu
    ·omega
    ·exact h2 u hu
  ·exact .inr ⟨u,List.mem_cons_of_mem _ hu,e⟩
theorem init_ne {p:PZ} (hp:Canon p) (h0:p≠[]):initZ p≠[]:=by
 unfold initZ
 split
 ·exact h0
 ·obtain⟨t,ht,e⟩:∃t∈p,degF (clsZ p) t.2=degZ (clsZ p) p:=by
   rcases deg_att (clsZ p) p 0 with⟨h1,h2⟩|h
   ·cases p with
    |nil=>exact absurd rfl h0
    |cons t q=>
     refine⟨t,List.mem_cons_self ..,?_⟩
     have h3:=h2 t (List.mem_cons_self ..)
     have h4:=deg_nonneg (may_srt (hp.may t (List.mem_cons_self ..))) (clsZ (t::q))
     unfold degZ
     omega
   ·exact h
  unfold coefVZ
  intro hn
  have hm:=List.mem_map_of_mem (f:=fun t:Int×List Pw=>(t.1,withoutF (clsZ p) t.2)) ((List.mem_filter (p:=fun t:Int×List Pw=>decide (degF (clsZ p) t.2=degZ (clsZ p) p))).2 ⟨ht,decide_eq_true e⟩)
  rw[hn]at hm
  exact absurd hm List.not_mem_nil
theorem num_ev (z:Int):Canon (numZ z)∧evZ ρ (numZ z)=z:=by
 have h:∀t∈[(z,([]:List Pw))],may t.2=true:=fun t ht=>by
  rw[List.mem_singleton.1 ht]
  rfl
 refine⟨(colZ_law h).1,(col_ev h).trans ?_⟩
 simp only[evZ,mvZ]
 grind
theorem can_map {l:List (List TermR)} (h:l.all mayP=true):CanL (l.map pz):=fun q hq=>by
 obtain⟨p,hp,rfl⟩:=List.mem_map.1 hq
 exact canon_of (List.all_eq_true.1 h p hp)
theorem derived_ev {S:List PZ} {d:DerR} (h:derivedF S d=true) (hS:CanL S) (h0:Nul ρ S):d.p≠[]∧Canon (pz d.p)∧evZ ρ (pz d.p)=0:=by
 unfold derivedF at h
 simp only[Bool.and_eq_true,decide_eq_true_eq,Bool.not_eq_true']at h
 obtain⟨⟨⟨⟨⟨⟨h1,h2⟩,h3⟩,h4⟩,h5⟩,h6⟩,h7,h8⟩:=h
 have hc:=canon_of h2
 obtain⟨n1,n2⟩:=num_ev (ρ:=ρ) d.n.z
 have hb:=can_map h4
 have hx:(timesS false (pz d.p) (numZ d.n.z)).2=false:=by
  cases hb2:(timesS false (pz d.p) (numZ d.n.z)).2 with
  |false=>rfl
  |true=>
   rw[hb2,sumS_bad]at h8
   cases h8
 have e1:=timesS_ev (ρ:=ρ) hc n1 hx
 have e2:=(sumS_ev (ρ:=ρ) hS hb h0 S.length h8).2
 rw[←h7,e1,n2]at e2
 refine⟨h1,hc,(Rat.mul_eq_zero.1 e2).resolve_right fun e=>?_⟩
 have:=Rat.intCast_eq_zero_iff.1 e
 omega
theorem condition_ev {conds:List PZ} {p:PZ} {a:Int} (h:conditionF conds p a=true) (hp:Canon p) (hcan:CanL conds) (hc:∀c∈conds,evZ ρ c≠0):evZ ρ p≠0:=by
 unfold conditionF at h
 obtain⟨h1,h2,h3⟩:=of_decide_eq_true h
 have hm:conds.getD a.toNat default∈conds:=getD_mem (by omega)
 rw[whole_ne hp,h3,←whole_ne (hcan _ hm)]
 exact hc _ hm
theorem used_ev {l:List PZ} {ns:List Int} {heads:List (List TermR)} (h:usedF l ns heads=true) (hl:∀p∈l,Canon p∧p≠[]) (hh:∀x∈heads,evZ ρ (pz x)≠0):
  ∀k,k<l.length→ns.getD k default=0∨evZ ρ (initZ (l.getD k default))≠0:=fun k hk=>by
 unfold usedF at h
 have hu:=List.all_eq_true.1 h k (List.mem_range.2 hk)
 unfold usedAt at hu
 simp only[Bool.or_eq_true,decide_eq_true_eq]at hu
 obtain⟨c1,c2⟩:=hl _ (getD_mem hk)
 rcases hu with(hu|hu)|hu
 ·exact .inl hu
 ·exact .inr (const_ev (init_can c1) (init_ne c1 c2) hu)
 ·obtain⟨x,hx,e⟩:=List.any_eq_true.1 hu
  have e2:=(sameP8_iff _ _).1 e
  have h1:=hh x hx
  rw[e2]at h1
  rw[show pz ((wholeZ (initZ (l.getD k default))).map zR)=wholeZ (initZ (l.getD k default)) from zT_map _]at h1
  exact .inr ((whole_ne (init_can c1)).2 h1)
theorem identity_ev {f:PZ} {l:List PZ} {d:DivR} (h:identityF f l d=true) (hf:Canon f) (hl:CanL l) (h0:Nul ρ l) (hn:∀k,k<l.length→d.pw.getD k default=0∨evZ ρ (initZ (l.getD k default))≠0):evZ ρ f=0:=by
 unfold identityF at h
 simp only[Bool.and_eq_true,decide_eq_true_eq,Bool.not_eq_true']at h
 obtain⟨⟨⟨⟨⟨h1,h2⟩,h3⟩,h4⟩,h5⟩,h7,h8⟩:=h
 have hb:=can_map h4
 have hx:(powS f l d.pw l.length).2=false:=by
  cases hb2:(powS f l d.pw l.length).2 with
  |false=>rfl
  |true=>
   rw[hb2,sumS_bad]at h8
   cases h8
 have e1:=(powS_ev (ρ:=ρ) hf hl l.length hx).2 hn
 refine e1 ?_
 rw[h7]
 exact(sumS_ev (ρ:=ρ) hl hb h0 l.length h8).2
theorem addL_mem {l:List PZ} {p q:PZ} (h:q∈addL l p):q∈l∨q=p:=by
 unfold addL at h
 split at h
 ·exact .inl h
 ·rcases List.mem_append.1 h with h|h
  ·exact .inl h
  ·exact .inr (List.mem_singleton.1 h)
theorem belowF_mem:∀{more l:List PZ} {q:PZ},q∈belowF l more→q∈l∨q∈more
 |[],_,_,h=>.inl h
 |p::more,l,q,h=>by
  have h':q∈belowF (addL l p) more:=h
  rcases belowF_mem h' with h|h
  ·rcases addL_mem h with h|h
   ·exact .inl h
   ·exact .inr (h▸List.mem_cons_self ..)
  ·exact .inr (List.mem_cons_of_mem _ h)
theorem below_nul {S set:List PZ} {p:PZ} (hS:Nul ρ S) (hset:Nul ρ set) (hp:evZ ρ p=0):Nul ρ (belowF S (set++[p])):=fun q hq=>by
 rcases belowF_mem hq with h|h
 ·exact hS q h
 ·rcases List.mem_append.1 h with h|h
  ·exact hset q h
  ·rw[List.mem_singleton.1 h]
   exact hp
theorem below_can {S set:List PZ} {p:PZ} (hS:CanL S) (hset:CanL set) (hp:Canon p):CanL (belowF S (set++[p])):=fun q hq=>by
 rcases belowF_mem hq with h|h
 ·exact hS q h
 ·rcases List.mem_append.1 h with h|h
  ·exact hset q h
  ·rw[List.mem_singleton.1 h]
   exact hp
abbrev setZ (n:NodeR):List PZ:=n.set.map fun d=>pz d.p
theorem node_ev {S shown conds:List PZ} {i many:Nat} {n:NodeR} (h:nodeF S shown conds i many n=true) (hS:CanL S) (hs:CanL shown) (hcan:CanL conds) (h0:Nul ρ S) (hc:∀c∈conds,evZ ρ c≠0):
  Nul ρ shown∨∃x∈n.heads,0≤x.next∧(i:Int)<x.next∧x.next<many∧CanL (belowF S (setZ n++[pz x.p]))∧Nul ρ (belowF S (setZ n++[pz x.p])):=by
 have hh:=nodeF_heads h
 unfold nodeF at h
 rw[Bool.and_eq_true]at h
 obtain⟨hd,h⟩:=h
 have hd:=fun d hd'=>derived_ev (ρ:=ρ) (List.all_eq_true.1 hd d hd') hS h0
 have hset:∀p∈setZ n,Canon p∧p≠[]:=fun p hp=>by
  obtain⟨d,hd',rfl⟩:=List.mem_map.1 hp
  obtain⟨h1,h2,-⟩:=hd d hd'
  exact⟨h2,fun e=>h1 (List.map_eq_nil_iff.1 e)⟩
 have hnul:Nul ρ (setZ n):=fun p hp=>by
  obtain⟨d,hd',rfl⟩:=List.mem_map.1 hp
  exact(hd d hd').2.2
 split at h
 ·exfalso
  rw[Bool.and_eq_true,decide_eq_true_eq]at h
  obtain⟨⟨a1,a2,a3,a4⟩,h⟩:=h
  obtain⟨b1,b2,b3⟩:=hd _ (getD_mem (l:=n.set) (i:=n.at'.toNat) (by omega))
  split at h
  ·exact const_ev b2 (fun e=>b1 (List.map_eq_nil_iff.1 e)) (of_decide_eq_true h) b3
  ·exact condition_ev h b2 hcan hc b3
 ·rw[Bool.and_eq_true,Bool.and_eq_true,decide_eq_true_eq]at h
  obtain⟨⟨⟨-,hlen⟩,hheads⟩,hall⟩:=h
  by_cases hx:∃x∈n.heads,evZ ρ (pz x.p)=0
  ·obtain⟨x,hx,e⟩:=hx
   have hf:=hh x hx
   have hm:=canon_of (headF_may hf)
   have hf':=hf
   unfold headF at hf'
   rw[Bool.and_eq_true,Bool.or_eq_true,Bool.and_eq_true,decide_eq_true_eq,decide_eq_true_eq]at hf'
   rcases hf'.2 with k|k
   ·exact absurd e (condition_ev k.2 hm hcan hc)
   ·exact .inr ⟨x,hx,by omega,k.2.1,k.2.2,below_can hS (fun p hp=>(hset p hp).1) hm,below_nul h0 hnul e⟩
  ·refine .inl fun f hf=>?_
   obtain⟨j,hj,rfl⟩:=List.getElem_of_mem hf
   have k:=List.all_eq_true.1 hall j (List.mem_range.2 hj)
   rw[Bool.and_eq_true,getD_get hj]at k
   refine identity_ev k.1 (hs _ hf) (fun p hp=>(hset p hp).1) hnul (used_ev k.2 hset fun y hy=>?_)
   obtain⟨x,hx',rfl⟩:=List.mem_map.1 hy
   exact fun e=>hx ⟨x,hx',e⟩
theorem set_get {Ss:List (List PZ)} {k j:Nat} {v:List PZ}:(Ss.set k v).getD j []=if k=j∧k<Ss.length then v else Ss.getD j []:=by
 rw[List.getD_eq_getElem?_getD,List.getElem?_set]
 by_cases h:k=j
 ·subst h
  by_cases hl:k<Ss.length
  ·simp[hl]
  ·simp[hl,List.getD_eq_getElem?_getD]
 ·simp[h,List.getD_eq_getElem?_getD]
theorem headSys_len {S set:List PZ}:∀(hs:List HeadR) (Ss:List (List PZ)),(headSys S set Ss hs).length=Ss.length
 |[],_=>rfl
 |x::hs,Ss=>by
  show(headSys S set (if 0≤x.next then _ else _) hs).length=_
  rw[headSys_len hs]
  split
  ·rw[List.length_set]
  ·rfl
theorem headSys_none {S set:List PZ} {j:Nat}:∀(hs:List HeadR) (Ss:List (List PZ)),(hs.countP fun h=>decide (h.next=(j:Int)))=0→(headSys S set Ss hs).getD j []=Ss.getD j []
 |[],_,_=>rfl
 |x::hs,Ss,h=>by
  rw[List.countP_cons]at h
  show(headSys S set (if 0≤x.next then _ else _) hs).getD j []=_
  rw[headSys_none hs _ (by omega)]
  have hx:x.next≠(j:Int):=fun e=>by
   rw[if_pos (by simpa using e)]at h
   omega
  split
  ·rw[set_get,if_neg (by omega)]
  ·rfl
theorem headSys_one {S set:List PZ} {j:Nat}:∀(hs:List HeadR) (Ss:List (List PZ)),j<Ss.length→(hs.countP fun h=>decide (h.next=(j:Int)))=1→∀x∈hs,x.next=(j:Int)→(headSys S set Ss hs).getD j []=belowF S (set++[pz x.p])
 |[],_,_,_,x,hx,_=>absurd hx List.not_mem_nil
 |y::hs,Ss,hj,h,x,hx,e=>by
  rw[List.countP_cons]at h
  show(headSys S set (if 0≤y.next then Ss.set y.next.toNat (belowF S (set++[pz y.p])) else Ss) hs).getD j []=_
  by_cases ey:y.next=(j:Int)
  ·rw[if_pos (by simpa using ey)]at h
   have h0:(hs.countP fun h=>decide (h.next=(j:Int)))=0:=by omega
   rw[headSys_none hs _ h0,if_pos (by omega),set_get,if_pos (by omega)]
   rcases List.mem_cons.1 hx with rfl|hx
   ·rfl
   ·exact absurd (decide_eq_true e) (List.countP_eq_zero.1 h0 x hx)
  ·rw[if_neg (by simpa using ey)]at h
   rcases List.mem_cons.1 hx with rfl|hx
   ·exact absurd e ey
   ·refine headSys_one hs _ ?_ (by omega) x hx e
    split
    ·rw[List.length_set]
     exact hj
    ·exact hj
theorem sysF_len (hypos:List PZ) (proof:List NodeR):∀i,(sysF hypos proof i).length=proof.length
 |0=>by rw[sysF,List.length_set,List.length_replicate]
 |i+1=>by rw[sysF,headSys_len,sysF_len hypos proof i]
theorem par_mono (proof:List NodeR) (j:Nat) {i:Nat}:∀n,i+n≤proof.length→parentsF (proof.take i) j≤parentsF (proof.take (i+n)) j
 |0,_=>Nat.le_refl _
 |n+1,h=>by
  have ih:=par_mono proof j (i:=i) n (by omega)
  have:=parZ_step (proof:=proof) (at':=j) (i:=i+n) (by omega)
  rw[show i+(n+1)=i+n+1 by omega]
  omega
theorem sys_at {hypos:List PZ} {proof:List NodeR} {i j:Nat} {x:HeadR} (hi:i<j) (hj:j<proof.length) (hx:x∈(proof.getD i default).heads) (e:x.next=(j:Int)) (h1:parentsF (proof.take j) j=1):
  ∀n,i+1+n≤j→(sysF hypos proof (i+1+n)).getD j []=belowF ((sysF hypos proof i).getD i []) (setZ (proof.getD i default)++[pz x.p]):=fun n hn=>by
 have hstep:=parZ_step (proof:=proof) (at':=j) (i:=i) (by omega)
 have hpos:0<((proof.getD i default).heads.countP fun h=>decide (h.next=(j:Int))):=List.countP_pos_iff.2 ⟨x,hx,decide_eq_true e⟩
 have hm:=par_mono proof j (i:=i+1) (j-(i+1)) (by omega)
 rw[show i+1+(j-(i+1))=j by omega]at hm
 induction n with
 |zero=>
  show(headSys ((sysF hypos proof i).getD i []) (setZ (proof.getD i default)) (sysF hypos proof i) (proof.getD i default).heads).getD j []=_
  exact headSys_one _ _ (by rw[sysF_len];exact hj) (by omega) x hx e
 |succ n ih=>
  have h2:=parZ_step (proof:=proof) (at':=j) (i:=i+1+n) (by omega)
  have h3:=par_mono proof j (i:=i+1) n (by omega)
  have h4:=par_mono proof j (i:=i+1+n+1) (j-(i+1+n+1)) (by omega)
  rw[show i+1+n+1+(j-(i+1+n+1))=j by omega]at h4
  have h5:((proof.getD (i+1+n) default).heads.countP fun h=>decide (h.next=(j:Int)))=0:=by omega
  rw[←ih (by omega)]
  exact headSys_none _ _ h5
theorem accepts_sound {hypos shown conds:List (List TermR)} {proof:List NodeR} (h:acceptsP hypos shown conds proof=true) (h0:∀p∈hypos,evZ ρ (pz p)=0) (hc:∀p∈conds,evZ ρ (pz p)≠0):∀p∈shown,evZ ρ (pz p)=0:=by
 unfold acceptsP at h
 simp only[Bool.and_eq_true,decide_eq_true_eq,List.all_eq_true,List.mem_range]at h
 obtain⟨⟨⟨⟨⟨a1,a2⟩,a3⟩,a4⟩,a5⟩,hn⟩:=h
 have hcan:CanL (conds.map pz):=can_map (List.all_eq_true.2 a3)
 have hs:CanL (shown.map pz):=can_map (List.all_eq_true.2 a2)
 have hc':∀c∈conds.map pz,evZ ρ c≠0:=fun c hm=>by
  obtain⟨p,hp,rfl⟩:=List.mem_map.1 hm
  exact hc p hp
 have key:∀k i,i<proof.length→proof.length-i≤k→CanL ((sysF (hypos.map pz) proof i).getD i [])→Nul ρ ((sysF (hypos.map pz) proof i).getD i [])→Nul ρ (shown.map pz):=by
  intro k
  induction k with
  |zero=>intro i hi hk;omega
  |succ k ih=>
   intro i hi hk hS hN
   rcases node_ev (hn i hi).2 hS hs hcan hN hc' with r|⟨x,hx,x0,x1,x2,hS',hN'⟩
   ·exact r
   ·have ej:x.next=(x.next.toNat:Int):=by omega
    have hj:x.next.toNat<proof.length:=by omega
    have h1:=(hn x.next.toNat hj).1.2 (by omega)
    rw[cntF_get proof hj x.next.toNat (by omega)]at h1
    have e:=sys_at (hypos:=hypos.map pz) (i:=i) (by omega) hj hx ej (by omega) (x.next.toNat-(i+1)) (by omega)
    rw[show i+1+(x.next.toNat-(i+1))=x.next.toNat by omega]at e
    exact ih x.next.toNat hj (by omega) (e▸hS') (e▸hN')
 have hlen:0<proof.length:=List.length_pos_iff.2 a5
 have e0:(sysF (hypos.map pz) proof 0).getD 0 []=hypos.map pz:=by
  rw[sysF,set_get,if_pos ⟨rfl,by rw[List.length_replicate];exact hlen⟩]
 have r:=key proof.length 0 hlen (by omega) (by rw[e0];exact can_map (List.all_eq_true.2 a1)) (by
  rw[e0]
  intro q hq
  obtain⟨p,hp,rfl⟩:=List.mem_map.1 hq
  exact h0 p hp)
 exact fun p hp=>r _ (List.mem_map_of_mem hp)
end
end Go.Proofs.YtkbdklmdcbmgkaaGreat
