/-
  Plain law of CheckerSound: the value of a polynomial at a point; products that are done, sums; what holds keeps noughts.
-/
import Derived.Test.YtkbdklmdcbmgkaaGreatKd0
namespace Go.Proofs.YtkbdklmdcbmgkaaGreat
open Go.Ab
def mvZ (ρ:Int→Rat):List Pw→Rat
 |[]=>1
 |p::m=>ρ p.1^p.2.toNat*mvZ ρ m
def evZ (ρ:Int→Rat):PZ→Rat
 |[]=>0
 |t::p=>(t.1:Rat)*mvZ ρ t.2+evZ ρ p
section
variable {ρ:Int→Rat}
theorem mv_app:∀(a b:List Pw),mvZ ρ (a++b)=mvZ ρ a*mvZ ρ b
 |[],b=>(Rat.one_mul _).symm
 |p::a,b=>by rw[List.cons_append,mvZ,mvZ,mv_app a b,Rat.mul_assoc]
theorem ev_app:∀(a b:PZ),evZ ρ (a++b)=evZ ρ a+evZ ρ b
 |[],b=>(Rat.zero_add _).symm
 |p::a,b=>by rw[List.cons_append,evZ,evZ,ev_app a b,Rat.add_assoc]
theorem rpow_add (x:Rat) (a:Nat):∀b:Nat,x^(a+b)=x^a*x^b
 |0=>by rw[Nat.add_zero,Rat.pow_zero,Rat.mul_one]
 |b+1=>by rw[←Nat.add_assoc,Rat.pow_succ,rpow_add x a b,Rat.pow_succ,Rat.mul_assoc]
theorem mv_made {t:Tr} {L:List Tr} (h:0≤gAdd t):mvZ ρ (madeF gAdd (t::L))=ρ t.1^(gAdd t).toNat*mvZ ρ (madeF gAdd L):=by
 by_cases h0:gAdd t>0
 ·rw[show madeF gAdd (t::L)=(t.1,gAdd t)::madeF gAdd L by simp[madeF,h0],mvZ]
 ·rw[show madeF gAdd (t::L)=madeF gAdd L by simp[madeF,h0],show(gAdd t).toNat=0 by omega,Rat.pow_zero,Rat.one_mul]
theorem mv_zip (a b:List Pw) (ha:∀p∈a,0<p.2) (hb:∀p∈b,0<p.2):mvZ ρ (madeF gAdd (zipM a b))=mvZ ρ a*mvZ ρ b:=by
 fun_induction zipM a b with
 |case1=>exact(Rat.one_mul _).symm
 |case2 p a ih=>
  have h1:=ha p (List.mem_cons_self ..)
  rw[mv_made (by unfold gAdd;simp only;omega),ih (fun q hq=>ha q (List.mem_cons_of_mem _ hq)) hb,mvZ.eq_2 ρ p a,mvZ.eq_1]
  simp only[gAdd,Int.add_zero,Rat.mul_one]
 |case3 q b ih=>
  have h1:=hb q (List.mem_cons_self ..)
  rw[mv_made (by unfold gAdd;simp only;omega),ih ha (fun p hp=>hb p (List.mem_cons_of_mem _ hp)),mvZ.eq_2 ρ q b,mvZ.eq_1]
  simp only[gAdd,Int.zero_add,Rat.one_mul]
 |case4 p a q b h ih=>
  have h1:=ha p (List.mem_cons_self ..)
  rw[mv_made (by unfold gAdd;simp only;omega),ih (fun q hq=>ha q (List.mem_cons_of_mem _ hq)) hb,mvZ.eq_2 ρ p a]
  simp only[gAdd,Int.add_zero,Rat.mul_assoc]
 |case5 p a q b h h' ih=>
  have h1:=hb q (List.mem_cons_self ..)
  rw[mv_made (by unfold gAdd;simp only;omega),ih ha (fun p hp=>hb p (List.mem_cons_of_mem _ hp)),mvZ.eq_2 ρ q b]
  simp only[gAdd,Int.zero_add]
  grind
 |case6 p a q b h h' ih=>
  have h1:=ha p (List.mem_cons_self ..)
  have h2:=hb q (List.mem_cons_self ..)
  rw[mv_made (by unfold gAdd;simp only;omega),ih (fun q hq=>ha q (List.mem_cons_of_mem _ hq)) (fun p hp=>hb p (List.mem_cons_of_mem _ hp)),mvZ.eq_2 ρ p a,mvZ.eq_2 ρ q b]
  simp only[gAdd]
  rw[Int.toNat_add (by omega) (by omega),rpow_add,show q.1=p.1 by omega]
  grind
theorem mv_times {a b:List Pw} (ha:may a=true) (hb:may b=true) (h:(timesF a b).2=0):mvZ ρ (timesF a b).1=mvZ ρ a*mvZ ρ b:=by
 rcases timesF_cases ha hb with e|e
 ·rw[e]at h
  cases h
 ·rw[e]
  exact mv_zip a b (may_srt ha).2 (may_srt hb).2
theorem put_ev (c:Int) {m:List Pw} (hm:may m=true):∀{p:PZ},(∀t∈p,may t.2=true)→evZ ρ (putZ c m p)=evZ ρ p+(c:Rat)*mvZ ρ m
 |[],_=>by
  unfold putZ
  split
  ·rename_i h
   subst h
   simp only[evZ]
   grind
  ·simp only[evZ]
   grind
 |t::p,h=>by
  have ih:=put_ev c hm (p:=p) fun u hu=>h u (List.mem_cons_of_mem _ hu)
  unfold putZ
  split
  ·rw[evZ,evZ,ih,Rat.add_assoc]
  split
  ·rename_i h1 h2
   have e:=(ordM_zero (h t (List.mem_cons_self ..)) hm).1 h2
   split
   ·rename_i h3
    have e2:(t.1:Rat)= -(c:Rat):=by
     rw[←Rat.intCast_neg]
     exact congrArg _ (by omega)
    rw[evZ,e,e2]
    grind
   ·rw[evZ,evZ,e,Rat.intCast_add]
    grind
  split
  ·rename_i h3
   subst h3
   grind
  ·simp only[evZ]
   grind
theorem add_ev:∀{q p:PZ},(∀t∈p,may t.2=true)→(∀t∈q,may t.2=true)→evZ ρ (addZ p q)=evZ ρ p+evZ ρ q
 |[],p,_,_=>(Rat.add_zero _).symm
 |t::q,p,hp,hq=>by
  have ht:=hq t (List.mem_cons_self ..)
  have hp2:∀u∈putZ t.1 t.2 p,may u.2=true:=fun u hu=>by
   rcases putZ_mem t.1 t.2 u hu with e|⟨v,hv,e⟩
   ·rw[e];exact ht
   ·rw[←e];exact hp v hv
  rw[show addZ p (t::q)=addZ (putZ t.1 t.2 p) q from rfl,add_ev hp2 fun u hu=>hq u (List.mem_cons_of_mem _ hu),put_ev _ ht hp,evZ,Rat.add_assoc]
theorem col_ev {l:PZ} (h:∀t∈l,may t.2=true):evZ ρ (colZ l)=evZ ρ l:=by
 rw[show colZ l=addZ [] l from rfl,add_ev (fun t ht=>absurd ht List.not_mem_nil) h]
 exact Rat.zero_add _
theorem row_ev {x:Int×List Pw} (hx:may x.2=true):∀{b:PZ},(∀y∈b,may y.2=true)→(∀y∈b,(timesF x.2 y.2).2=0)→
  evZ ρ (b.map fun y=>(x.1*y.1,(timesF x.2 y.2).1))=(x.1:Rat)*mvZ ρ x.2*evZ ρ b
 |[],_,_=>(Rat.mul_zero _).symm
 |y::b,hb,h=>by
  rw[List.map_cons,evZ,evZ,row_ev hx (fun u hu=>hb u (List.mem_cons_of_mem _ hu)) (fun u hu=>h u (List.mem_cons_of_mem _ hu)),mv_times hx (hb y (List.mem_cons_self ..)) (h y (List.mem_cons_self ..)),Rat.intCast_mul]
  grind
theorem prod_ev:∀{a b:PZ},(∀x∈a,may x.2=true)→(∀y∈b,may y.2=true)→prodB a b=true→evZ ρ (prodQ a b)=evZ ρ a*evZ ρ b
 |[],b,_,_,_=>(Rat.zero_mul _).symm
 |x::a,b,ha,hb,h=>by
  unfold prodB at h
  rw[List.all_cons,Bool.and_eq_true]at h
  have hr:=row_ev (ρ:=ρ) (ha x (List.mem_cons_self ..)) hb fun y hy=>of_decide_eq_true (List.all_eq_true.1 h.1 y hy)
  have ih:=prod_ev (a:=a) (b:=b) (fun u hu=>ha u (List.mem_cons_of_mem _ hu)) hb h.2
  unfold prodQ at ih ⊢
  rw[List.flatMap_cons,ev_app,hr,ih,evZ]
  grind
theorem tm_ev {a b:PZ} (ha:Canon a) (hb:Canon b) (h:(tmZ a b).2=true):evZ ρ (tmZ a b).1=evZ ρ a*evZ ρ b:=by
 unfold tmZ at h ⊢
 split
 ·rename_i hp
  rw[←prod_ev ha.may hb.may hp]
  exact col_ev (prodQ_may ha hb hp)
 ·rename_i hp
  rw[if_neg hp]at h
  cases h
theorem tm_can {a b:PZ} (ha:Canon a) (hb:Canon b):Canon (tmZ a b).1:=by
 unfold tmZ
 split
 ·rename_i hp
  exact(colZ_law (prodQ_may ha hb hp)).1
 ·exact Canon.nil
theorem timesS_can {bad:Bool} {p q:PZ} (hp:Canon p) (hq:Canon q):Canon (timesS bad p q).1:=by
 unfold timesS
 split
 ·exact Canon.nil
 ·exact tm_can hp hq
theorem timesS_ev {bad:Bool} {p q:PZ} (hp:Canon p) (hq:Canon q) (h:(timesS bad p q).2=false):evZ ρ (timesS bad p q).1=evZ ρ p*evZ ρ q:=by
 unfold timesS at h ⊢
 split
 ·rename_i hb
  rw[if_pos hb]at h
  cases h
 ·rename_i hb
  rw[if_neg hb]at h
  exact tm_ev hp hq (by simpa using h)
theorem timesS_ok {bad:Bool} {p q:PZ} (h:(timesS bad p q).2=false):bad=false:=by
 cases bad with
 |false=>rfl
 |true=>
  rw[timesS_bad]at h
  cases h
def CanL (l:List PZ):Prop:=∀p∈l,Canon p
theorem CanL.get {l:List PZ} (h:CanL l) (i:Nat):Canon (l.getD i default):=by
 by_cases hi:i<l.length
 ·exact h _ (getD_mem hi)
 ·rw[List.getD_eq_getElem?_getD,List.getElem?_eq_none (by omega)]
  exact Canon.nil
def Nul (ρ:Int→Rat) (l:List PZ):Prop:=∀p∈l,evZ ρ p=0
theorem Nul.get {l:List PZ} (h:Nul ρ l) (i:Nat):evZ ρ (l.getD i default)=0:=by
 by_cases hi:i<l.length
 ·exact h _ (getD_mem hi)
 ·rw[List.getD_eq_getElem?_getD,List.getElem?_eq_none (by omega)]
  rfl
theorem sumS_ev {bad:Bool} {a b:List PZ} (ha:CanL a) (hb:CanL b) (h0:Nul ρ a):∀n,(sumS bad a b n).2=false→Canon (sumS bad a b n).1∧evZ ρ (sumS bad a b n).1=0
 |0,_=>⟨Canon.nil,rfl⟩
 |n+1,h=>by
  have h':(timesS (sumS bad a b n).2 (a.getD n default) (b.getD n default)).2=false:=h
  obtain⟨c1,c2⟩:=sumS_ev (bad:=bad) ha hb h0 n (timesS_ok h')
  have hc:=timesS_can (bad:=(sumS bad a b n).2) (ha.get n) (hb.get n)
  have he:=timesS_ev (ρ:=ρ) (ha.get n) (hb.get n) h'
  refine⟨(addZ_law c1 hc.may).1,?_⟩
  show evZ ρ (addZ (sumS bad a b n).1 (timesS (sumS bad a b n).2 (a.getD n default) (b.getD n default)).1)=0
  rw[add_ev c1.may hc.may,he,c2,h0.get n]
  grind
theorem mulS_ev {bad:Bool} {f h:PZ} (hf:Canon f) (hh:Canon h):∀n,(mulS bad f h n).2=false→Canon (mulS bad f h n).1∧((n=0∨evZ ρ h≠0)→evZ ρ (mulS bad f h n).1=0→evZ ρ f=0)
 |0,_=>⟨hf,fun _ e=>e⟩
 |n+1,k=>by
  have h':(timesS (mulS bad f h n).2 (mulS bad f h n).1 h).2=false:=k
  obtain⟨c1,c2⟩:=mulS_ev (bad:=bad) hf hh n (timesS_ok h')
  refine⟨timesS_can c1 hh,fun hn e=>?_⟩
  have e':evZ ρ (timesS (mulS bad f h n).2 (mulS bad f h n).1 h).1=0:=e
  rw[timesS_ev c1 hh h']at e'
  have hn':evZ ρ h≠0:=hn.resolve_left (by omega)
  exact c2 (.inr hn') ((Rat.mul_eq_zero.1 e').resolve_right hn')
theorem init_can {p:PZ} (h:Canon p):Canon (initZ p):=by
 unfold initZ
 split
 ·exact h
 ·exact coefVZ_canon _ _ h
theorem mulS_ok {bad:Bool} {f h:PZ}:∀{n},(mulS bad f h n).2=false→bad=false
 |0,k=>k
 |n+1,k=>mulS_ok (n:=n) (timesS_ok (show(timesS (mulS bad f h n).2 (mulS bad f h n).1 h).2=false from k))
theorem powS_ev {f:PZ} {l:List PZ} {ns:List Int} (hf:Canon f) (hl:CanL l):∀n,(powS f l ns n).2=false→
  Canon (powS f l ns n).1∧((∀k,k<n→ns.getD k default=0∨evZ ρ (initZ (l.getD k default))≠0)→evZ ρ (powS f l ns n).1=0→evZ ρ f=0)
 |0,_=>⟨hf,fun _ e=>e⟩
 |n+1,k=>by
  have h':(mulS (powS f l ns n).2 (powS f l ns n).1 (initZ (l.getD n default)) (ns.getD n default).toNat).2=false:=k
  obtain⟨c1,c2⟩:=powS_ev hf hl n (mulS_ok h')
  obtain⟨d1,d2⟩:=mulS_ev (ρ:=ρ) c1 (init_can (hl.get n)) _ h'
  refine⟨d1,fun hn e=>c2 (fun k hk=>hn k (by omega)) (d2 ?_ e)⟩
  rcases hn n (by omega)with h0|h0
  ·rw[h0]
   exact .inl rfl
  ·exact .inr h0
end
end Go.Proofs.YtkbdklmdcbmgkaaGreat
