/-
  Plain law of CheckerSound: the value of a polynomial at a point; products that are done, sums; what holds keeps noughts.
-/
import Derived.Test.YtamgilppehibeaaGreatDoorKd0
namespace Go.Proofs.YtamgilppehibeaaGreatDoor
open Go.Ab
def mvZ (ρ:Int→Rat):List Pw→Rat
 |[]=>1
 |p::m=>ρ p.1^p.2.toNat*mvZ ρ m
def evZ (ρ:Int→Rat):PZ→Rat
 |[]=>0
 |t::p=>(t.1:Rat)*mvZ ρ t.2+evZ ρ p
section
variable {ρ:Int→Rat}
theorem mv_app:∀(a b:List Pw),mvZ ρ (a++b)=mvZ ρ a*mvZ ρ b
 |[],b=>(Rat.one_mul _).symm
 |p::a,b=>by rw[List.cons_append,mvZ,mvZ,mv_app a b,Rat.mul_assoc]
theorem ev_app:∀(a b:PZ),evZ ρ (a++b)=evZ ρ a+evZ ρ b
 |[],b=>(Rat.zero_add _).symm
 |p::a,b=>by rw[List.cons_append,evZ,evZ,ev_app a b,Rat.add_assoc]
theorem rpow_add (x:Rat) (a:Nat):∀b:Nat,x^(a+b)=x^a*x^b
 |0=>by rw[Nat.add_zero,Rat.pow_zero,Rat.mul_one]
 |b+1=>by rw[←Nat.add_assoc,Rat.pow_succ,rpow_add x a b,Rat.pow_succ,Rat.mul_assoc]
theorem mv_made {t:Tr} {L:List Tr} (h:0≤gAdd t):mvZ ρ (madeF gAdd (t::L))=ρ t.1^(gAdd t).toNat*mvZ ρ (madeF gAdd L):=by
 by_cases h0:gAdd t>0
 ·rw[show madeF gAdd (t::L)=(t.1,gAdd t)::madeF gAdd L by simp[madeF,h0],mvZ]
 ·rw[show madeF gAdd (t::L)=madeF gAdd L by simp[madeF,h0],show(gAdd t).toNat=0 by omega,Rat.pow_zero,Rat.one_mul]
theorem mv_zip (a b:List Pw) (ha:∀p∈a,0<p.2) (hb:∀p∈b,0<p.2):mvZ ρ (madeF gAdd (zipM a b))=mvZ ρ a*mvZ ρ b:=by
 fun_induction zipM a b with
 |case1=>exact(Rat.one_mul _).symm
 |case2 p a ih=>
  have h1:=ha p (List.mem_cons_self ..)
  rw[mv_made (by unfold gAdd;simp only;omega),ih (fun q hq=>ha q (List.mem_cons_of_mem _ hq)) hb,mvZ.eq_2 ρ p a,mvZ.eq_1]
  simp only[gAdd,Int.add_zero,Rat.mul_one]
 |case3 q b ih=>
  have h1:=hb q (List.mem_cons_self ..)
  rw[mv_made (by unfold gAdd;simp only;omega),ih ha (fun p hp=>hb p (List.mem_cons_of_mem _ hp)),mvZ.eq_2 ρ q b,mvZ.eq_1]
  simp only[gAdd,Int.zero_add,Rat.one_mul]
 |case4 p a q b h ih=>
  have h1:=ha p (List.mem_cons_self ..)
  rw[mv_made (by unfold gAdd;simp only;omega),ih (fun q hq=>ha q (List.mem_cons_of_mem _ hq)) hb,mvZ.eq_2 ρ p a]
  simp only[gAdd,Int.add_zero,Rat.mul_assoc]
 |case5 p a q b h h' ih=>
  have h1:=hb q (List.mem_cons_self ..)
  rw[mv_made (by unfold gAdd;simp only;omega),ih ha (fun p hp=>hb p (List.mem_cons_of_mem _ hp)),mvZ.eq_2 ρ q b]
  simp only[gAdd,Int.zero_add]
  grind
 |case6 p a q b h h' ih=>
  have h1:=ha p (List.mem_cons_self ..)
  have h2:=hb q (List.mem_cons_self ..)
  rw[mv_made (by unfold gAdd;simp only;omega),ih (fun q hq=>ha q (List.mem_cons_of_mem _ hq)) (fun p hp=>hb p (List.mem_cons_of_mem _ hp)),mvZ.eq_2 ρ p a,mvZ.eq_2 ρ q b]
  simp only[gAdd]
  rw[Int.toNat_add (by omega) (by omega),rpow_add,show q.1=p.1 by omega]
  grind
theorem mv_times {a b:List Pw} (ha:may a=true) (hb:may b=true) (h:(timesF a b).2=0):mvZ ρ (timesF a b).1=mvZ ρ a*mvZ ρ b:=by
 rcases timesF_cases ha hb with e|e
 ·rw[e]at h
  cases h
 ·rw[e]
  exact mv_zip a b (may_srt ha).2 (may_srt hb).2
theorem put_ev (c:Int) {m:List Pw} (hm:may m=true):∀{p:PZ},(∀t∈p,may t.2=true)→evZ ρ (putZ c m p)=evZ ρ p+(c:Rat)*mvZ ρ m
 |[],_=>by
  unfold putZ
  split
  ·rename_i h
   subst h
   simp only[evZ]
   grind
  ·simp only[evZ]
   grind
 |t::p,h=>by
  have ih:=put_ev c hm (p:=p) fun u hu=>h u (List.mem_cons_of_mem _ hu)
  unfold putZ
  split
  ·rw[evZ,evZ,ih,Rat.add_assoc]
  split
  ·rename_i h1 h2
   have e:=(ordM_zero (h t (List.mem_cons_self ..)) hm).1 h2
   split
   ·rename_i h3
    have e2:(t.1:Rat)= -(c:Rat):=by
     rw[←Rat.intCast_neg]
     exact congrArg _ (by omega)
    rw[evZ,e,e2]
    grind
   ·rw[evZ,evZ,e,Rat.intCast_add]
    grind
  split
  ·rename_i h3
   subst h3
   grind
  ·simp only[evZ]
   grind
theorem add_ev:∀{q p:PZ},(∀t∈p,may t.2=true)→(∀t∈q,may t.2=true)→evZ ρ (addZ p q)=evZ ρ p+evZ ρ q
 |[],p,_,_=>(Rat.add_zero _).symm
 |t::q,p,hp,hq=>by
  have ht:=hq t (List.mem_cons_self ..)
  have hp2:∀u∈putZ t.1 t.2 p,may u.2=true:=fun u hu=>by
   rcases putZ_mem t.1 t.2 u hu with e|⟨v,hv,e⟩
   ·rw[e];exact ht
   ·rw[←e];exact hp v hv
  rw[show addZ p (t::q)=addZ (putZ t.1 t.2 p) q from rfl,add_ev hp2 fun u hu=>hq u (List.mem_cons_of_mem _ hu),put_ev _ ht hp,evZ,Rat.add_assoc]
theorem col_ev {l:PZ} (h:∀t∈l,may t.2=true):evZ ρ (colZ l)=evZ ρ l:=by
 rw[show colZ l=addZ [] l from rfl,add_ev (fun t ht=>absurd ht List.not_mem_nil) h]
 exact Rat.zero_add _
theorem row_ev {x:Int×List Pw} (hx:may x.2=true):∀{b:PZ},(∀y∈b,may y.2=true)→(∀y∈b,(timesF x.2 y.2).2=0)→
  evZ ρ (b.map fun y=>(x.1*y.1,(timesF x.2 y.2).1))=(x.1:Rat)*mvZ ρ x.2*evZ ρ b
 |[],_,_=>(Rat.mul_zero _).symm
 |y::b,hb,h=>by
  rw[List.map_cons,evZ,evZ,row_ev hx (fun u hu=>hb u (List.mem_cons_of_mem _ hu)) (fun u hu=>h u (List.mem_cons_of_mem _ hu)),mv_times hx (hb y (List.mem_cons_self ..)) (h y (List.mem_cons_self ..)),Rat.intCast_mul]
  grind
theorem prod_ev:∀{a b:PZ},(∀x∈a,may x.2=true)→(∀y∈b,may y.2=true)→prodB a b=true→evZ ρ (prodQ a b)=evZ ρ a*evZ ρ b
 |[],b,_,_,_=>(Rat.zero_mul _).symm
 |x::a,b,ha,hb,h=>by
  unfold prodB at h
  rw[List.all_cons,Bool.and_eq_true]at h
  have hr:=row_ev (ρ:=ρ) (ha x (List.mem_cons_self ..)) hb fun y hy=>of_decide_eq_true (List.all_eq_true.1 h.1 y hy)
  have ih:=prod_ev (a:=a) (b:=b) (fun u hu=>ha u (List.mem_cons_of_mem _ hu)) hb h.2
  unfold prodQ at ih ⊢
  rw[List.flatMap_cons,ev_app,hr,ih,evZ]
  grind
def CanL (l:List PZ):Prop:=∀p∈l,Canon p
def Nul (ρ:Int→Rat) (l:List PZ):Prop:=∀p∈l,evZ ρ p=0
end
end Go.Proofs.YtamgilppehibeaaGreatDoor
