/-
  A polynomial's value, its sums and terms, over one denominator (plain law).
-/
import Derived.Test.YtamgilppehibeaaGreatDoorVlM
import Derived.Test.YtamgilppehibeaaGreatDoorVbM
import Derived.Test.YtamgilppehibeaaGreatDoorPcM
import Derived.Test.YtamgilppehibeaaGreatDoorAbE
set_option maxRecDepth 100000
set_option maxHeartbeats 12800000
namespace Go.Proofs.YtamgilppehibeaaGreatDoor
open Go.Ab
def denZ (ρ:Int→Rat) (E:Nat):Int→Nat→Nat
 |_,0=>1
 |a,k+1=>(ρ (a+1)).den^E*denZ ρ E (a+1) k
def limL (Lf:Int→Nat) (E:Nat):Int→Nat→Nat
 |_,0=>0
 |a,k+1=>Lf (a+1)*E+limL Lf E (a+1) k
theorem den_pos (ρ:Int→Rat) (E:Nat):∀(k:Nat) (a:Int),0<denZ ρ E a k
 |0,_=>Nat.one_pos
 |k+1,a=>Nat.mul_pos (Nat.pow_pos (Rat.den_pos _)) (den_pos ρ E k (a+1))
theorem b32_pow_le {x L E:Nat} (h:x<B32^L):x^E≤B32^(L*E):=by
 rw[Nat.pow_mul]
 exact Nat.pow_le_pow_left (Nat.le_of_lt h) E
theorem den_le {ρ:Int→Rat} {Lf:Int→Nat} (h:∀v,QOk (Lf v) (ρ v)) (E:Nat):∀(k:Nat) (a:Int),denZ ρ E a k≤B32^limL Lf E a k
 |0,_=>Nat.le_refl _
 |k+1,a=>by
  rw[denZ,limL,Nat.pow_add]
  exact Nat.mul_le_mul (b32_pow_le (h (a+1)).d) (den_le h E k (a+1))
theorem rat_pow_int (z:Int):∀n:Nat,((z:Int):Rat)^n=((z^n:Int):Rat)
 |0=>by rw[Rat.pow_zero,Int.pow_zero];rfl
 |n+1=>by rw[Rat.pow_succ,rat_pow_int z n,Int.pow_succ,Rat.intCast_mul]
theorem rat_num (x:Rat):x*(x.den:Rat)=(x.num:Rat):=by
 have h0:(x.den:Rat)≠0:=fun e=>by
  have:=(Rat.natCast_eq_zero_iff).1 e
  exact x.den_nz this
 have e:x=(x.num:Rat)/(x.den:Rat):=by
  have h:=Rat.num_divInt_den x
  rw[Rat.divInt_eq_div]at h
  exact h.symm
 have e2:=congrArg (· *(x.den:Rat)) e
 exact e2.trans (Rat.div_mul_cancel h0)
theorem rpow_mul (x y:Rat):∀n:Nat,(x*y)^n=x^n*y^n
 |0=>by simp[Rat.pow_zero]
 |n+1=>by
  rw[Rat.pow_succ,Rat.pow_succ,Rat.pow_succ,rpow_mul x y n]
  grind
theorem pow_den {x:Rat} {L E e:Nat} (h:QOk L x) (he:e≤E):∃z:Int,x^e*((x.den^E:Nat):Rat)=z∧z.natAbs≤B32^(L*E):=by
 refine⟨x.num^e*((x.den^(E-e):Nat):Int),?_,?_⟩
 ·rw[Rat.intCast_mul,←rat_pow_int,←rat_num,rpow_mul]
  have h1:((x.den^E:Nat):Rat)=(x.den:Rat)^e*((x.den^(E-e):Nat):Rat):=by
   rw[show x.den^E=x.den^e*x.den^(E-e) by rw[←Nat.pow_add];congr 1;omega]
   have h2:=rat_pow_int (x.den:Int) e
   have h3:(((x.den:Int)^e:Int):Rat)=((x.den^e:Nat):Rat):=by
    rw[←Int.natCast_pow]
    rfl
   rw[h3]at h2
   have h4:((x.den:Int):Rat)=(x.den:Rat):=rfl
   rw[h4]at h2
   rw[h2]
   exact Rat.natCast_mul _ _
  rw[h1]
  have h5:(((x.den^(E-e):Nat):Int):Rat)=((x.den^(E-e):Nat):Rat):=rfl
  rw[h5,Rat.mul_assoc]
 ·rw[Int.natAbs_mul,Int.natAbs_pow,Int.natAbs_natCast,show L*E=L*e+L*(E-e) by rw[←Nat.mul_add];congr 1;omega,Nat.pow_add]
  exact Nat.mul_le_mul (b32_pow_le h.n) (b32_pow_le h.d)
theorem mv_den {ρ:Int→Rat} {Lf:Int→Nat} (h:∀v,QOk (Lf v) (ρ v)) (E:Nat):∀(k:Nat) (a:Int) (m:List Pw),m.Pairwise Lt2→(∀w∈m,a<w.1∧w.1≤a+k∧0≤w.2∧w.2≤(E:Int))→
  ∃z:Int,mvZ ρ m*((denZ ρ E a k:Nat):Rat)=z∧z.natAbs≤B32^limL Lf E a k
 |0,a,m,_,hm=>by
  cases m with
  |nil=>exact⟨1,by rw[mvZ,denZ,Rat.one_mul];rfl,Nat.le_refl _⟩
  |cons w m=>
   have:=hm w (List.mem_cons_self ..)
   omega
 |k+1,a,m,hp,hm=>by
  have hD:((denZ ρ E a (k+1):Nat):Rat)=(((ρ (a+1)).den^E:Nat):Rat)*((denZ ρ E (a+1) k:Nat):Rat):=Rat.natCast_mul _ _
  have skip:(∀w∈m,a+1<w.1)→∃z:Int,mvZ ρ m*((denZ ρ E a (k+1):Nat):Rat)=z∧z.natAbs≤B32^limL Lf E a (k+1):=fun hs=>by
   obtain⟨z,e,hz⟩:=mv_den h E k (a+1) m hp fun w hw=>by
    have h1:=hs w hw
    have h2:=hm w hw
    omega
   refine⟨((ρ (a+1)).den^E:Nat)*z,?_,?_⟩
   ·rw[hD,Rat.intCast_mul,←e]
    have h5:((((ρ (a+1)).den^E:Nat):Int):Rat)=(((ρ (a+1)).den^E:Nat):Rat):=rfl
    rw[h5]
    grind
   ·rw[Int.natAbs_mul,Int.natAbs_natCast,limL,Nat.pow_add]
    exact Nat.mul_le_mul (b32_pow_le (h (a+1)).d) hz
  cases m with
  |nil=>exact skip fun w hw=>absurd hw List.not_mem_nil
  |cons w m=>
   have hw:=hm w (List.mem_cons_self ..)
   have hpm:=List.pairwise_cons.1 hp
   by_cases hwa:w.1=a+1
   ·obtain⟨z,e,hz⟩:=mv_den h E k (a+1) m hpm.2 fun x hx=>by
     have h1:w.1<x.1:=hpm.1 x hx
     have h2:=hm x (List.mem_cons_of_mem _ hx)
     omega
    obtain⟨y,e2,hy⟩:=pow_den (e:=w.2.toNat) (E:=E) (h (a+1)) (by omega)
    refine⟨y*z,?_,?_⟩
    ·rw[hD,Rat.intCast_mul,←e,←e2,mvZ,hwa]
     grind
    ·rw[Int.natAbs_mul,limL,Nat.pow_add]
     exact Nat.mul_le_mul hy hz
   ·refine skip fun x hx=>?_
    rcases List.mem_cons.1 hx with rfl|hx
    ·omega
    ·have h1:w.1<x.1:=hpm.1 x hx
     omega
theorem qok_over {S:Rat} {D K:Nat} {z:Int} (hD:0<D) (hS:S*(D:Rat)=z) (hz:z.natAbs<B32^K) (hk:D<B32^K):QOk K S:=by
 have hD0:(D:Rat)≠0:=fun e=>by
  have:=(Rat.natCast_eq_zero_iff).1 e
  omega
 have e:S=Rat.divInt z D:=by
  rw[Rat.divInt_eq_div,←hS]
  have:((D:Int):Rat)=(D:Rat):=rfl
  rw[this,Rat.mul_div_cancel hD0]
 rw[e]
 exact .div (by omega) hz (.nat hk)
theorem at_den {p:List TermR} {pt:List RatR} {C E L:Nat} {Lf:Int→Nat} (hok:PolyOk 1000000 p) (hcb:∀t∈p,LimOk C t.c.mag) (hwE:∀t∈p,∀w∈t.m,w.2≤(E:Int)) (hE:E<300) (hp:∀x∈pt,RatOk (L+1) x) (hpt:pt.length≤1000)
  (hLf:∀v,QOk (Lf v) (rhoR pt v)) (hB:C+limL Lf E 0 pt.length+1≤1000000) (hB3:1+(L+1)*E≤1000000):
  PCalls Tryz.prog 19 [polyV p,ratsV pt] (.tuple [.agg (ratEs (atR p pt)),.int .i64 (atE p pt)])∧(atE p pt=0→QOk (C+limL Lf E 0 pt.length+1) (evZ (rhoR pt) (pz p))):=by
 unfold atR atE
 cases hm:mayP p with
 |false=>exact⟨vat_arg p pt hok hm,fun e=>by cases e⟩
 |true=>
 by_cases hc:classP p>pt.length
 ·simp only[hc,if_true]
  exact⟨vat_none p pt hok hm hc,fun e=>by cases e⟩
 simp only[hc,if_false]
 have hc':classP p≤pt.length:=by omega
 have hD0:=den_pos (rhoR pt) E pt.length 0
 have hDl:=den_le hLf E pt.length 0
 have hmz:∀t∈p,∀j,∃z:Int,mvZ (rhoR pt) (t.m.take j)*((denZ (rhoR pt) E 0 pt.length:Nat):Rat)=z∧z.natAbs≤B32^limL Lf E 0 pt.length:=fun t ht j=>
  mv_den hLf E pt.length 0 (t.m.take j) ((may_srt (mayP_m hm t ht)).1.sublist (List.take_sublist j t.m)) fun w hw=>by
   have hw:=List.mem_of_mem_take hw
   have h1:=var_in hm hc' ht hw
   have h2:=hwE t ht w hw
   omega
 generalize denZ (rhoR pt) E 0 pt.length=D at*
 generalize limL Lf E 0 pt.length=N at*
 have hB1:B32^(C+N+1)=B32^C*B32^N*B32:=by rw[Nat.pow_succ,Nat.pow_add]
 have hDk:D<B32^(C+N+1):=by
  have h1:B32^N<B32^(C+N+1):=Nat.pow_lt_pow_right (by decide) (by omega)
  omega
 have hcz:∀t∈p,∀j,∃z:Int,((t.c.z:Rat)*mvZ (rhoR pt) (t.m.take j))*(D:Rat)=z∧z.natAbs≤B32^C*B32^N:=fun t ht j=>by
  obtain⟨z,e,hz⟩:=hmz t ht j
  refine⟨t.c.z*z,by rw[Rat.mul_assoc,e,Rat.intCast_mul],?_⟩
  rw[Int.natAbs_mul]
  exact Nat.mul_le_mul (Nat.le_of_lt (intR_zok (hcb t ht))) hz
 have hterm:∀t∈p,∀j,QOk (C+N+1) ((t.c.z:Rat)*mvZ (rhoR pt) (t.m.take j)):=fun t ht j=>by
  obtain⟨z,e,hz⟩:=hcz t ht j
  refine qok_over hD0 e ?_ hDk
  rw[hB1]
  have h1:0<B32^C*B32^N:=Nat.mul_pos (b32_pos C) (b32_pos N)
  have h2:B32^C*B32^N*2≤B32^C*B32^N*B32:=Nat.mul_le_mul_left _ (by decide)
  omega
 have hS:∀i,i≤p.length→∃z:Int,evZ (rhoR pt) (pz (p.take i))*(D:Rat)=z∧z.natAbs≤B32^C*B32^N*i:=fun i=>by
  induction i with
  |zero=>exact fun _=>⟨0,by rw[List.take_zero];exact Rat.zero_mul _,Nat.le_refl _⟩
  |succ i ih=>
   intro hi
   obtain⟨z,e,hz⟩:=ih (by omega)
   obtain⟨y,e2,hy⟩:=hcz _ (getD_mem (l:=p) (i:=i) (by omega)) (p.getD i default).m.length
   rw[List.take_length]at e2
   refine⟨z+y,by rw[ev_take (by omega),Rat.add_mul,e,e2,Rat.intCast_add],?_⟩
   have:=Int.natAbs_add_le z y
   rw[Nat.mul_succ]
   omega
 have hsum:∀i,i≤p.length→QOk (C+N+1) (evZ (rhoR pt) (pz (p.take i))):=fun i hi=>by
  obtain⟨z,e,hz⟩:=hS i hi
  refine qok_over hD0 e ?_ hDk
  rw[hB1]
  have hlen:=hok.len
  have h1:0<B32^C*B32^N:=Nat.mul_pos (b32_pos C) (b32_pos N)
  have h2:B32^C*B32^N*(i+1)≤B32^C*B32^N*B32:=Nat.mul_le_mul_left _ (by unfold B32;omega)
  rw[Nat.mul_succ]at h2
  omega
 refine⟨vat_g p pt E L hok hwE hE hp hpt hm hc' (fun t ht j=>(hterm t ht j).mono hB) (fun i hi=>(hsum i hi).mono hB) hB3,fun _=>?_⟩
 have:=hsum p.length (Nat.le_refl _)
 rw[List.take_length]at this
 exact this
end Go.Proofs.YtamgilppehibeaaGreatDoor
namespace Go.Proofs.YtamgilppehibeaaGreatDoor
open Go.Ab
def powZ (Q:PZ):Nat→PZ
 |0=>[(1,[])]
 |i+1=>(tmZ (powZ Q i) Q).1
def trmZ (P:PZ) (v:Int) (Q:PZ) (i:Nat):PZ:=(tmZ (coefVZ v i P) (powZ Q i)).1
def outZ (P:PZ) (v:Int) (Q:PZ):Nat→PZ
 |0=>[]
 |i+1=>colZ (outZ P v Q i++trmZ P v Q i)
theorem prodB_sm {n E F M K:Nat} {a b:PZ} (ha:Canon a) (hb:Canon b) (s1:∀t∈a,Sm n E M t.2) (s2:∀t∈b,Sm n F K t.2) (h:E+F≤10000):prodB a b=true:=
 List.all_eq_true.2 fun x hx=>List.all_eq_true.2 fun y hy=>decide_eq_true (by
  rw[timesF_ofN (ha.may x hx) (hb.may y hy) fun v _ _=>by
   have:=deg_sm (v:=(v:Int)) (s1 x hx).e
   have:=deg_sm (v:=(v:Int)) (s2 y hy).e
   omega])
structure TmR (j n E M l:Nat) (P:PZ):Prop where
 can:CanK j P
 sm:∀t∈P,Sm n E M t.2
 len:P.length≤l
theorem tm_all {j k n E F M K l r:Nat} {a b:PZ} (ha:TmR j n E M l a) (hb:TmR k n F K r b) (h:E+F≤10000) (hl:l*r≤4294967296):
  (tmZ a b).2=true∧TmR (j+k+1) n (E+F) (M+K) (l*r) (tmZ a b).1∧∀ρ,evZ ρ (tmZ a b).1=evZ ρ a*evZ ρ b:=by
 have hB:=prodB_sm ha.can.can hb.can.can ha.sm hb.sm h
 have hmm:=prodQ_may ha.can.can hb.can.can hB
 have hz:=prodQ_bd ha.can.bd hb.can.bd
 have hs:∀t∈prodQ a b,Sm n (E+F) (M+K) t.2:=fun t ht=>by
  obtain⟨x,hx,hq⟩:=List.mem_flatMap.1 ht
  obtain⟨y,hy,rfl⟩:=List.mem_map.1 hq
  exact times_sm (ha.can.can.may x hx) (hb.can.can.may y hy) (ha.sm x hx) (hb.sm y hy)
 have hw:a.length*b.length≤l*r:=Nat.mul_le_mul ha.len hb.len
 have hlen:=colZ_len (prodQ a b)
 rw[prodQ_len]at hlen
 unfold tmZ
 rw[if_pos hB]
 exact⟨rfl,⟨col_canK hmm hz (by rw[prodQ_len];exact Nat.le_trans hw hl),col_all hmm hs,Nat.le_trans hlen hw⟩,fun ρ=>by rw[col_ev hmm,prod_ev ha.can.can.may hb.can.can.may hB]⟩
abbrev SmQ (Q:PZ):Prop:=TmR 20 200 12 12 4 Q
theorem pow_all {Q:PZ} (h:SmQ Q):∀i,i≤12→TmR (21*i+1) 200 (12*i) (12*i) (4^i) (powZ Q i)∧∀ρ,evZ ρ (powZ Q i)=evZ ρ Q^i
 |0,_=>by
  rw[show powZ Q 0=[(1,[])] from rfl]
  refine⟨⟨⟨⟨by decide,by decide,List.pairwise_singleton _ _⟩,fun t ht=>?_⟩,fun t ht=>?_,by decide⟩,fun ρ=>?_⟩
  ·rw[List.mem_singleton.1 ht]
   exact ZOk.small (by decide)
  ·rw[List.mem_singleton.1 ht]
   exact⟨fun w hw=>absurd hw List.not_mem_nil,fun w hw=>absurd hw List.not_mem_nil,Nat.zero_le _⟩
  ·rw[Rat.pow_zero]
   show((1:Int):Rat)*mvZ ρ []+evZ ρ []=1
   rw[mvZ,evZ,Rat.mul_one,Rat.add_zero]
   rfl
 |i+1,hi=>by
  obtain⟨h1,h2⟩:=pow_all h i (by omega)
  have hp:4^i*4≤4^12:=by
   rw[←Nat.pow_succ]
   exact Nat.pow_le_pow_right (by decide) hi
  obtain⟨-,h3,h4⟩:=tm_all h1 h (by omega) (Nat.le_trans hp (by decide))
  refine⟨⟨h3.can.mono (by omega),fun t ht=>?_,by rw[Nat.pow_succ];exact h3.len⟩,fun ρ=>by rw[powZ,h4,h2,Rat.pow_succ]⟩
  have:=h3.sm t ht
  rw[show 12*i+12=12*(i+1) by omega]at this
  exact this
theorem without_mem {v:Int} {m:List Pw} {w:Pw} (h:w∈withoutF v m):w∈m:=(List.mem_filter.1 h).1
theorem coef_all {P:PZ} (h:TmR 20 200 12 12 5 P) (v e:Int):TmR 20 200 12 12 5 (coefVZ v e P):=
 ⟨⟨coefVZ_canon v e h.can.can,coefVZ_bd v e h.can.bd⟩,fun t ht=>by
   unfold coefVZ at ht
   obtain⟨u,hu,rfl⟩:=List.mem_map.1 ht
   have hs:=h.sm u (List.mem_filter.1 hu).1
   exact⟨fun w hw=>hs.v w (without_mem hw),fun w hw=>hs.e w (without_mem hw),Nat.le_trans (withoutF_len v u.2) hs.l⟩,Nat.le_trans (coefVZ_len v e P) h.len⟩
theorem trm_all {P Q:PZ} (hP:TmR 20 200 12 12 5 P) (hQ:SmQ Q) (v:Int) {i:Nat} (hi:i≤12):
  (tmZ (coefVZ v i P) (powZ Q i)).2=true∧TmR 274 200 156 156 (5*4^i) (trmZ P v Q i)∧∀ρ,evZ ρ (trmZ P v Q i)=evZ ρ (coefVZ v i P)*evZ ρ Q^i:=by
 obtain⟨h1,h2⟩:=pow_all hQ i hi
 have hp:5*4^i≤5*4^12:=Nat.mul_le_mul_left _ (Nat.pow_le_pow_right (by decide) hi)
 obtain⟨h3,h4,h5⟩:=tm_all (coef_all hP v i) h1 (by omega) (Nat.le_trans hp (by decide))
 exact⟨h3,⟨h4.can.mono (by omega),fun t ht=>(h4.sm t ht).mono (by omega) (by omega),h4.len⟩,fun ρ=>by unfold trmZ;rw[h5,h2]⟩
def sumC (ρ:Int→Rat) (P:PZ) (v:Int) (g:Rat):Nat→Rat
 |0=>0
 |n+1=>sumC ρ P v g n+evZ ρ (coefVZ v n P)*g^n
theorem out_all {P Q:PZ} (hP:TmR 20 200 12 12 5 P) (hQ:SmQ Q) (v:Int):∀i,i≤13→TmR (274+i) 200 156 156 (5*4^i) (outZ P v Q i)∧∀ρ,evZ ρ (outZ P v Q i)=sumC ρ P v (evZ ρ Q) i
 |0,_=>⟨⟨⟨Canon.nil,fun t ht=>absurd ht List.not_mem_nil⟩,fun t ht=>absurd ht List.not_mem_nil,Nat.zero_le _⟩,fun _=>rfl⟩
 |i+1,hi=>by
  obtain⟨h1,h2⟩:=out_all hP hQ v i (by omega)
  obtain⟨-,h3,h4⟩:=trm_all hP hQ v (i:=i) (by omega)
  have hmm:∀t∈outZ P v Q i++trmZ P v Q i,may t.2=true:=fun t ht=>by
   rcases List.mem_append.1 ht with h|h
   ·exact h1.can.can.may t h
   ·exact h3.can.can.may t h
  have hz:∀t∈outZ P v Q i++trmZ P v Q i,ZOk (274+i) t.1:=fun t ht=>by
   rcases List.mem_append.1 ht with h|h
   ·exact h1.can.bd t h
   ·exact(h3.can.bd t h).mono (by omega)
  have hs:∀t∈outZ P v Q i++trmZ P v Q i,Sm 200 156 156 t.2:=fun t ht=>by
   rcases List.mem_append.1 ht with h|h
   ·exact h1.sm t h
   ·exact h3.sm t h
  have hp:5*4^(i+1)≤5*4^13:=Nat.mul_le_mul_left _ (Nat.pow_le_pow_right (by decide) hi)
  have hp':5*4^(i+1)≤335544320:=Nat.le_trans hp (by decide)
  have hl1:=h1.len
  have hl2:=h3.len
  have hlen:=colZ_len (outZ P v Q i++trmZ P v Q i)
  rw[List.length_append]at hlen
  rw[Nat.pow_succ]at hp' ⊢
  refine⟨⟨(col_canK hmm hz (by rw[List.length_append];omega)).mono (by omega),col_all hmm hs,?_⟩,fun ρ=>?_⟩
  ·show(colZ (outZ P v Q i++trmZ P v Q i)).length≤_
   omega
  ·rw[outZ,col_ev hmm,ev_app,h2,h4,sumC]
section
variable {ρ ρ':Int→Rat} {v:Int}
theorem mv_put:∀{m:List Pw},m.Pairwise Lt2→(∀w∈m,w.1≠v→ρ' w.1=ρ w.1)→mvZ ρ' m=mvZ ρ (withoutF v m)*ρ' v^(degF v m).toNat
 |[],_,_=>by
  show(1:Rat)=1*ρ' v^0
  rw[Rat.pow_zero,Rat.mul_one]
 |w::m,hp,h=>by
  have hpm:=List.pairwise_cons.1 hp
  have ih:=mv_put (m:=m) hpm.2 fun x hx=>h x (List.mem_cons_of_mem _ hx)
  by_cases hw:w.1=v
  ·have hlow:degF v m=0:=deg_low fun x hx=>by
    have h1:w.1<x.1:=hpm.1 x hx
    omega
   have hwo:withoutF v (w::m)=withoutF v m:=by
    unfold withoutF
    rw[List.filter_cons_of_neg (by simp[hw])]
   rw[mvZ,ih,hwo,deg_head v w m hw,hlow,hw]
   show _*(_*ρ' v^0)=_
   rw[Rat.pow_zero]
   grind
  ·have hwo:withoutF v (w::m)=w::withoutF v m:=by
    unfold withoutF
    rw[List.filter_cons_of_pos (by simp[hw])]
   rw[mvZ,ih,hwo,deg_tail v w m hw,mvZ,h w (List.mem_cons_self ..) hw]
   grind
theorem coefVZ_cons (v e:Int) (t:Int×List Pw) (P:PZ):coefVZ v e (t::P)=if degF v t.2=e then(t.1,withoutF v t.2)::coefVZ v e P else coefVZ v e P:=by
 unfold coefVZ
 by_cases h:degF v t.2=e
 ·rw[if_pos h,List.filter_cons_of_pos (by simp[h]),List.map_cons]
 ·rw[if_neg h,List.filter_cons_of_neg (by simp[h])]
theorem sumC_cons {g:Rat} (t:Int×List Pw) (P:PZ) (h0:0≤degF v t.2):∀n:Nat,sumC ρ (t::P) v g n=(if degF v t.2<n then(t.1:Rat)*mvZ ρ (withoutF v t.2)*g^(degF v t.2).toNat else 0)+sumC ρ P v g n
 |0=>by
  rw[if_neg (by omega),sumC,sumC,Rat.add_zero]
 |n+1=>by
  rw[sumC,sumC,sumC_cons t P h0 n,coefVZ_cons]
  by_cases h1:degF v t.2=n
  ·rw[if_pos h1,if_neg (by omega),if_pos (by omega),evZ,h1,Int.toNat_natCast]
   grind
  ·rw[if_neg h1]
   by_cases h2:degF v t.2<n
   ·rw[if_pos h2,if_pos (by omega)]
    grind
   ·rw[if_neg h2,if_neg (by omega)]
    grind
theorem sumC_ev {n:Nat}:∀{P:PZ},(∀t∈P,may t.2=true)→(∀t∈P,degF v t.2<n)→(∀t∈P,∀w∈t.2,w.1≠v→ρ' w.1=ρ w.1)→sumC ρ P v (ρ' v) n=evZ ρ' P
 |[],_,_,_=>by
  have:∀k:Nat,sumC ρ [] v (ρ' v) k=0:=fun k=>by
   induction k with
   |zero=>rfl
   |succ k ih=>
    rw[sumC,ih]
    show(0:Rat)+0*_=0
    rw[Rat.zero_mul,Rat.add_zero]
  exact this n
 |t::P,hm,hd,h=>by
  have ht:=may_srt (hm t (List.mem_cons_self ..))
  rw[sumC_cons t P (deg_nonneg ht v),if_pos (hd t (List.mem_cons_self ..)),evZ,mv_put ht.1 (h t (List.mem_cons_self ..)),
   sumC_ev (fun u hu=>hm u (List.mem_cons_of_mem _ hu)) (fun u hu=>hd u (List.mem_cons_of_mem _ hu)) fun u hu=>h u (List.mem_cons_of_mem _ hu),Rat.mul_assoc]
end
end Go.Proofs.YtamgilppehibeaaGreatDoor
namespace Go.Proofs.YtamgilppehibeaaGreatDoor
open Go.Ab
def coefsP (v:Int) (p:List TermR):List (List TermR):=if p=[] then [] else(List.range ((degP v p).toNat+1)).map fun e:Nat=>coefP v (e:Int) p
theorem coefsP_get {v:Int} {p:List TermR} {i:Nat} (hi:i<(coefsP v p).length):(coefsP v p).getD i default=coefP v (i:Int) p:=by
 unfold coefsP at hi ⊢
 split at hi
 ·simp at hi
 ·rename_i h
  rw[if_neg h,List.getD_eq_getElem?_getD,List.getElem?_eq_getElem hi,Option.getD_some,List.getElem_map,List.getElem_range]
theorem degP_nonneg (v:Int) (p:List TermR):0≤degP v p:=by
 have key:∀(l:List TermR) (d:Int),0≤d→0≤l.foldl (fun d t=>if degF v t.m>d then degF v t.m else d) d:=by
  intro l
  induction l with
  |nil=>exact fun d h=>h
  |cons t l ih=>
   intro d h
   rw[List.foldl_cons]
   exact ih _ (by split<;>omega)
 exact key p 0 (Int.le_refl _)
theorem cbCoefs:Callable Tryz.prog 87:=fun _ _=>by kernel_rfl
theorem vcoefs_c (p:List TermR) (v:Int) (h:PolyOk 1000000 p) (hm:mayP p=true) (hv:1≤v∧v≤200) (hd:degP v p≤10000):PCalls Tryz.prog 87 [polyV p,.int .i64 v] (polysV (coefsP v p)):=by
 refine pcalls_of_awp tyok cbCoefs Tryz.func87 rfl rfl ?_
 have g1:=vplain_c p h hm
 have hl:=h.len
 by_cases h0:p=[]
 ·subst h0
  have e0:(([]:List TermR).length:Int)=0:=rfl
  repeat(first|refine wDB ?_|refine awp_seq_k fun K hK=>?_|refine wN fun bx=>?_|refine wC g1 ?_|(refine wH ?_;clear hK))
  refine r1 ?_
  exact Sub.nilsv _ _
 have hpos:¬(p.length:Int)=0:=fun e=>h0 (List.eq_nil_of_length_eq_zero (by omega))
 have hd0:=degP_nonneg v p
 have g2:=vdegree_c p v h hm
 obtain⟨n,hn⟩:∃n:Nat,degP v p+1=n:=⟨(degP v p+1).toNat,by omega⟩
 have hcl:(coefsP v p).length=n:=by
  unfold coefsP
  rw[if_neg h0,List.length_map,List.length_range]
  omega
 repeat(first|refine wDB ?_|refine awp_seq_k fun K hK=>?_|refine wN fun bx=>?_|refine wC g1 ?_|refine wC g2 ?_|(refine wH ?_;clear hK))
 rw[hn]
 refine awp_tok0 1 23 ?_
 refine awp_loopP (ι:={y:Nat×Option Addr×Nat//y.1≤n}) (fun y=>[(0,polyV p),(1,.int .i64 v),(4,sl polyE 1 ((coefsP v p).take y.1.1) (.own y.1.2.1 y.1.2.2)),(21,.int .i64 n),(22,.int .i64 y.1.1)])
  (fun y=>[.tok y.1.2.1 y.1.2.2 ((coefsP v p).take y.1.1).length 1 23]) (fun y=>n-y.1.1) ⟨(0,none,0),Nat.zero_le _⟩ wk qpm ?_
 rintro⟨⟨k,ad,cp⟩,hk⟩
 simp only at hk ⊢
 by_cases hkt:k<n
 rotate_left
 ·have hge:¬(k:Int)<n:=by omega
  obtain rfl:k=n:=by omega
  rw[←hcl,List.take_length]
  repeat(first|refine wDB ?_|refine awp_seq_k fun K hK=>?_|refine wN fun bx=>?_|(refine wH ?_;clear hK))
  refine r1 ?_
  exact Sub.view _ _ _ _
 have hkt':(k:Int)<n:=by omega
 have g3:=vcoef_c p v k h hm hv
 have hst:=take_snoc (l:=coefsP v p) (i:=k) (by omega)
 rw[coefsP_get (by omega)]at hst
 have hlt:((coefsP v p).take k).length≤10001:=by rw[List.length_take];omega
 repeat(first|refine wDB ?_|refine awp_seq_k fun K hK=>?_|refine wN fun bx=>?_|refine wC g3 ?_|(refine wH ?_;clear hK))
 refine qapp tyok polyE ((coefsP v p).take k) (coefP v (k:Int) p) (SubL.refl _) ?_ fun ad3 cp3=>?_
 ·simp only
  omega
 rw[←hst]
 repeat(first|refine wDB ?_|refine awp_seq_k fun K hK=>?_|refine wN fun bx=>?_|(refine wH ?_;clear hK))
 exact⟨⟨(k+1,ad3,cp3),hkt⟩,wk,qpm,by simp only;omega⟩
theorem cbVPut:Callable Tryz.prog 31:=fun _ _=>by kernel_rfl
theorem vput_no (p q:List TermR) (v:Int) (hp:PolyOk 1000000 p) (hq:PolyOk 1000000 q) (h:(mayP p&&mayP q)=false):PCalls Tryz.prog 31 [polyV p,.int .i64 v,polyV q] (.tuple [polyZ [],.int .i64 2]):=by
 refine pcalls_of_awp tyok cbVPut Tryz.func31 rfl rfl ?_
 have g1:=pmay_c p (hp.mono (by decide))
 have g2:=pmay_c q (hq.mono (by decide))
 cases hm:mayP p with
 |false=>
  rw[hm]at g1
  repeat(first|refine wDB ?_|refine awp_seq_k fun K hK=>?_|refine wN fun bx=>?_|refine wC g1 ?_|(refine wH ?_;clear hK))
  refine r2 ?_ ?_
  ·exact Sub.nilsv _ _
  ·exact Sub.refl _
 |true=>
  rw[hm]at g1
  rw[hm,Bool.true_and]at h
  rw[h]at g2
  repeat(first|refine wDB ?_|refine awp_seq_k fun K hK=>?_|refine wN fun bx=>?_|refine wC g1 ?_|refine wC g2 ?_|(refine wH ?_;clear hK))
  refine r2 ?_ ?_
  ·exact Sub.nilsv _ _
  ·exact Sub.refl _
theorem vput_c (p q:List TermR) (v:Int) (hp:PolyOk 20 p) (hq:PolyOk 20 q) (m1:mayP p=true) (m2:mayP q=true) (hP:TmR 20 200 12 12 5 (pz p)) (hQ:SmQ (pz q)) (hv:1≤v∧v≤200) (hd:degP v p≤12):
  PCalls Tryz.prog 31 [polyV p,.int .i64 v,polyV q] (.tuple [polyZ (outZ (pz p) v (pz q) (coefsP v p).length),.int .i64 0]):=by
 refine pcalls_of_awp tyok cbVPut Tryz.func31 rfl rfl ?_
 have g1:=pmay_c p (hp.mono (by decide))
 have g2:=pmay_c q (hq.mono (by decide))
 rw[m1]at g1
 rw[m2]at g2
 have gO:=of1_c 1 (by decide) (by decide)
 have gN:=pnumber_c (intC 1) 1 (by decide) (intC_ok (ZOk.small (by decide)))
 rw[intC_z,show colZ [((1:Int),([]:List Pw))]=powZ (pz q) 0 from rfl]at gN
 have gC:=vcoefs_c p v (hp.mono (by decide)) m1 hv (by omega)
 have hcl:(coefsP v p).length≤13:=by
  have:=degP_nonneg v p
  unfold coefsP
  split
  ·exact Nat.zero_le _
  ·rw[List.length_map,List.length_range]
   omega
 have hcg:=fun i (hi:i<(coefsP v p).length)=>coefsP_get hi
 generalize coefsP v p=cs at*
 repeat(first|refine wDB ?_|refine awp_seq_k fun K hK=>?_|refine wN fun bx=>?_|refine wC g1 ?_|refine wC g2 ?_|refine wC gO ?_|refine wC gN ?_|refine wC gC ?_|(refine wH ?_;clear hK))
 have hq1:=TmR.mk (canK_of hq m2) hQ.sm hQ.len
 refine awp_loopP (ι:={k:Nat//k≤cs.length}) (fun k=>[(2,polyV q),(6,polyZ (outZ (pz p) v (pz q) k.1)),(7,.int .i64 0),(8,polyZ (powZ (pz q) (k.1-1))),(33,polysV cs),(34,.int .i64 cs.length),(35,.int .i64 k.1)])
  (fun _=>[]) (fun k=>cs.length-k.1) ⟨0,Nat.zero_le _⟩ ⟨⟨_,rfl,Sub.refl _⟩,⟨_,rfl,Sub.nilsv _ _⟩,⟨_,rfl,Sub.refl _⟩,⟨_,rfl,Sub.refl _⟩,⟨_,rfl,Sub.refl _⟩,⟨_,rfl,Sub.refl _⟩,⟨_,rfl,Sub.refl _⟩,True.intro⟩ qpm ?_
 rintro⟨k,hk⟩
 simp only at hk ⊢
 by_cases hkt:k<cs.length
 rotate_left
 ·have hge:¬(k:Int)<cs.length:=by omega
  obtain rfl:k=cs.length:=by omega
  repeat(first|refine wDB ?_|refine awp_seq_k fun K hK=>?_|refine wN fun bx=>?_|(refine wH ?_;clear hK))
  refine r2 ?_ ?_
  ·exact Sub.refl _
  ·exact Sub.refl _
 have hkt':(k:Int)<cs.length:=by omega
 have hk12:k≤12:=by omega
 obtain⟨b1,b2⟩:=pow_all hQ k hk12
 obtain⟨t1,t2,-⟩:=trm_all hP hQ v hk12
 obtain⟨o1,-⟩:=out_all hP hQ v k (by omega)
 have hcf:=coef_all hP v k
 have hp4:4^k≤4^12:=Nat.pow_le_pow_right (by decide) hk12
 have hp4':4^k≤16777216:=hp4
 have bl:=b1.len
 have tl:=t2.len
 have ol:=o1.len
 have gT2:=ptimes_c ((coefVZ v k (pz p)).map zR) ((powZ (pz q) k).map zR) 253 (by decide) ((hcf.can.ok (by have:=hcf.len;omega)).mono (by decide)) ((b1.can.ok (by omega)).mono (by omega)) hcf.can.may b1.can.may
  (by rw[List.length_map,List.length_map];exact Nat.le_trans (Nat.mul_le_mul hcf.len bl) (Nat.le_trans (Nat.mul_le_mul_left 5 hp4) (by decide)))
 rw[ptimesF_z,zT_map,zT_map,t1,if_pos rfl]at gT2
 have hco:=hcg k hkt
 rw[coefP_z v k hp m1]at hco
 rw[show(tmZ (coefVZ v k (pz p)) (powZ (pz q) k)).1=trmZ (pz p) v (pz q) k from rfl,←hco]at gT2
 have gA:=padd_c ((outZ (pz p) v (pz q) k).map zR) ((trmZ (pz p) v (pz q) k).map zR) 300 (by decide) ((o1.can.ok (by omega)).mono (by omega)) ((t2.can.ok (by omega)).mono (by decide)) o1.can.may t2.can.may
 rw[←List.map_append,zT_map]at gA
 have hout:colZ (outZ (pz p) v (pz q) k++trmZ (pz p) v (pz q) k)=outZ (pz p) v (pz q) (k+1):=rfl
 rw[hout]at gA
 by_cases hk0:k=0
 ·subst hk0
  have hz:¬((0:Nat):Int)>0:=by omega
  repeat(first|refine wDB ?_|refine awp_seq_k fun K hK=>?_|refine wN fun bx=>?_|refine wC gT2 ?_|refine wC gA ?_|(refine wH ?_;clear hK))
  exact⟨⟨0+1,hkt⟩,wk,qpm,by simp only;omega⟩
 ·have hz:(k:Int)>0:=by omega
  obtain⟨c1,-⟩:=pow_all hQ (k-1) (by omega)
  have hp3:4^(k-1)*4=4^k:=by rw[←Nat.pow_succ];congr 1;omega
  have cl:=c1.len
  have gT1:=ptimes_c ((powZ (pz q) (k-1)).map zR) q 253 (by decide) ((c1.can.ok (by omega)).mono (by omega)) (hq.mono (by decide)) c1.can.may m2 (by
   have hql:=hQ.len
   rw[List.length_map]at hql ⊢
   exact Nat.le_trans (Nat.mul_le_mul cl hql) (by omega))
  obtain⟨u1,-,-⟩:=tm_all c1 hQ (by omega) (by omega)
  rw[ptimesF_z,zT_map,u1,if_pos rfl]at gT1
  have hpw:(tmZ (powZ (pz q) (k-1)) (q.map zT)).1=powZ (pz q) k:=by
   obtain⟨j,rfl⟩:∃j,k=j+1:=⟨k-1,by omega⟩
   rfl
  rw[hpw]at gT1
  repeat(first|refine wDB ?_|refine awp_seq_k fun K hK=>?_|refine wN fun bx=>?_|refine wC gT1 ?_|refine wC gT2 ?_|refine wC gA ?_|(refine wH ?_;clear hK))
  exact⟨⟨k+1,hkt⟩,wk,qpm,by simp only;omega⟩
end Go.Proofs.YtamgilppehibeaaGreatDoor
namespace Go.Proofs.YtamgilppehibeaaGreatDoor
open Go.Ab
section
variable {P:Program} {N:Nat} {T:Tmps} {Q:APost}
theorem awp_freezeS {α:Type} [Inhabited α] (f:α→List AV) (sz:Nat) (hp:0<sz) (hlf:∀x,(f x).length=sz) {c:Code} (G1:AHeap) {G2:AHeap} {g cap n:Nat} {e:TypeId} {xs:List α} {s:Nat} (hl:lk T s=some (.mslice g 0 n cap)) (hn:n=xs.length) (hc:n≤cap)
  (h:AWP P N c ((s,sl f sz xs .view)::T) (G1++G2) Q):AWP P N c T (G1++rowS g e f sz cap xs::G2) Q:=by
 have e1:rowS g e f sz cap xs=rowM g e (cap*sz) (rowEl f sz xs):=by
  unfold rowS rowM
  rw[rowVec_eq]
 rw[e1]
 exact awp_freezeM G1 hl (rowS_view f sz hp hn hc hlf) h
end
theorem limL_le {Lf:Int→Nat} {B:Nat} (h:∀v,Lf v≤B) (E:Nat):∀(k:Nat) (a:Int),limL Lf E a k≤k*(B*E)
 |0,_=>Nat.zero_le _
 |k+1,a=>by
  have h1:=limL_le h E k (a+1)
  have h2:=Nat.mul_le_mul_right E (h (a+1))
  rw[limL,Nat.succ_mul]
  omega
theorem limL_one {B C:Nat} (v:Int) (E:Nat):∀(k:Nat) (a:Int),0≤a→limL (fun u=>if u=v∨u<1 then B else C) E a k≤k*(C*E)+(if a<v then B*E else 0)
 |0,_,_=>Nat.zero_le _
 |k+1,a,ha=>by
  have h1:=limL_one (B:=B) (C:=C) v E k (a+1) (by omega)
  rw[limL,Nat.succ_mul]
  by_cases e:a+1=v
  ·rw[if_neg (by omega)]at h1
   rw[if_pos (.inl e),if_pos (by omega)]
   omega
  ·rw[if_neg (by omega)]
   by_cases e2:a+1<v
   ·rw[if_pos e2]at h1
    rw[if_pos (by omega)]
    omega
   ·rw[if_neg e2]at h1
    omega
theorem degP_ge {v:Int} {p:List TermR}:(∀t∈p,degF v t.m≤degP v p)∧∀B:Int,0≤B→(∀t∈p,degF v t.m≤B)→degP v p≤B:=by
 have key:∀(l:List TermR) (d:Int),d≤l.foldl (fun d t=>if degF v t.m>d then degF v t.m else d) d∧(∀t∈l,degF v t.m≤l.foldl (fun d t=>if degF v t.m>d then degF v t.m else d) d)∧∀B:Int,d≤B→(∀t∈l,degF v t.m≤B)→l.foldl (fun d t=>if degF v t.m>d then degF v t.m else d) d≤B:=by
  intro l
  induction l with
  |nil=>exact fun d=>⟨Int.le_refl _,fun t ht=>absurd ht List.not_mem_nil,fun B h _=>h⟩
  |cons t l ih=>
   intro d
   rw[List.foldl_cons]
   obtain⟨h1,h2,h3⟩:=ih (if degF v t.m>d then degF v t.m else d)
   have h4:d≤(if degF v t.m>d then degF v t.m else d)∧degF v t.m≤(if degF v t.m>d then degF v t.m else d):=by split<;>omega
   refine⟨by omega,fun u hu=>?_,fun B hd hB=>h3 B ?_ fun u hu=>hB u (List.mem_cons_of_mem _ hu)⟩
   ·rcases List.mem_cons.1 hu with rfl|hu
    ·omega
    ·exact h2 u hu
   ·have:=hB t (List.mem_cons_self ..)
    split<;>omega
 obtain⟨-,h2,h3⟩:=key p 0
 exact⟨h2,h3⟩
theorem sm_of {p:List TermR} {l:Nat} (hb:BdV 20 12 12 p) (hm:mayP p=true) (ho:PolyOk 20 p) (hl:p.length≤l):TmR 20 200 12 12 l (pz p):=
 ⟨canK_of ho hm,fun t ht=>by
   obtain⟨u,hu,rfl⟩:=List.mem_map.1 ht
   exact⟨fun w hw=>(may_pos (mayP_m hm u hu) hw).2.1,hb.e u hu,hb.m u hu⟩,by rw[List.length_map];exact hl⟩
theorem put_ev10 {p q:List TermR} {pt:List RatR} {v:Int} {b:RatR} (hb:BdV 20 12 12 p) (hP:TmR 20 200 12 12 5 (pz p)) (hQ:SmQ (pz q)) (hv1:1≤v) (hv2:v≤pt.length) (hbq:b.q=evZ (rhoR pt) (pz q)):
  evZ (rhoR pt) (outZ (pz p) v (pz q) (coefsP v p).length)=evZ (rhoR (pt.set (v-1).toNat b)) (pz p):=by
 have hd:∀t∈p,degF v t.m≤12:=fun t ht=>deg_sm (E:=12) (hb.e t ht)
 obtain⟨d1,d2⟩:=degP_ge (v:=v) (p:=p)
 have d3:=d2 12 (by decide) hd
 have d4:=degP_nonneg v p
 have hn:(coefsP v p).length≤13:=by
  unfold coefsP
  split
  ·exact Nat.zero_le _
  ·rw[List.length_map,List.length_range]
   omega
 rw[(out_all hP hQ v _ hn).2]
 have hρv:rhoR (pt.set (v-1).toNat b) v=evZ (rhoR pt) (pz q):=by
  show((pt.set (v-1).toNat b).getD (v-1).toNat default).q=_
  rw[List.getD_eq_getElem?_getD,List.getElem?_set_self (by omega),Option.getD_some,hbq]
 have hρu:∀u:Int,1≤u→u≠v→rhoR (pt.set (v-1).toNat b) u=rhoR pt u:=fun u h1 h2=>by
  unfold rhoR
  rw[List.getD_eq_getElem?_getD,List.getElem?_set_ne (by omega),←List.getD_eq_getElem?_getD]
 rw[←hρv]
 refine sumC_ev hP.can.can.may (fun t ht=>?_) fun t ht w hw hne=>hρu _ (may_pos (hP.can.can.may t ht) hw).1 hne
 obtain⟨u,hu,rfl⟩:=List.mem_map.1 ht
 have h1:=d1 u hu
 have hne:p≠[]:=fun e=>by rw[e]at hu;cases hu
 have h2:(coefsP v p).length=(degP v p).toNat+1:=by
  unfold coefsP
  rw[if_neg hne,List.length_map,List.length_range]
 have h3:degF v (zT u).2=degF v u.m:=rfl
 omega
theorem cbPutAt10:Callable Tryz.prog 7:=fun _ _=>by kernel_rfl
theorem valuePutAt_c (p:List TermR) (v:Int) (q:List TermR) (pt:List RatR) (hr:RawP p) (hr':RawP q) (hql:(∀y∈pt,RawQ y)∧pt.length≤1000000000000000):PCalls Tryz.prog 7 [polyV p,.int .i64 v,polyV q,ratsV pt] (.bool true):=by
 refine pcalls_of_awp tyok cbPutAt10 Tryz.func7 rfl rfl ?_
 obtain⟨hq,hl⟩:=hql
 have gK:=known10_c
 have gG:=great10_c p pt hr hq hl
 have gG':=(great10_c q [] hr' (fun y hy=>absurd hy List.not_mem_nil) (Nat.zero_le _)).sub (vs:=[polyV q,.nils]) (.cons (Sub.refl _) (.cons (Sub.nilsv _ _) .nil))
 have hrl:=hr.len
 have hrl':=hr'.len
 cases hg:great10 p pt with
 |true=>
  rw[hg]at gG
  repeat(first|refine wDE ?_|refine awp_seq_k fun K hK=>?_|refine wN fun bx=>?_|refine wC gG ?_|refine wC gK ?_|(refine wH ?_;clear hK))
  refine r1 ?_
  exact Sub.refl _
 |false=>
 rw[hg]at gG
 cases hg':great10 q []with
 |true=>
  rw[hg']at gG'
  repeat(first|refine wDE ?_|refine awp_seq_k fun K hK=>?_|refine wN fun bx=>?_|refine wC gG ?_|refine wC gG' ?_|refine wC gK ?_|(refine wH ?_;clear hK))
  refine r1 ?_
  exact Sub.refl _
 |false=>
 rw[hg']at gG'
 by_cases h5:(p.length:Int)>5
 ·repeat(first|refine wDB ?_|refine awp_seq_k fun K hK=>?_|refine wN fun bx=>?_|refine wC gG ?_|refine wC gG' ?_|refine wC gK ?_|(refine wH ?_;clear hK))
  refine r1 ?_
  exact Sub.refl _
 by_cases h4:(q.length:Int)>4
 ·repeat(first|refine wDB ?_|refine awp_seq_k fun K hK=>?_|refine wN fun bx=>?_|refine wC gG ?_|refine wC gG' ?_|refine wC gK ?_|(refine wH ?_;clear hK))
  refine r1 ?_
  exact Sub.refl _
 by_cases v1:v<1
 ·repeat(first|refine wDB ?_|refine awp_seq_k fun K hK=>?_|refine wN fun bx=>?_|refine wC gG ?_|refine wC gG' ?_|refine wC gK ?_|(refine wH ?_;clear hK))
  refine r1 ?_
  exact Sub.refl _
 by_cases v2:v>pt.length
 ·repeat(first|refine wDB ?_|refine awp_seq_k fun K hK=>?_|refine wN fun bx=>?_|refine wC gG ?_|refine wC gG' ?_|refine wC gK ?_|(refine wH ?_;clear hK))
  refine r1 ?_
  exact Sub.refl _
 obtain⟨hb,-,hptl,hq3,ho,hv⟩:=great10_ok hr hq hg
 obtain⟨hb',-,-,-,ho',-⟩:=great10_ok hr' (fun y hy=>absurd hy List.not_mem_nil) hg'
 have hv':OkV q pt:=⟨ho',⟨20,12,12,2,hb',by decide,hq3,by omega,by decide,by decide⟩,by omega⟩
 obtain⟨gA',-⟩:=at_c hv'
 cases hmm:(mayP p&&mayP q)with
 |false=>
  have gP:=vput_no p q v ho ho' hmm
  have hv0:OkV [] pt:=⟨⟨by decide,fun t ht=>absurd ht List.not_mem_nil⟩,⟨0,0,0,2,⟨fun t ht=>absurd ht List.not_mem_nil,fun t ht=>absurd ht List.not_mem_nil,fun t ht=>absurd ht List.not_mem_nil⟩,by decide,hq3,by decide,by decide,by decide⟩,by omega⟩
  obtain⟨g0,-⟩:=at_c hv0
  ((repeat(first|refine wDB ?_|refine awp_seq_k fun K hK=>?_|refine wC gG ?_|refine wC gG' ?_|refine wC gP ?_|refine wC g0 ?_|refine wC gA' ?_|refine wC gK ?_|(refine wH ?_;clear hK)));refine wN fun b11=>?_;(repeat(first|refine wDB ?_|refine awp_seq_k fun K hK=>?_|refine wC gG ?_|refine wC gG' ?_|refine wC gP ?_|refine wC g0 ?_|refine wC gA' ?_|refine wC gK ?_|(refine wH ?_;clear hK)));refine wN fun b13=>?_;(repeat(first|refine wDB ?_|refine awp_seq_k fun K hK=>?_|refine wN fun bx=>?_|refine wC gG ?_|refine wC gG' ?_|refine wC gP ?_|refine wC g0 ?_|refine wC gA' ?_|refine wC gK ?_|(refine wH ?_;clear hK))))
  refine r1 ?_
  exact Sub.refl _
 |true=>
 rw[Bool.and_eq_true]at hmm
 obtain⟨m1,m2⟩:=hmm
 have pk:∀{l:List TermR},BdV 20 12 12 l→l.length≤12→PolyOk 20 l:=fun h hl=>⟨by omega,fun t ht=>⟨h.c t ht,by have:=h.m t ht;omega⟩⟩
 have okp:=pk hb (by omega)
 have okq:=pk hb' (by omega)
 have hP:=sm_of (l:=5) hb m1 okp (by omega)
 have hQ:=sm_of (l:=4) hb' m2 okq (by omega)
 have hdv:degP v p≤12:=degP_ge.2 12 (by decide) fun t ht=>deg_sm (E:=12) (hb.e t ht)
 have gP:=vput_c p q v okp okq m1 m2 hP hQ (by omega) hdv
 have hn:(coefsP v p).length≤13:=by
  have:=degP_nonneg v p
  unfold coefsP
  split
  ·exact Nat.zero_le _
  ·rw[List.length_map,List.length_range]
   omega
 obtain⟨o1,-⟩:=out_all hP hQ v _ hn
 have hev:=put_ev10 (v:=v) (pt:=pt) (b:=ratC (evZ (rhoR pt) (pz q))) hb hP hQ (by omega) (by omega) (ratC_q _)
 have hX4:5*4^(coefsP v p).length≤335544320:=Nat.le_trans (Nat.mul_le_mul_left _ (Nat.pow_le_pow_right (by decide) hn)) (by decide)
 have hXl:=o1.len
 have hXok:=o1.can.ok (Nat.le_trans hXl (Nat.le_trans hX4 (by decide)))
 generalize outZ (pz p) v (pz q) (coefsP v p).length=X at*
 have hN1:=limL_le (Lf:=fun _=>3) (B:=3) (fun _=>Nat.le_refl _) 156 pt.length 0
 obtain⟨gX,hXq⟩:=at_den (p:=X.map zR) (pt:=pt) (C:=287) (E:=156) (L:=2) (Lf:=fun _=>3) (hXok.mono (Nat.le_trans (Nat.add_le_add_left hn 274) (by decide))) (fun t ht=>LimOk.mono (hXok.at' t ht).c (Nat.add_le_add_left hn 274)) (fun t ht w hw=>by
  obtain⟨u,hu,rfl⟩:=List.mem_map.1 ht
  exact(o1.sm u hu).e w hw) (by decide) hq3 (by omega) (rho_ok hq3) (by omega) (by decide)
 by_cases hx0:atE (X.map zR) pt=0
 rotate_left
 ·((repeat(first|refine wDB ?_|refine awp_seq_k fun K hK=>?_|refine wC gG ?_|refine wC gG' ?_|refine wC gP ?_|refine wC gX ?_|refine wC gA' ?_|refine wC gK ?_|(refine wH ?_;clear hK)));refine wN fun b11=>?_;(repeat(first|refine wDB ?_|refine awp_seq_k fun K hK=>?_|refine wC gG ?_|refine wC gG' ?_|refine wC gP ?_|refine wC gX ?_|refine wC gA' ?_|refine wC gK ?_|(refine wH ?_;clear hK)));refine wN fun b13=>?_;(repeat(first|refine wDB ?_|refine awp_seq_k fun K hK=>?_|refine wN fun bx=>?_|refine wC gG ?_|refine wC gG' ?_|refine wC gP ?_|refine wC gX ?_|refine wC gA' ?_|refine wC gK ?_|(refine wH ?_;clear hK))))
  refine r1 ?_
  exact Sub.refl _
 by_cases hq0:atE q pt=0
 rotate_left
 ·((repeat(first|refine wDB ?_|refine awp_seq_k fun K hK=>?_|refine wC gG ?_|refine wC gG' ?_|refine wC gP ?_|refine wC gX ?_|refine wC gA' ?_|refine wC gK ?_|(refine wH ?_;clear hK)));refine wN fun b11=>?_;(repeat(first|refine wDB ?_|refine awp_seq_k fun K hK=>?_|refine wC gG ?_|refine wC gG' ?_|refine wC gP ?_|refine wC gX ?_|refine wC gA' ?_|refine wC gK ?_|(refine wH ?_;clear hK)));refine wN fun b13=>?_;(repeat(first|refine wDB ?_|refine awp_seq_k fun K hK=>?_|refine wN fun bx=>?_|refine wC gG ?_|refine wC gG' ?_|refine wC gP ?_|refine wC gX ?_|refine wC gA' ?_|refine wC gK ?_|(refine wH ?_;clear hK))))
  refine r1 ?_
  exact Sub.refl _
 have e1:atR (X.map zR) pt=ratC (evZ (rhoR pt) X):=by unfold atR;rw[if_pos hx0,pz,zT_map]
 have e2:atR q pt=ratC (evZ (rhoR pt) (pz q)):=by unfold atR;rw[if_pos hq0]
 have j1:=hXq hx0
 rw[pz,zT_map]at j1
 have j2:=qok_sum hb' (rho_ok hq3) q.length (Nat.le_refl _)
 rw[List.take_length]at j2
 have j2:QOk 1869 (evZ (rhoR pt) (pz q)):=j2.mono (by omega)
 rw[hx0,e1]at gX
 rw[hq0,e2]at gA'
 have rb:=ratC_ok j2
 have hbq:=ratC_q (evZ (rhoR pt) (pz q))
 generalize hbe:ratC (evZ (rhoR pt) (pz q))=b at*
 have hN2:=limL_one (B:=1869) (C:=3) v 12 pt.length 0 (Int.le_refl _)
 have hlen':(pt.set (v-1).toNat b).length=pt.length:=List.length_set
 have hin:(v-1).toNat<pt.length:=by omega
 obtain⟨gC,-⟩:=at_den (p:=p) (pt:=pt.set (v-1).toNat b) (C:=20) (E:=12) (L:=1868) (Lf:=fun u=>if u=v∨u<1 then 1869 else 3) ho hb.c hb.e (by decide) (fun x hx=>by
  rcases List.mem_or_eq_of_mem_set hx with h|h
  ·exact(hq3 x h).mono' (by decide)
  ·rw[h]
   exact rb) (by omega) (fun u=>by
  show QOk (if u=v∨u<1 then 1869 else 3) ((pt.set (v-1).toNat b).getD (u-1).toNat default).q
  by_cases hu:(u-1).toNat=(v-1).toNat
  ·rw[if_pos (by omega),hu,List.getD_eq_getElem?_getD,List.getElem?_set_self hin,Option.getD_some,hbq]
   exact j2
  ·rw[List.getD_eq_getElem?_getD,List.getElem?_set_ne (fun e=>hu e.symm),←List.getD_eq_getElem?_getD]
   have h3:=rho_ok hq3 u
   split
   ·exact h3.mono (by decide)
   ·exact h3) (by rw[hlen'];split at hN2<;>omega) (by decide)
 ((repeat(first|refine wDB ?_|refine awp_seq_k fun K hK=>?_|refine wC gG ?_|refine wC gG' ?_|refine wC gP ?_|refine wC gX ?_|refine wC gA' ?_|(refine wH ?_;clear hK)));refine wN fun b11=>?_;(repeat(first|refine wDB ?_|refine awp_seq_k fun K hK=>?_|refine wC gG ?_|refine wC gG' ?_|refine wC gP ?_|refine wC gX ?_|refine wC gA' ?_|(refine wH ?_;clear hK)));refine wN fun b13=>?_;(repeat(first|refine wDB ?_|refine awp_seq_k fun K hK=>?_|refine wN fun bx=>?_|refine wC gG ?_|refine wC gG' ?_|refine wC gP ?_|refine wC gX ?_|refine wC gA' ?_|(refine wH ?_;clear hK))))
 refine qappO tyok ratEs pt (fun g cap h1 h2=>?_) (fun i hi=>rfl) (by omega) ?_
 rotate_left
 ·simp only
  omega
 repeat(first|refine wDB ?_|refine awp_seq_k fun K hK=>?_|refine wN fun bx=>?_|(refine wH ?_;clear hK))
 refine qiaM tyok ?_
 repeat(first|refine wDB ?_|refine awp_seq_k fun K hK=>?_|refine wN fun bx=>?_|(refine wH ?_;clear hK))
 refine qstS (cap:=cap) (sz:=4) tyok ratEs pt (v-1).toNat b ?_ ?_ hin h1 rfl (by decide) rfl
 ·exact Nat.zero_add _
 (((repeat(first|refine wT ?_|refine wN fun bx=>?_)));(try refine wP ?_);repeat(refine wH ?_;clear hK))
 refine awp_freezeS ratEs 4 (by decide) (fun _=>rfl) [] (s:=15) rfl hlen'.symm h1 ?_
 have hE:evZ (rhoR (pt.set (v-1).toNat b)) (pz p)=evZ (rhoR pt) X:=hev.symm
 have hAp:atE p (pt.set (v-1).toNat b)=0→atR p (pt.set (v-1).toNat b)=ratC (evZ (rhoR pt) X):=fun e=>by
  unfold atR
  rw[if_pos e,hE]
 generalize pt.set (v-1).toNat b=pt' at*
 by_cases hh:atE p pt'=0
 ·rw[hh,hAp hh]at gC
  have rx:=ratC_ok1 j1 (by omega)
  generalize evZ (rhoR pt) X=y at*
  have e0:(ratC y).q-(ratC y).q=0:=Rat.sub_self
  have gM:=ratCmp_c (ratC y) (ratC y) rx rx (by rw[e0];exact(ratC_ok1 (k:=1) qok_zero (by decide)).mono' (by decide))
  rw[e0,show signQ 0=0 from rfl]at gM
  ((repeat(first|refine wDB ?_|refine awp_seq_k fun K hK=>?_|refine wC gC ?_|refine wC gM ?_|refine wC gK ?_|(refine wH ?_;clear hK)));refine wN fun b16=>?_;(repeat(first|refine wDB ?_|refine awp_seq_k fun K hK=>?_|refine wN fun bx=>?_|refine wC gC ?_|refine wC gM ?_|refine wC gK ?_|(refine wH ?_;clear hK))))
  refine r1 ?_
  exact Sub.refl _
 ·((repeat(first|refine wDB ?_|refine awp_seq_k fun K hK=>?_|refine wC gC ?_|refine wC gK ?_|(refine wH ?_;clear hK)));refine wN fun b16=>?_;(repeat(first|refine wDB ?_|refine awp_seq_k fun K hK=>?_|refine wN fun bx=>?_|refine wC gC ?_|refine wC gK ?_|(refine wH ?_;clear hK))))
  refine r1 ?_
  exact Sub.refl _
end Go.Proofs.YtamgilppehibeaaGreatDoor
