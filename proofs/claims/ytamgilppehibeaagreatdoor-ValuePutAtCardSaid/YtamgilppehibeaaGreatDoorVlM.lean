/-
  Package value: power.
-/
import Derived.Test.YtamgilppehibeaaGreatDoorNwM
import Derived.Test.YtamgilppehibeaaGreatDoorAbD
import Derived.Test.YtamgilppehibeaaGreatDoorEv0
import Derived.Test.YtamgilppehibeaaGreatDoorRw
set_option maxRecDepth 100000
set_option maxHeartbeats 12800000
namespace Go.Proofs.YtamgilppehibeaaGreatDoor
open Go.Ab
structure PwI (x:RatR) (N B:Nat) (s:Rat×RatR×Nat):Prop where
 le:s.2.2≤N
 eq:s.1*s.2.1.q^s.2.2=x.q^N
 bd:∃i j,QOk i s.1∧RatOk (j+1) s.2.1∧i+(j+1)*s.2.2≤B
theorem sq_pow (x:Rat):∀n:Nat,(x*x)^n=x^(2*n)
 |0=>by rw[Rat.pow_zero,Nat.mul_zero,Rat.pow_zero]
 |n+1=>by rw[Rat.pow_succ,sq_pow x n,show 2*(n+1)=2*n+1+1 by omega,Rat.pow_succ,Rat.pow_succ,Rat.mul_assoc]
theorem and1 (n:Nat) (h:n<300):Go.Ab.bits .and .i64 (n:Int) 1=((n%2:Nat):Int):=by
 have k:∀n:Fin 300,Go.Ab.bits .and .i64 (n.1:Int) 1=((n.1%2:Nat):Int):=by decide +kernel
 exact k ⟨n,h⟩
theorem shr1 (n:Nat):(n:Int).fdiv (2^(min ((1:Int)).toNat IntKind.i64.bits))=((n/2:Nat):Int):=by
 show(n:Int).fdiv 2=_
 rw[Int.fdiv_eq_ediv_of_nonneg _ (by decide)]
 rfl
theorem qok_one:QOk 1 (1:Rat):=⟨ZOk.small (by decide),show 1<B32^1 by decide⟩
theorem ratC_ok1 {k:Nat} {q:Rat} (h:QOk k q) (hk:k≤1000000):RatOk 1000000 (ratC q):=ratC_ok (h.mono hk)
theorem RatOk.mono' {k m:Nat} {x:RatR} (h:RatOk k x) (hk:k≤m):RatOk m x:=⟨h.n.mono hk,h.d.mono hk⟩
theorem pw_step {x y:RatR} {N B n:Nat} {o:Rat} (h:PwI x N B (o,y,n)) (hn:0<n):
  (∃i j,QOk i o∧RatOk (j+1) y∧i≤B∧j+1≤B)∧(∀y':RatR,(n=1→y'=y)→(1<n→y'=ratC (y.q*y.q))→PwI x N B (if n%2=1 then o*y.q else o,y',n/2)):=by
 obtain⟨h1,h2,i,j,hi,hj,hb⟩:=h
 simp only at h1 h2 hi hj hb
 have hjn:j+1≤(j+1)*n:=Nat.le_mul_of_pos_right _ hn
 refine⟨⟨i,j,hi,hj,by omega,by omega⟩,fun y' e1 e2=>?_⟩
 have hm:=Nat.div_add_mod n 2
 have hq:=ratR_qok hj
 have eq':∀m,n=2*m+1→o*y.q*(y.q*y.q)^m=x.q^N:=fun m e=>by
  rw[sq_pow,←h2,e,Rat.pow_succ]
  grind
 have eq0:∀m,n=2*m→o*(y.q*y.q)^m=x.q^N:=fun m e=>by rw[sq_pow,←h2,e]
 have ok2:RatOk (j+1+j+1) (ratC (y.q*y.q)):=(ratC_ok (hq.mul hq)).mono' (by omega)
 by_cases hodd:n%2=1
 ·rw[if_pos hodd]
  have e:n=2*(n/2)+1:=by omega
  by_cases h3:n=1
  ·subst h3
   refine⟨Nat.zero_le _,?_,i+(j+1),j,hi.mul hq,e1 rfl▸hj,?_⟩
   ·show o*y.q*y'.q^0=_
    rw[Rat.pow_zero,Rat.mul_one,←h2,Rat.pow_one]
   ·simp only
    omega
  ·have hy:=e2 (by omega)
   refine⟨by simp only;omega,?_,i+(j+1),j+1+j,hi.mul hq,hy▸ok2,?_⟩
   ·simp only[hy,ratC_q]
    exact eq' _ e
   ·simp only
    rw[e,Nat.mul_add,←Nat.mul_assoc]at hb
    have:(j+1+j+1)*(n/2)=(j+1)*2*(n/2):=congrArg (· *(n/2)) (by omega)
    omega
 ·rw[if_neg hodd]
  have e:n=2*(n/2):=by omega
  have hy:=e2 (by omega)
  refine⟨by simp only;omega,?_,i,j+1+j,hi,hy▸ok2,?_⟩
  ·simp only[hy,ratC_q]
   exact eq0 _ e
  ·simp only
   rw[e,←Nat.mul_assoc]at hb
   have:(j+1+j+1)*(n/2)=(j+1)*2*(n/2):=congrArg (· *(n/2)) (by omega)
   omega
theorem cbVPower:Callable Tryz.prog 68:=fun _ _=>by kernel_rfl
theorem vpower_c (x:RatR) (L N:Nat) (hx:RatOk (L+1) x) (hN:N<300) (hB:1+(L+1)*N≤1000000):PCalls Tryz.prog 68 [.agg (ratEs x),.int .i64 N] (.agg (ratEs (ratC (x.q^N)))):=by
 refine pcalls_of_awp tyok cbVPower Tryz.func68 rfl rfl ?_
 have g1:PCalls Tryz.prog 86 [.int .i64 1] (.agg (intEs (intC 1))):=of1_c 1 (by decide) (by decide)
 have g2:=ratWhole_c (intC 1) (intC_ok ((ZOk.small (by decide)).mono (by decide)))
 rw[intC_z,show((1:Int):Rat)=1 from rfl]at g2
 ((repeat(first|refine wDB ?_|refine awp_seq_k fun K hK=>?_|refine wC g1 ?_|refine wC g2 ?_|(refine wH ?_;clear hK)));refine wN fun b2=>?_;(repeat(first|refine wDB ?_|refine awp_seq_k fun K hK=>?_|refine wC g1 ?_|refine wC g2 ?_|(refine wH ?_;clear hK)));refine wN fun b4=>?_;(repeat(first|refine wDB ?_|refine awp_seq_k fun K hK=>?_|refine wC g1 ?_|refine wC g2 ?_|(refine wH ?_;clear hK)));refine wN fun b5=>?_;(repeat(first|refine wDB ?_|refine awp_seq_k fun K hK=>?_|refine wN fun bx=>?_|refine wC g1 ?_|refine wC g2 ?_|(refine wH ?_;clear hK))))
 refine awp_loopP (ι:={s:Rat×RatR×Nat//PwI x N (1+(L+1)*N) s}) (fun s=>[(1,.int .i64 s.1.2.2),(2,.ptr b2 0),(4,.ptr b4 0),(5,.ptr b5 0)])
  (fun s=>[.box b5 44 (.agg (ratEs (ratC s.1.1))),.box b4 44 (.agg [.bool false,.nils,.bool false,.nils]),.box b2 44 (.agg (ratEs s.1.2.1))]) (fun s=>s.1.2.2) ⟨(1,x,N),Nat.le_refl _,Rat.one_mul _,1,L,qok_one,hx,Nat.le_refl _⟩ wk qpm ?_
 rintro⟨⟨o,y,n⟩,hI⟩
 simp only
 by_cases h0:n=0
 ·subst h0
  have he:=hI.eq
  simp only[Rat.pow_zero,Rat.mul_one]at he
  have hge:¬((0:Nat):Int)>0:=by omega
  repeat(first|refine wDB ?_|refine awp_seq_k fun K hK=>?_|refine wN fun bx=>?_|(refine wH ?_;clear hK))
  refine rcA ?_
  rw[←he]
  exact Sub.refl _
 have hn:0<n:=by omega
 have hgt:(n:Int)>0:=by omega
 have hle:n≤N:=hI.le
 obtain⟨⟨i,j,hi,hj,hiB,hjB⟩,next⟩:=pw_step hI hn
 have hq:=ratR_qok hj
 have g3:=ratMul_c (ratC o) y (ratC_ok1 hi (by omega)) (hj.mono' (by omega))
 rw[ratC_q]at g3
 have g4:=ratMul_c y y (hj.mono' (by omega)) (hj.mono' (by omega))
 have ea:=and1 n (by omega)
 have es:=shr1 n
 rcases Nat.mod_two_eq_zero_or_one n with hodd|hodd
 ·have hc:¬Go.Ab.bits .and .i64 (n:Int) 1=1:=by rw[ea,hodd];decide
  rw[if_neg (by omega)]at next
  have h1:(n:Int)>1:=by omega
  repeat(first|refine wDB ?_|refine awp_seq_k fun K hK=>?_|refine wN fun bx=>?_|refine wC g3 ?_|refine wC g4 ?_|(refine wH ?_;clear hK))
  rw[es]
  exact⟨⟨(o,_,n/2),next _ (fun e=>by omega) fun _=>rfl⟩,wk,qpm,by simp only;omega⟩
 ·have hc:Go.Ab.bits .and .i64 (n:Int) 1=1:=by rw[ea,hodd];rfl
  rw[if_pos hodd]at next
  by_cases h1:(n:Int)>1
  ·repeat(first|refine wDB ?_|refine awp_seq_k fun K hK=>?_|refine wN fun bx=>?_|refine wC g3 ?_|refine wC g4 ?_|(refine wH ?_;clear hK))
   rw[es]
   exact⟨⟨(_,_,n/2),next _ (fun e=>by omega) fun _=>rfl⟩,wk,qpm,by simp only;omega⟩
  ·repeat(first|refine wDB ?_|refine awp_seq_k fun K hK=>?_|refine wN fun bx=>?_|refine wC g3 ?_|refine wC g4 ?_|(refine wH ?_;clear hK))
   rw[es]
   exact⟨⟨(_,y,n/2),next _ (fun _=>rfl) fun e=>by omega⟩,wk,qpm,by simp only;omega⟩
end Go.Proofs.YtamgilppehibeaaGreatDoor
namespace Go.Proofs.YtamgilppehibeaaGreatDoor
open Go.Ab
abbrev ratsV (pt:List RatR):AV:=sl ratEs 4 pt .view
def rhoR (pt:List RatR) (v:Int):Rat:=(pt.getD (v-1).toNat default).q
def rat0:RatR:=⟨⟨false,[]⟩,⟨false,[]⟩⟩
theorem rat0_sub:Sub (.agg [.bool false,.nils,.bool false,.nils]) (.agg (ratEs rat0)):=
 subAgg (.cons (Sub.refl _) (.cons (Sub.nilsv _ _) (.cons (Sub.refl _) (.cons (Sub.nilsv _ _) .nil))))
structure BdV (C M E:Nat) (p:List TermR):Prop where
 c:∀t∈p,IntOk C t.c
 m:∀t∈p,t.m.length≤M
 e:∀t∈p,∀w∈t.m,w.2≤(E:Int)
theorem qok_pow {k:Nat} {q:Rat} (h:QOk k q):∀n:Nat,QOk (1+k*n) (q^n)
 |0=>by rw[Rat.pow_zero];exact qok_one
 |n+1=>by
  rw[Rat.pow_succ]
  exact((qok_pow h n).mul h).mono (by rw[Nat.mul_succ];omega)
theorem qok_mv {L E:Nat} {ρ:Int→Rat} (hρ:∀v,QOk L (ρ v)):∀m:List Pw,(∀w∈m,w.2≤(E:Int))→QOk (1+m.length*(1+L*E)) (mvZ ρ m)
 |[],_=>by rw[List.length_nil,Nat.zero_mul];exact qok_one
 |w::m,h=>by
  have h1:=qok_pow (hρ w.1) w.2.toNat
  have h2:=qok_mv hρ m fun u hu=>h u (List.mem_cons_of_mem _ hu)
  have hw:=h w (List.mem_cons_self ..)
  have hl:L*w.2.toNat≤L*E:=Nat.mul_le_mul_left _ (by omega)
  refine(h1.mul h2).mono ?_
  rw[List.length_cons,Nat.succ_mul]
  omega
theorem qok_zero:QOk 1 (0:Rat):=⟨ZOk.small (by decide),show 1<B32^1 by decide⟩
theorem qok_default:(default:RatR).q=0:=by
 have h0:(default:RatR).d.z=0:=rfl
 unfold RatR.q
 rw[if_pos h0]
 rfl
theorem qok_int {C:Nat} {x:IntR} (h:IntOk C x):QOk (C+1) (x.z:Rat):=QOk.int ((intR_zok h).mono (by omega))
theorem rho_ok {L:Nat} {pt:List RatR} (h:∀x∈pt,RatOk (L+1) x) (v:Int):QOk (L+1) (rhoR pt v):=by
 unfold rhoR
 by_cases hv:(v-1).toNat<pt.length
 ·exact ratR_qok (h _ (getD_mem hv))
 ·rw[List.getD_eq_getElem?_getD,List.getElem?_eq_none (by omega)]
  exact QOk.mono (k:=1) (qok_default▸qok_zero) (by omega)
theorem ev_take {ρ:Int→Rat} {p:List TermR} {i:Nat} (hi:i<p.length):evZ ρ (pz (p.take (i+1)))=evZ ρ (pz (p.take i))+((p.getD i default).c.z:Rat)*mvZ ρ (p.getD i default).m:=by
 rw[List.take_add_one,pz,List.map_append,ev_app,List.getD_eq_getElem?_getD,List.getElem?_eq_getElem hi]
 show _=_+_
 refine congrArg (evZ ρ (pz (p.take i))+ ·) ?_
 show evZ ρ [zT p[i]]=_
 rw[evZ,evZ,Rat.add_zero]
 rfl
theorem mv_take {ρ:Int→Rat} {m:List Pw} {j:Nat} (hj:j<m.length):mvZ ρ (m.take (j+1))=mvZ ρ (m.take j)*ρ (m.getD j default).1^(m.getD j default).2.toNat:=by
 rw[List.take_add_one,mv_app,List.getD_eq_getElem?_getD,List.getElem?_eq_getElem hj]
 refine congrArg (mvZ ρ (m.take j)* ·) ?_
 show mvZ ρ [m[j]]=_
 rw[mvZ,mvZ,Rat.mul_one]
 rfl
theorem qok_term {C M E L:Nat} {p:List TermR} {ρ:Int→Rat} (h:BdV C M E p) (hρ:∀v,QOk L (ρ v)) {t:TermR} (ht:t∈p) (j:Nat):QOk (C+2+M*(1+L*E)) ((t.c.z:Rat)*mvZ ρ (t.m.take j)):=by
 have h1:=qok_int (h.c t ht)
 have h2:=qok_mv (E:=E) hρ (t.m.take j) fun w hw=>h.e t ht w (List.mem_of_mem_take hw)
 have h3:(t.m.take j).length*(1+L*E)≤M*(1+L*E):=Nat.mul_le_mul_right _ (Nat.le_trans (List.length_take_le' _ _) (h.m t ht))
 exact(h1.mul h2).mono (by omega)
theorem qok_sum {C M E L:Nat} {p:List TermR} {ρ:Int→Rat} (h:BdV C M E p) (hρ:∀v,QOk L (ρ v)):∀i,i≤p.length→QOk (1+i*(C+3+M*(1+L*E))) (evZ ρ (pz (p.take i)))
 |0,_=>by rw[Nat.zero_mul];exact qok_zero
 |i+1,hi=>by
  rw[ev_take (by omega)]
  have h1:=qok_sum h hρ i (by omega)
  have h2:=qok_term h hρ (getD_mem (l:=p) (i:=i) (by omega)) (p.getD i default).m.length
  rw[List.take_length]at h2
  exact(h1.add h2).mono (by rw[Nat.succ_mul];omega)
theorem cbVAt:Callable Tryz.prog 19:=fun _ _=>by kernel_rfl
theorem vat_arg (p:List TermR) (pt:List RatR) (h:PolyOk 1000000 p) (hm:mayP p=false):PCalls Tryz.prog 19 [polyV p,ratsV pt] (.tuple [.agg (ratEs rat0),.int .i64 2]):=by
 refine pcalls_of_awp tyok cbVAt Tryz.func19 rfl rfl ?_
 have g1:=pmay_c p (h.mono (by decide))
 rw[hm]at g1
 ((repeat(first|refine wDB ?_|refine awp_seq_k fun K hK=>?_|refine wC g1 ?_|(refine wH ?_;clear hK)));refine wN fun b4=>?_;(repeat(first|refine wDB ?_|refine awp_seq_k fun K hK=>?_|refine wN fun bx=>?_|refine wC g1 ?_|(refine wH ?_;clear hK))))
 refine rcB ?_ ?_
 ·exact rat0_sub
 ·exact Sub.refl _
theorem vat_none (p:List TermR) (pt:List RatR) (h:PolyOk 1000000 p) (hm:mayP p=true) (hc:classP p>pt.length):PCalls Tryz.prog 19 [polyV p,ratsV pt] (.tuple [.agg (ratEs rat0),.int .i64 5]):=by
 refine pcalls_of_awp tyok cbVAt Tryz.func19 rfl rfl ?_
 have g1:=pmay_c p (h.mono (by decide))
 rw[hm]at g1
 have g2:=vclass_c p h hm
 ((repeat(first|refine wDB ?_|refine awp_seq_k fun K hK=>?_|refine wC g1 ?_|refine wC g2 ?_|(refine wH ?_;clear hK)));refine wN fun b4=>?_;(repeat(first|refine wDB ?_|refine awp_seq_k fun K hK=>?_|refine wN fun bx=>?_|refine wC g1 ?_|refine wC g2 ?_|(refine wH ?_;clear hK))))
 refine rcB ?_ ?_
 ·exact rat0_sub
 ·exact Sub.refl _
theorem var_in {p:List TermR} {pt:List RatR} (hm:mayP p=true) (hc:classP p≤pt.length) {t:TermR} (ht:t∈p) {w:Pw} (hw:w∈t.m):1≤w.1∧w.1≤pt.length∧0<w.2:=by
 have hmt:=mayP_m hm t ht
 have hs:=may_srt hmt
 have e1:=deg_of_mem hs.1 hw
 have e2:=hs.2 w hw
 have e3:=deg_bnd hmt (v:=w.1) (by omega)
 have e4:w.1≤classF t.m:=by
  by_cases h:classF t.m<w.1
  ·have:=class_above hmt h
   omega
  ·omega
 have e5:classF t.m≤classP p:=by
  cases p with
  |nil=>cases ht
  |cons u r=>
   show _≤classF u.m
   rcases List.mem_cons.1 ht with rfl|ht
   ·exact Int.le_refl _
   ·exact class_le (mayP_m hm u (List.mem_cons_self ..)) hmt (Int.le_of_lt ((canon_of hm).head (zT t) (List.mem_map_of_mem ht)))
 exact⟨e3.1,by omega,e2⟩
theorem vat_g (p:List TermR) (pt:List RatR) (E L:Nat) (h:PolyOk 1000000 p) (hwE:∀t∈p,∀w∈t.m,w.2≤(E:Int)) (hE:E<300) (hp:∀x∈pt,RatOk (L+1) x) (hpt:pt.length≤1000) (hm:mayP p=true) (hc:classP p≤pt.length)
  (hterm:∀t∈p,∀j,QOk 1000000 ((t.c.z:Rat)*mvZ (rhoR pt) (t.m.take j))) (hsum:∀i,i≤p.length→QOk 1000000 (evZ (rhoR pt) (pz (p.take i)))) (hB3:1+(L+1)*E≤1000000):PCalls Tryz.prog 19 [polyV p,ratsV pt] (.tuple [.agg (ratEs (ratC (evZ (rhoR pt) (pz p)))),.int .i64 0]):=by
 refine pcalls_of_awp tyok cbVAt Tryz.func19 rfl rfl ?_
 have g1:=pmay_c p (h.mono (by decide))
 rw[hm]at g1
 have g2:=vclass_c p h hm
 have hng:¬classP p>pt.length:=by omega
 have g3:PCalls Tryz.prog 67 [.agg [.bool false,.nils]] (.agg (ratEs (ratC 0))):=(ratWhole_c ⟨false,[]⟩ ⟨fun _ h=>absurd h List.not_mem_nil,Nat.zero_le _⟩).sub (.cons (subAgg (.cons (Sub.refl _) (.cons (Sub.nilsv _ _) .nil))) .nil)
 have hl:=h.len
 have hρ:=rho_ok hp
 ((repeat(first|refine wDB ?_|refine awp_seq_k fun K hK=>?_|refine wC g1 ?_|refine wC g2 ?_|refine wC g3 ?_|(refine wH ?_;clear hK)));refine wN fun b4=>?_;(repeat(first|refine wDB ?_|refine awp_seq_k fun K hK=>?_|refine wC g1 ?_|refine wC g2 ?_|refine wC g3 ?_|(refine wH ?_;clear hK)));refine wN fun b6=>?_;(repeat(first|refine wDB ?_|refine awp_seq_k fun K hK=>?_|refine wN fun bx=>?_|refine wC g1 ?_|refine wC g2 ?_|refine wC g3 ?_|(refine wH ?_;clear hK))))
 refine awp_loopP (ι:={i:Nat//i≤p.length}) (fun i=>[(1,ratsV pt),(4,.ptr b4 0),(6,.ptr b6 0),(26,polyV p),(27,.int .i64 p.length),(28,.int .i64 i.1)])
  (fun i=>[.box b6 44 (.agg (ratEs (ratC (evZ (rhoR pt) (pz (p.take i.1)))))),.box b4 44 (.agg [.bool false,.nils,.bool false,.nils])]) (fun i=>p.length-i.1) ⟨0,Nat.zero_le _⟩ wk qpm ?_
 rintro⟨i,hi⟩
 simp only at hi ⊢
 by_cases hlt:i<p.length
 rotate_left
 ·have hge:¬(i:Int)<p.length:=by omega
  obtain rfl:i=p.length:=by omega
  rw[List.take_length]
  repeat(first|refine wDB ?_|refine awp_seq_k fun K hK=>?_|refine wN fun bx=>?_|(refine wH ?_;clear hK))
  refine rcB ?_ ?_
  ·exact Sub.refl _
  ·exact Sub.refl _
 have hlt':(i:Int)<p.length:=by omega
 have ht:p.getD i default∈p:=getD_mem hlt
 have g4:=ratWhole_c (p.getD i default).c (LimOk.mono (h.at' _ ht).c (by decide))
 ((repeat(first|refine wDB ?_|refine awp_seq_k fun K hK=>?_|refine wC g4 ?_|(refine wH ?_;clear hK)));refine wN fun b8=>?_;(repeat(first|refine wDB ?_|refine awp_seq_k fun K hK=>?_|refine wC g4 ?_|(refine wH ?_;clear hK)));refine wN fun b9=>?_;(repeat(first|refine wDB ?_|refine awp_seq_k fun K hK=>?_|refine wN fun bx=>?_|refine wC g4 ?_|(refine wH ?_;clear hK))))
 rw[show((p.getD i default).c.z:Rat)=((p.getD i default).c.z:Rat)*mvZ (rhoR pt) ((p.getD i default).m.take 0) from (Rat.mul_one _).symm]
 refine awp_loopP (ι:={j:Nat//j≤(p.getD i default).m.length}) (fun j=>[(1,ratsV pt),(4,.ptr b4 0),(6,.ptr b6 0),(26,polyV p),(27,.int .i64 p.length),(28,.int .i64 i),(8,.ptr b8 0),(9,.ptr b9 0),(36,mono (p.getD i default).m),(37,.int .i64 (p.getD i default).m.length),(38,.int .i64 j.1)])
  (fun j=>[.box b9 44 (.agg (ratEs (ratC (((p.getD i default).c.z:Rat)*mvZ (rhoR pt) ((p.getD i default).m.take j.1))))),.box b8 70 (.agg (termE (p.getD i default))),.box b6 44 (.agg (ratEs (ratC (evZ (rhoR pt) (pz (p.take i)))))),.box b4 44 (.agg [.bool false,.nils,.bool false,.nils])]) (fun j=>(p.getD i default).m.length-j.1) ⟨0,Nat.zero_le _⟩ wk qpm ?_
 rintro⟨j,hj⟩
 simp only at hj ⊢
 have hX:=hterm _ ht j
 have hml:=h.at' _ ht
 have hml:=hml.m
 by_cases hjt:j<(p.getD i default).m.length
 rotate_left
 ·have hge:¬(j:Int)<(p.getD i default).m.length:=by omega
  obtain rfl:j=(p.getD i default).m.length:=by omega
  rw[List.take_length]at hX ⊢
  have hS:=hsum i (by omega)
  have gA:=ratAdd_c (ratC (evZ (rhoR pt) (pz (p.take i)))) (ratC (((p.getD i default).c.z:Rat)*mvZ (rhoR pt) (p.getD i default).m)) (ratC_ok1 hS (Nat.le_refl _)) (ratC_ok1 hX (Nat.le_refl _))
  rw[ratC_q,ratC_q,←ev_take hlt]at gA
  repeat(first|refine wDB ?_|refine awp_seq_k fun K hK=>?_|refine wN fun bx=>?_|refine wC gA ?_|(refine wH ?_;clear hK))
  exact⟨⟨i+1,hlt⟩,wk,qpm,by simp only;omega⟩
 have hjt':(j:Int)<(p.getD i default).m.length:=by omega
 have hw:(p.getD i default).m.getD j default∈(p.getD i default).m:=getD_mem hjt
 obtain⟨v1,v2,v3⟩:=var_in hm hc ht hw
 have hwe:=hwE _ ht _ hw
 have hstep:=mv_take (ρ:=rhoR pt) hjt
 have hpq:∀v,rhoR pt v=(pt.getD (v-1).toNat default).q:=fun _=>rfl
 have hvl:(((p.getD i default).m.getD j default).1-1).toNat<pt.length:=by omega
 have hLE:(L+1)*((p.getD i default).m.getD j default).2.toNat≤(L+1)*E:=Nat.mul_le_mul_left _ (by omega)
 have gp:=vpower_c (pt.getD (((p.getD i default).m.getD j default).1-1).toNat default) L ((p.getD i default).m.getD j default).2.toNat (hp _ (getD_mem hvl)) (by omega) (by omega)
 rw[Int.toNat_of_nonneg (by omega),←hpq]at gp
 have gm:=ratMul_c (ratC (((p.getD i default).c.z:Rat)*mvZ (rhoR pt) ((p.getD i default).m.take j))) (ratC (rhoR pt ((p.getD i default).m.getD j default).1^((p.getD i default).m.getD j default).2.toNat)) (ratC_ok1 hX (Nat.le_refl _)) (ratC_ok1 (qok_pow (hρ ((p.getD i default).m.getD j default).1) ((p.getD i default).m.getD j default).2.toNat) (by omega))
 rw[ratC_q,ratC_q,Rat.mul_assoc,←hstep]at gm
 have d1:1≤((p.getD i default).m.getD ((j:Int)).toNat default).1:=v1
 have d2:((p.getD i default).m.getD ((j:Int)).toNat default).1≤pt.length:=v2
 ((repeat(first|refine wKB ?_|refine awp_seq_k fun K hK=>?_|(refine wH ?_;clear hK)));refine wN fun b11=>?_;(repeat(first|refine wKB ?_|refine awp_seq_k fun K hK=>?_|refine wN fun bx=>?_|(refine wH ?_;clear hK))))
 refine areg_soft mixed tyok [9,10] [] [0,1,2,3,4,5,6,7,8,9,10,11] (by decide +kernel) ?_
 repeat(first|refine wDB ?_|refine awp_seq_k fun K hK=>?_|refine wN fun bx=>?_|refine wC gp ?_|refine wC gm ?_|(refine wH ?_;clear hK))
 exact⟨⟨j+1,hjt⟩,wk,qpm,by simp only;omega⟩
theorem vat_c (p:List TermR) (pt:List RatR) (C M E L:Nat) (h:PolyOk 1000000 p) (hb:BdV C M E p) (hE:E<300) (hp:∀x∈pt,RatOk (L+1) x) (hpt:pt.length≤1000) (hm:mayP p=true) (hc:classP p≤pt.length)
  (hB:1+p.length*(C+3+M*(1+(L+1)*E))≤1000000) (hB2:C+3+M*(1+(L+1)*E)≤1000000) (hB3:1+(L+1)*E≤1000000):PCalls Tryz.prog 19 [polyV p,ratsV pt] (.tuple [.agg (ratEs (ratC (evZ (rhoR pt) (pz p)))),.int .i64 0]):=by
 have hρ:=rho_ok hp
 exact vat_g p pt E L h hb.e hE hp hpt hm hc (fun t ht j=>(qok_term hb hρ ht j).mono (by omega)) (fun i hi=>(qok_sum hb hρ i hi).mono (Nat.le_trans (Nat.add_le_add_left (Nat.mul_le_mul_right _ hi) 1) hB)) hB3
end Go.Proofs.YtamgilppehibeaaGreatDoor
namespace Go.Proofs.YtamgilppehibeaaGreatDoor
open Go.Ab
def atE (p:List TermR) (pt:List RatR):Int:=if mayP p=false then 2 else if classP p>pt.length then 5 else 0
def atR (p:List TermR) (pt:List RatR):RatR:=if atE p pt=0 then ratC (evZ (rhoR pt) (pz p)) else rat0
structure OkV (p:List TermR) (pt:List RatR):Prop where
 ok:PolyOk 1000000 p
 bd:∃C M E L,BdV C M E p∧E<300∧(∀x∈pt,RatOk (L+1) x)∧1+p.length*(C+3+M*(1+(L+1)*E))≤1000000∧C+3+M*(1+(L+1)*E)≤1000000∧1+(L+1)*E≤1000000
 pt:pt.length≤1000
theorem at_c {p:List TermR} {pt:List RatR} (h:OkV p pt):PCalls Tryz.prog 19 [polyV p,ratsV pt] (.tuple [.agg (ratEs (atR p pt)),.int .i64 (atE p pt)])∧RatOk 1000000 (atR p pt):=by
 have h0:RatOk 1000000 rat0:=⟨⟨fun _ h=>absurd h List.not_mem_nil,Nat.zero_le _⟩,⟨fun _ h=>absurd h List.not_mem_nil,Nat.zero_le _⟩⟩
 unfold atR atE
 cases hm:mayP p with
 |false=>exact⟨vat_arg p pt h.ok hm,h0⟩
 |true=>
  by_cases hc:classP p>pt.length
  ·simp only[hc,if_true]
   exact⟨vat_none p pt h.ok hm hc,h0⟩
  ·obtain⟨C,M,E,L,h1,h2,h3,h4,h5,h6⟩:=h.bd
   simp only[hc,if_false]
   refine⟨vat_c p pt C M E L h.ok h1 h2 h3 h.pt hm (by omega) h4 h5 h6,ratC_ok1 (k:=1+p.length*(C+3+M*(1+(L+1)*E))) ?_ h4⟩
   have:=qok_sum h1 (rho_ok h3) p.length (Nat.le_refl _)
   rw[List.take_length]at this
   exact this
def sgE (p:List TermR) (pt:List RatR):Int:=if atE p pt=0 then signQ (evZ (rhoR pt) (pz p)) else 0
end Go.Proofs.YtamgilppehibeaaGreatDoor
