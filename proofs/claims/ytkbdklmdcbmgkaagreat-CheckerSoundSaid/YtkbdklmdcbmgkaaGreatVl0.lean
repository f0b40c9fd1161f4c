/-
  Package value: power.
-/
import Derived.Test.YtkbdklmdcbmgkaaGreatNwM
import Derived.Test.YtkbdklmdcbmgkaaGreatAbD
set_option maxRecDepth 100000
set_option maxHeartbeats 6400000
namespace Go.Proofs.YtkbdklmdcbmgkaaGreat
open Go.Ab
structure PwI (x:RatR) (N B:Nat) (s:Rat×RatR×Nat):Prop where
 le:s.2.2≤N
 eq:s.1*s.2.1.q^s.2.2=x.q^N
 bd:∃i j,QOk i s.1∧RatOk (j+1) s.2.1∧i+(j+1)*s.2.2≤B
theorem sq_pow (x:Rat):∀n:Nat,(x*x)^n=x^(2*n)
 |0=>by rw[Rat.pow_zero,Nat.mul_zero,Rat.pow_zero]
 |n+1=>by rw[Rat.pow_succ,sq_pow x n,show 2*(n+1)=2*n+1+1 by omega,Rat.pow_succ,Rat.pow_succ,Rat.mul_assoc]
theorem and1 (n:Nat) (h:n<300):Go.Ab.bits .and .i64 (n:Int) 1=((n%2:Nat):Int):=by
 have k:∀n:Fin 300,Go.Ab.bits .and .i64 (n.1:Int) 1=((n.1%2:Nat):Int):=by decide +kernel
 exact k ⟨n,h⟩
theorem shr1 (n:Nat):(n:Int).fdiv (2^(min ((1:Int)).toNat IntKind.i64.bits))=((n/2:Nat):Int):=by
 show(n:Int).fdiv 2=_
 rw[Int.fdiv_eq_ediv_of_nonneg _ (by decide)]
 rfl
theorem qok_one:QOk 1 (1:Rat):=⟨ZOk.small (by decide),show 1<B32^1 by decide⟩
theorem ratC_ok1 {k:Nat} {q:Rat} (h:QOk k q) (hk:k≤1000000):RatOk 1000000 (ratC q):=ratC_ok (h.mono hk)
theorem RatOk.mono' {k m:Nat} {x:RatR} (h:RatOk k x) (hk:k≤m):RatOk m x:=⟨h.n.mono hk,h.d.mono hk⟩
theorem pw_step {x y:RatR} {N B n:Nat} {o:Rat} (h:PwI x N B (o,y,n)) (hn:0<n):
  (∃i j,QOk i o∧RatOk (j+1) y∧i≤B∧j+1≤B)∧(∀y':RatR,(n=1→y'=y)→(1<n→y'=ratC (y.q*y.q))→PwI x N B (if n%2=1 then o*y.q else o,y',n/2)):=by
 obtain⟨h1,h2,i,j,hi,hj,hb⟩:=h
 simp only at h1 h2 hi hj hb
 have hjn:j+1≤(j+1)*n:=Nat.le_mul_of_pos_right _ hn
 refine⟨⟨i,j,hi,hj,by omega,by omega⟩,fun y' e1 e2=>?_⟩
 have hm:=Nat.div_add_mod n 2
 have hq:=ratR_qok hj
 have eq':∀m,n=2*m+1→o*y.q*(y.q*y.q)^m=x.q^N:=fun m e=>by
  rw[sq_pow,←h2,e,Rat.pow_succ]
  grind
 have eq0:∀m,n=2*m→o*(y.q*y.q)^m=x.q^N:=fun m e=>by rw[sq_pow,←h2,e]
 have ok2:RatOk (j+1+j+1) (ratC (y.q*y.q)):=(ratC_ok (hq.mul hq)).mono' (by omega)
 by_cases hodd:n%2=1
 ·rw[if_pos hodd]
  have e:n=2*(n/2)+1:=by omega
  by_cases h3:n=1
  ·subst h3
   refine⟨Nat.zero_le _,?_,i+(j+1),j,hi.mul hq,e1 rfl▸hj,?_⟩
   ·show o*y.q*y'.q^0=_
    rw[Rat.pow_zero,Rat.mul_one,←h2,Rat.pow_one]
   ·simp only
    omega
  ·have hy:=e2 (by omega)
   refine⟨by simp only;omega,?_,i+(j+1),j+1+j,hi.mul hq,hy▸ok2,?_⟩
   ·simp only[hy,ratC_q]
    exact eq' _ e
   ·simp only
    rw[e,Nat.mul_add,←Nat.mul_assoc]at hb
    have:(j+1+j+1)*(n/2)=(j+1)*2*(n/2):=congrArg (· *(n/2)) (by omega)
    omega
 ·rw[if_neg hodd]
  have e:n=2*(n/2):=by omega
  have hy:=e2 (by omega)
  refine⟨by simp only;omega,?_,i,j+1+j,hi,hy▸ok2,?_⟩
  ·simp only[hy,ratC_q]
   exact eq0 _ e
  ·simp only
   rw[e,←Nat.mul_assoc]at hb
   have:(j+1+j+1)*(n/2)=(j+1)*2*(n/2):=congrArg (· *(n/2)) (by omega)
   omega
theorem cbVPower:Callable Tryz.prog 46:=fun _ _=>by kernel_rfl
theorem vpower_c (x:RatR) (L N:Nat) (hx:RatOk (L+1) x) (hN:N<300) (hB:1+(L+1)*N≤1000000):PCalls Tryz.prog 46 [.agg (ratEs x),.int .i64 N] (.agg (ratEs (ratC (x.q^N)))):=by
 refine pcalls_of_awp tyok cbVPower Tryz.func46 rfl rfl ?_
 have g1:PCalls Tryz.prog 83 [.int .i64 1] (.agg (intEs (intC 1))):=of1_c 1 (by decide) (by decide)
 have g2:=ratWhole_c (intC 1) (intC_ok ((ZOk.small (by decide)).mono (by decide)))
 rw[intC_z,show((1:Int):Rat)=1 from rfl]at g2
 ((repeat(first|refine wDB ?_|refine awp_seq_k fun K hK=>?_|refine wC g1 ?_|refine wC g2 ?_|(refine wH ?_;clear hK)));refine wN fun b2=>?_;(repeat(first|refine wDB ?_|refine awp_seq_k fun K hK=>?_|refine wC g1 ?_|refine wC g2 ?_|(refine wH ?_;clear hK)));refine wN fun b4=>?_;(repeat(first|refine wDB ?_|refine awp_seq_k fun K hK=>?_|refine wC g1 ?_|refine wC g2 ?_|(refine wH ?_;clear hK)));refine wN fun b5=>?_;(repeat(first|refine wDB ?_|refine awp_seq_k fun K hK=>?_|refine wN fun bx=>?_|refine wC g1 ?_|refine wC g2 ?_|(refine wH ?_;clear hK))))
 refine awp_loopP (ι:={s:Rat×RatR×Nat//PwI x N (1+(L+1)*N) s}) (fun s=>[(1,.int .i64 s.1.2.2),(2,.ptr b2 0),(4,.ptr b4 0),(5,.ptr b5 0)])
  (fun s=>[.box b5 39 (.agg (ratEs (ratC s.1.1))),.box b4 39 (.agg [.bool false,.nils,.bool false,.nils]),.box b2 39 (.agg (ratEs s.1.2.1))]) (fun s=>s.1.2.2) ⟨(1,x,N),Nat.le_refl _,Rat.one_mul _,1,L,qok_one,hx,Nat.le_refl _⟩ wk qpm ?_
 rintro⟨⟨o,y,n⟩,hI⟩
 simp only
 by_cases h0:n=0
 ·subst h0
  have he:=hI.eq
  simp only[Rat.pow_zero,Rat.mul_one]at he
  have hge:¬((0:Nat):Int)>0:=by omega
  repeat(first|refine wDB ?_|refine awp_seq_k fun K hK=>?_|refine wN fun bx=>?_|(refine wH ?_;clear hK))
  refine rcA ?_
  rw[←he]
  exact Sub.refl _
 have hn:0<n:=by omega
 have hgt:(n:Int)>0:=by omega
 have hle:n≤N:=hI.le
 obtain⟨⟨i,j,hi,hj,hiB,hjB⟩,next⟩:=pw_step hI hn
 have hq:=ratR_qok hj
 have g3:=ratMul_c (ratC o) y (ratC_ok1 hi (by omega)) (hj.mono' (by omega))
 rw[ratC_q]at g3
 have g4:=ratMul_c y y (hj.mono' (by omega)) (hj.mono' (by omega))
 have ea:=and1 n (by omega)
 have es:=shr1 n
 rcases Nat.mod_two_eq_zero_or_one n with hodd|hodd
 ·have hc:¬Go.Ab.bits .and .i64 (n:Int) 1=1:=by rw[ea,hodd];decide
  rw[if_neg (by omega)]at next
  have h1:(n:Int)>1:=by omega
  repeat(first|refine wDB ?_|refine awp_seq_k fun K hK=>?_|refine wN fun bx=>?_|refine wC g3 ?_|refine wC g4 ?_|(refine wH ?_;clear hK))
  rw[es]
  exact⟨⟨(o,_,n/2),next _ (fun e=>by omega) fun _=>rfl⟩,wk,qpm,by simp only;omega⟩
 ·have hc:Go.Ab.bits .and .i64 (n:Int) 1=1:=by rw[ea,hodd];rfl
  rw[if_pos hodd]at next
  by_cases h1:(n:Int)>1
  ·repeat(first|refine wDB ?_|refine awp_seq_k fun K hK=>?_|refine wN fun bx=>?_|refine wC g3 ?_|refine wC g4 ?_|(refine wH ?_;clear hK))
   rw[es]
   exact⟨⟨(_,_,n/2),next _ (fun e=>by omega) fun _=>rfl⟩,wk,qpm,by simp only;omega⟩
  ·repeat(first|refine wDB ?_|refine awp_seq_k fun K hK=>?_|refine wN fun bx=>?_|refine wC g3 ?_|refine wC g4 ?_|(refine wH ?_;clear hK))
   rw[es]
   exact⟨⟨(_,y,n/2),next _ (fun _=>rfl) fun e=>by omega⟩,wk,qpm,by simp only;omega⟩
end Go.Proofs.YtkbdklmdcbmgkaaGreat
