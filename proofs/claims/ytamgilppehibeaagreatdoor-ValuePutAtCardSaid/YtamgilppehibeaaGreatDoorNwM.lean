/-
  Layer 4 (whole): made, Of, Sign, Neg, Add, Sub, Mul, Exact, Gcd tell whole numbers.
-/
import Derived.Test.YtamgilppehibeaaGreatDoorNtM
import Derived.Test.YtamgilppehibeaaGreatDoorNdX
import Derived.Test.YtamgilppehibeaaGreatDoorNaM
import Derived.Test.YtamgilppehibeaaGreatDoorAbD
set_option maxRecDepth 100000
set_option maxHeartbeats 6400000
namespace Go.Proofs.YtamgilppehibeaaGreatDoor
open Go.Ab
def sgn (neg:Bool) (n:Nat):Int:=if neg then -(n:Int) else n
theorem intR_sgn (x:IntR):x.z=sgn x.neg (valB B32 x.mag):=rfl
theorem intC_sgn (neg:Bool) (n:Nat):intC (sgn neg n)=⟨neg&&decide (n≠0),digs B32 n⟩:=by
 unfold intC sgn
 cases neg with
 |false=>simp
 |true=>
  simp only[if_true,Int.natAbs_neg,Int.natAbs_natCast,Bool.true_and]
  congr 1
  by_cases h:n=0
  ·subst h;rfl
  ·rw[decide_eq_true (by omega),decide_eq_true h]
def IntOk (k:Nat) (x:IntR):Prop:=LimOk k x.mag
theorem intC_ok {k:Nat} {z:Int} (h:ZOk k z):IntOk k (intC z):=LimOk.digs h
theorem intR_zok {k:Nat} {x:IntR} (h:IntOk k x):ZOk k x.z:=by
 unfold ZOk
 rw[IntR.abs]
 exact h.val
theorem len_pos {n:Nat}:((digs B32 n).length:Int)>0↔n≠0:=by
 have:=digs_nil (B:=B32) (n:=n) B32_two
 constructor
 ·intro h h0
  rw[this.2 h0]at h
  simp at h
 ·intro h
  have:(digs B32 n).length≠0:=fun e=>h (this.1 (List.eq_nil_of_length_eq_zero e))
  omega
theorem cbMade:Callable Tryz.prog 122:=fun _ _=>by kernel_rfl
theorem wmade_c (neg:Bool) (a:List Nat) (h:LimOk 100000000 a):PCalls Tryz.prog 122 [.bool neg,lims a] (.agg (intEs (intC (sgn neg (valB B32 a))))):=by
 refine pcalls_of_awp tyok cbMade Tryz.func122 rfl rfl ?_
 have g:=trimV_c a (h.mono (by decide))
 have hl:=len_pos (n:=valB B32 a)
 have hz:=digs_nil (B:=B32) (n:=valB B32 a) B32_two
 rw[intC_sgn]
 generalize valB B32 a=v at g hl hz ⊢
 generalize digs B32 v=d at g hl hz ⊢
 cases neg with
 |false=>
  repeat(first|refine wDB ?_|refine awp_seq_k fun K hK=>?_|refine wN fun bx=>?_|refine wC g ?_|(refine wH ?_;clear hK))
  refine rcA ?_
  exact Sub.of_eq rfl
 |true=>
  by_cases hv:v=0
  ·have h0:¬(d.length:Int)>0:=fun e=>hl.1 e hv
   repeat(first|refine wDB ?_|refine awp_seq_k fun K hK=>?_|refine wN fun bx=>?_|refine wC g ?_|(refine wH ?_;clear hK))
   refine rcA ?_
   exact Sub.of_eq (by rw[decide_eq_false (show¬v≠0 from fun e=>e hv)];rfl)
  ·have h0:(d.length:Int)>0:=hl.2 hv
   repeat(first|refine wDB ?_|refine awp_seq_k fun K hK=>?_|refine wN fun bx=>?_|refine wC g ?_|(refine wH ?_;clear hK))
   refine rcA ?_
   exact Sub.of_eq (by rw[decide_eq_true hv];rfl)
theorem cbOf1:Callable Tryz.prog 86:=fun _ _=>by kernel_rfl
theorem of1_c (n:Int) (h1: -9223372036854775808≤n) (h2:n≤9223372036854775807):PCalls Tryz.prog 86 [.int .i64 n] (.agg (intEs (intC n))):=by
 refine pcalls_of_awp tyok cbOf1 Tryz.func86 rfl rfl ?_
 have hb:n.natAbs<B32^2:=by unfold B32;omega
 have lo:=(LimOk.digs hb).mono (show 2≤100000000 by decide)
 have g:=small1_c n.natAbs (by omega)
 by_cases hn:n<0
 ·have e:IntKind.u64.wrap (0-IntKind.u64.wrap n)=(n.natAbs:Int):=by
   rw[wu64,wu64]
   omega
  have g2:=wmade_c true _ lo
  rw[val_digs B32_two,show sgn true n.natAbs=n by simp only[sgn,if_true];omega]at g2
  rw[←e]at g
  repeat(first|refine wDB ?_|refine awp_seq_k fun K hK=>?_|refine wN fun bx=>?_|refine wC g ?_|refine wC g2 ?_|(refine wH ?_;clear hK))
  refine rcA ?_
  exact Sub.refl _
 ·have e:IntKind.u64.wrap n=(n.natAbs:Int):=by
   rw[wu64]
   omega
  have g2:=wmade_c false _ lo
  rw[val_digs B32_two,show sgn false n.natAbs=n by simp only[sgn];simp;omega]at g2
  rw[←e]at g
  repeat(first|refine wDB ?_|refine awp_seq_k fun K hK=>?_|refine wN fun bx=>?_|refine wC g ?_|refine wC g2 ?_|(refine wH ?_;clear hK))
  refine rcA ?_
  exact Sub.refl _
def signZ (z:Int):Int:=if z=0 then 0 else if z<0 then -1 else 1
theorem cbSign1:Callable Tryz.prog 62:=fun _ _=>by kernel_rfl
theorem sign1_c (x:IntR) (h:IntOk 100000000 x):PCalls Tryz.prog 62 [.agg (intEs x)] (.int .i64 (signZ x.z)):=by
 refine pcalls_of_awp tyok cbSign1 Tryz.func62 rfl rfl ?_
 have g:=bits_c x.mag h
 have hz:=bitsD_zero (n:=valB B32 x.mag)
 rw[intR_sgn]
 obtain⟨neg,a⟩:=x
 simp only at g hz ⊢
 generalize valB B32 a=v at g hz ⊢
 generalize bitsD (digs B32 v)=b at g hz
 by_cases hv:v=0
 ·have hb:(b:Int)=0:=by have:=hz.2 hv;omega
  have e:signZ (sgn neg v)=0:=by subst hv;cases neg<;>rfl
  repeat(first|refine wDB ?_|refine awp_seq_k fun K hK=>?_|refine wN fun bx=>?_|refine wC g ?_|(refine wH ?_;clear hK))
  refine r1 ?_
  exact Sub.of_eq (by rw[e])
 ·have hb:¬(b:Int)=0:=fun e=>hv (hz.1 (by omega))
  cases neg with
  |true=>
   have e:signZ (sgn true v)= -1:=by
    simp only[sgn,if_true,signZ]
    rw[if_neg (by omega),if_pos (by omega)]
   repeat(first|refine wDB ?_|refine awp_seq_k fun K hK=>?_|refine wN fun bx=>?_|refine wC g ?_|(refine wH ?_;clear hK))
   refine r1 ?_
   exact Sub.of_eq (by rw[e])
  |false=>
   have e:signZ (sgn false v)=1:=by
    simp only[sgn,signZ,Bool.false_eq_true,if_false]
    rw[if_neg (by omega),if_neg (by omega)]
   repeat(first|refine wDB ?_|refine awp_seq_k fun K hK=>?_|refine wN fun bx=>?_|refine wC g ?_|(refine wH ?_;clear hK))
   refine r1 ?_
   exact Sub.of_eq (by rw[e])
theorem cbNeg1:Callable Tryz.prog 126:=fun _ _=>by kernel_rfl
theorem neg1_c (x:IntR) (h:IntOk 100000000 x):PCalls Tryz.prog 126 [.agg (intEs x)] (.agg (intEs (intC (-x.z)))):=by
 refine pcalls_of_awp tyok cbNeg1 Tryz.func126 rfl rfl ?_
 have g:=wmade_c (!x.neg) x.mag h
 rw[show sgn (!x.neg) (valB B32 x.mag)= -x.z by rw[intR_sgn];cases x.neg<;>simp[sgn]]at g
 repeat(first|refine wDB ?_|refine awp_seq_k fun K hK=>?_|refine wN fun bx=>?_|refine wC g ?_|(refine wH ?_;clear hK))
 refine rcA ?_
 exact Sub.refl _
end Go.Proofs.YtamgilppehibeaaGreatDoor
namespace Go.Proofs.YtamgilppehibeaaGreatDoor
open Go.Ab
theorem nat_add_ok {k u v:Nat} (hu:u<B32^k) (hv:v<B32^k):u+v<B32^(k+1):=by
 rw[Nat.pow_succ]
 have h3:B32^k*2≤B32^k*B32:=Nat.mul_le_mul_left _ (by decide)
 omega
theorem nat_mul_ok {j k u v:Nat} (hu:u<B32^j) (hv:v<B32^k):u*v<B32^(j+k):=by
 rw[Nat.pow_add]
 exact Nat.mul_lt_mul'' hu hv
theorem dif_ok {j k u v:Nat} (hu:LimOk j (digs B32 u)) (hk:j≤k):LimOk k (digs B32 (u-v)):=
 (LimOk.digs (Nat.lt_of_le_of_lt (Nat.sub_le _ _) ((digs_len B32_two).1 hu.len))).mono hk
theorem cbAdd2:Callable Tryz.prog 84:=fun _ _=>by kernel_rfl
theorem add2_c (x y:IntR) (h:IntOk 10000000 x) (k:IntOk 10000000 y):PCalls Tryz.prog 84 [.agg (intEs x),.agg (intEs y)] (.agg (intEs (intC (x.z+y.z)))):=by
 refine pcalls_of_awp tyok cbAdd2 Tryz.func84 rfl rfl ?_
 rw[intR_sgn,intR_sgn]
 obtain⟨n1,a⟩:=x
 obtain⟨n2,b⟩:=y
 simp only[IntOk]at h k ⊢
 have ga:=add1_c a b (h.mono (by decide)) (k.mono (by decide))
 have lsum:LimOk 100000000 (digs B32 (valB B32 a+valB B32 b)):=(LimOk.digs (nat_add_ok h.val k.val)).mono (by decide)
 by_cases hs:n1=n2
 ·subst hs
  have gm:=wmade_c n1 _ lsum
  rw[val_digs B32_two,show sgn n1 (valB B32 a+valB B32 b)=sgn n1 (valB B32 a)+sgn n1 (valB B32 b) by cases n1<;>simp[sgn];omega]at gm
  cases n1<;>
  ·repeat(first|refine wKB ?_|refine awp_seq_k fun K hK=>?_|refine wN fun bx=>?_|(refine wH ?_;clear hK))
   refine areg_soft mixed tyok [6,7] [] [0,1,2,3,4,5,6,7,8] (by decide +kernel) ?_
   repeat(first|refine wDB ?_|refine awp_seq_k fun K hK=>?_|refine wN fun bx=>?_|refine wC ga ?_|refine wC gm ?_|(refine wH ?_;clear hK))
   refine rcA ?_
   exact Sub.refl _
 by_cases hle:valB B32 b≤valB B32 a
 ·have g1:=sub1_c a b (h.mono (by decide)) (k.mono (by decide)) hle
  have gm:=wmade_c n1 _ (dif_ok (k:=100000000) (v:=valB B32 b) h.trim (by decide))
  rw[val_digs B32_two,show sgn n1 (valB B32 a-valB B32 b)=sgn n1 (valB B32 a)+sgn n2 (valB B32 b) by
   cases n1<;>cases n2<;>first|exact absurd rfl hs|(simp only[sgn,if_true,Bool.false_eq_true,if_false];omega)]at gm
  cases n1<;>cases n2<;>first
  |exact absurd rfl hs
  |(repeat(first|refine wDB ?_|refine awp_seq_k fun K hK=>?_|refine wN fun bx=>?_|refine wC g1 ?_|refine wC gm ?_|(refine wH ?_;clear hK))
    refine rcA ?_
    exact Sub.refl _)
 ·have g1:=sub1_no a b (h.mono (by decide)) (k.mono (by decide)) (by omega)
  have g2:=sub1_c b a (k.mono (by decide)) (h.mono (by decide)) (by omega)
  have gm:=wmade_c n2 _ (dif_ok (k:=100000000) (v:=valB B32 a) k.trim (by decide))
  rw[val_digs B32_two,show sgn n2 (valB B32 b-valB B32 a)=sgn n1 (valB B32 a)+sgn n2 (valB B32 b) by
   cases n1<;>cases n2<;>first|exact absurd rfl hs|(simp only[sgn,if_true,Bool.false_eq_true,if_false];omega)]at gm
  cases n1<;>cases n2<;>first
  |exact absurd rfl hs
  |(repeat(first|refine wDB ?_|refine awp_seq_k fun K hK=>?_|refine wN fun bx=>?_|refine wC g1 ?_|refine wC g2 ?_|refine wC gm ?_|(refine wH ?_;clear hK))
    refine rcA ?_
    exact Sub.refl _)
theorem sgn_mul (a b:Bool) (v w:Nat):sgn a v*sgn b w=sgn (a !=b) (v*w):=by
 cases a<;>cases b<;>simp[sgn]<;>grind
theorem cbMul2:Callable Tryz.prog 80:=fun _ _=>by kernel_rfl
theorem mul2_c (x y:IntR) (h:IntOk 10000000 x) (k:IntOk 10000000 y):PCalls Tryz.prog 80 [.agg (intEs x),.agg (intEs y)] (.agg (intEs (intC (x.z*y.z)))):=by
 refine pcalls_of_awp tyok cbMul2 Tryz.func80 rfl rfl ?_
 rw[intR_sgn,intR_sgn]
 obtain⟨n1,a⟩:=x
 obtain⟨n2,b⟩:=y
 simp only[IntOk]at h k ⊢
 have g:=mul1_c a b h k
 have lp:LimOk 100000000 (digs B32 (valB B32 a*valB B32 b)):=(LimOk.digs (nat_mul_ok h.val k.val)).mono (by decide)
 have gm:=wmade_c (n1 !=n2) _ lp
 rw[val_digs B32_two,←sgn_mul]at gm
 cases n1<;>cases n2<;>
 ·repeat(first|refine wKB ?_|refine awp_seq_k fun K hK=>?_|refine wN fun bx=>?_|(refine wH ?_;clear hK))
  refine areg_soft mixed tyok [9,10] [] [0,1,2,3,4,5,6,7,8,9,10,11] (by decide +kernel) ?_
  repeat(first|refine wDB ?_|refine awp_seq_k fun K hK=>?_|refine wN fun bx=>?_|refine wC g ?_|refine wC gm ?_|(refine wH ?_;clear hK))
  refine rcA ?_
  exact Sub.refl _
theorem sgn_tdiv (a b:Bool) (v w:Nat):(sgn a v).tdiv (sgn b w)=sgn (a !=b) (v/w):=by
 cases a<;>cases b<;>simp[sgn]
theorem sgn_dvd (a b:Bool) (v w:Nat):sgn b w∣sgn a v↔w∣v:=by
 cases a<;>cases b<;>simp[sgn,Int.natCast_dvd_natCast]
theorem sgn_zero (a:Bool) (v:Nat):sgn a v=0↔v=0:=by
 cases a<;>simp[sgn]
theorem cbExact2:Callable Tryz.prog 127:=fun _ _=>by kernel_rfl
theorem exact2_c (x y:IntR) (h:IntOk 10000000 x) (k:IntOk 10000000 y) (hy:y.z≠0) (hd:y.z∣x.z):PCalls Tryz.prog 127 [.agg (intEs x),.agg (intEs y)] (.tuple [.agg (intEs (intC (x.z.tdiv y.z))),.int .i64 0]):=by
 refine pcalls_of_awp tyok cbExact2 Tryz.func127 rfl rfl ?_
 rw[intR_sgn,intR_sgn,sgn_dvd]at hd
 rw[intR_sgn,ne_eq,sgn_zero]at hy
 rw[intR_sgn,intR_sgn,sgn_tdiv]
 obtain⟨n1,a⟩:=x
 obtain⟨n2,b⟩:=y
 simp only[IntOk]at h k hd hy ⊢
 have g:=exact1_c a b h k hy hd
 have lq:LimOk 100000000 (digs B32 (valB B32 a/valB B32 b)):=
  (LimOk.digs (Nat.lt_of_le_of_lt (Nat.div_le_self _ _) h.val)).mono (by decide)
 have gm:=wmade_c (n1 !=n2) _ lq
 rw[val_digs B32_two]at gm
 cases n1<;>cases n2<;>
 ·repeat(first|refine wDB ?_|refine awp_seq_k fun K hK=>?_|refine wN fun bx=>?_|refine wC g ?_|refine wC gm ?_|(refine wH ?_;clear hK))
  refine rcB ?_ ?_
  ·exact Sub.refl _
  ·exact Sub.refl _
theorem cbGcd2:Callable Tryz.prog 125:=fun _ _=>by kernel_rfl
theorem gcd2_c (x y:IntR) (h:IntOk 10000000 x) (k:IntOk 10000000 y):PCalls Tryz.prog 125 [.agg (intEs x),.agg (intEs y)] (.agg (intEs (intC (Nat.gcd x.z.natAbs y.z.natAbs:Nat)))):=by
 refine pcalls_of_awp tyok cbGcd2 Tryz.func125 rfl rfl ?_
 rw[IntR.abs,IntR.abs]
 obtain⟨n1,a⟩:=x
 obtain⟨n2,b⟩:=y
 simp only[IntOk]at h k ⊢
 have t1:=trimV_c a (h.mono (by decide))
 have t2:=trimV_c b (k.mono (by decide))
 have va:=h.val
 have vb:=k.val
 generalize valB B32 a=u at t1 va ⊢
 generalize valB B32 b=v at t2 vb ⊢
 ((repeat(first|refine wKB ?_|refine awp_seq_k fun K hK=>?_|(refine wH ?_;clear hK)));refine wN fun b2=>?_;(repeat(first|refine wKB ?_|refine awp_seq_k fun K hK=>?_|(refine wH ?_;clear hK)));refine wN fun b3=>?_;(repeat(first|refine wKB ?_|refine awp_seq_k fun K hK=>?_|(refine wH ?_;clear hK)));refine wN fun b4=>?_;(repeat(first|refine wKB ?_|refine awp_seq_k fun K hK=>?_|refine wN fun bx=>?_|(refine wH ?_;clear hK))))
 refine areg_soft mixed tyok [2,5] [] [0,1,2,3,4,5,6,7] (by decide +kernel) ?_
 repeat(first|refine wDB ?_|refine awp_seq_k fun K hK=>?_|refine wN fun bx=>?_|refine wC t1 ?_|refine wC t2 ?_|(refine wH ?_;clear hK))
 refine awp_loop0 (ι:={s:Nat×Nat//s.1<B32^10000000∧s.2<B32^10000000∧Nat.gcd s.1 s.2=Nat.gcd u v}) (fun s=>[(4,.ptr b4 0),(5,lims (digs B32 s.1.1)),(6,lims (digs B32 s.1.2))])
  (fun _=>[.box b4 42 (.agg [.bool false,.nils]),.box b3 42 (.agg (intEs ⟨n2,b⟩)),.box b2 42 (.agg (intEs ⟨n1,a⟩))]) (fun s=>s.1.2) ⟨(u,v),va,vb,rfl⟩ wk ⟨0,rfl⟩ ?_
 rintro⟨⟨p,q⟩,hp,hq,hg⟩
 simp only at hp hq hg ⊢
 have hl:=len_pos (n:=q)
 by_cases hq0:q=0
 ·have h0:¬((digs B32 q).length:Int)>0:=fun e=>hl.1 e hq0
  have gm:=wmade_c false _ ((LimOk.digs hp).mono (show 10000000≤100000000 by decide))
  rw[val_digs B32_two,show sgn false p=((Nat.gcd u v:Nat):Int) by rw[←hg,hq0,Nat.gcd_zero_right];rfl]at gm
  repeat(first|refine wDB ?_|refine awp_seq_k fun K hK=>?_|refine wN fun bx=>?_|refine wC gm ?_|(refine wH ?_;clear hK))
  refine rcA ?_
  exact Sub.refl _
 ·have h0:((digs B32 q).length:Int)>0:=hl.2 hq0
  have gd:=dm_c _ _ (LimOk.digs hp) (LimOk.digs hq) (by rw[val_digs B32_two];exact hq0)
  rw[val_digs B32_two,val_digs B32_two]at gd
  repeat(first|refine wDB ?_|refine awp_seq_k fun K hK=>?_|refine wN fun bx=>?_|refine wC gd ?_|(refine wH ?_;clear hK))
  exact⟨⟨(q,p%q),hq,Nat.lt_trans (Nat.mod_lt _ (by omega)) hq,by rw[←hg,Nat.gcd_comm q,←Nat.gcd_rec,Nat.gcd_comm]⟩,wk,⟨0,rfl⟩,Nat.mod_lt _ (by omega)⟩
end Go.Proofs.YtamgilppehibeaaGreatDoor
namespace Go.Proofs.YtamgilppehibeaaGreatDoor
open Go.Ab
theorem _root_.Go.Ab.QOk.dz {k:Nat} {q:Rat} (h:QOk k q):ZOk k (q.den:Int):=h.d
theorem ratC_ok {k:Nat} {q:Rat} (h:QOk k q):RatOk k (ratC q):=⟨LimOk.digs h.n,LimOk.digs h.d⟩
theorem ratR_qok {k:Nat} {x:RatR} (h:RatOk (k+1) x):QOk (k+1) x.q:=by
 unfold RatR.q
 by_cases hd:x.d.z=0
 ·rw[if_pos hd]
  refine .div (by decide) (intR_zok h.n) ?_
  show 1<B32^(k+1)
  exact Nat.lt_of_lt_of_le (show 1<B32^1 by decide) (b32_le (by omega))
 ·rw[if_neg hd]
  exact .div hd (intR_zok h.n) (intR_zok h.d)
theorem cbROne:Callable Tryz.prog 124:=fun _ _=>by kernel_rfl
theorem rone_c:PCalls Tryz.prog 124 [] (.agg (intEs (intC 1))):=by
 refine pcalls_of_awp tyok cbROne Tryz.func124 rfl rfl ?_
 have g:=of1_c 1 (by decide) (by decide)
 repeat(first|refine wDB ?_|refine awp_seq_k fun K hK=>?_|refine wN fun bx=>?_|refine wC g ?_|(refine wH ?_;clear hK))
 refine rcA ?_
 exact Sub.refl _
theorem gcd_zok {k:Nat} {n d:Int} (hd:d≠0) (h:ZOk k d):ZOk k ((Nat.gcd n.natAbs d.natAbs:Nat):Int):=by
 unfold ZOk at*
 have:=Nat.le_of_dvd (show 0<d.natAbs by omega) (Nat.gcd_dvd_right n.natAbs d.natAbs)
 exact Nat.lt_of_le_of_lt this h
theorem cbRatOf:Callable Tryz.prog 83:=fun _ _=>by kernel_rfl
theorem ratOf_c (x y:IntR) (h:IntOk 10000000 x) (k:IntOk 10000000 y) (hd:y.z≠0):PCalls Tryz.prog 83 [.agg (intEs x),.agg (intEs y)] (.tuple [.agg (ratEs (ratC (Rat.divInt x.z y.z))),.int .i64 0]):=by
 refine pcalls_of_awp tyok cbRatOf Tryz.func83 rfl rfl ?_
 have g1:=sign1_c y (LimOk.mono k (by decide))
 have g2:=gcd2_c x y h k
 have zg:=gcd_zok (n:=x.z) hd (intR_zok k)
 have hgz:((Nat.gcd x.z.natAbs y.z.natAbs:Nat):Int)≠0:=by
  have:=Nat.gcd_pos_of_pos_right x.z.natAbs (show 0<y.z.natAbs by omega)
  omega
 have hn0:¬signZ y.z=0:=by
  unfold signZ
  rw[if_neg hd]
  split<;>decide
 by_cases hneg:y.z<0
 ·obtain⟨s1,s2,s3,s4⟩:=rat_short hd (n:=x.z) _ rfl
  rw[if_pos hneg]at s1 s2 s3 s4
  have hs:signZ y.z<0:=by
   unfold signZ
   rw[if_neg hd,if_pos hneg]
   decide
  have okg:IntOk 10000000 (intC (Nat.gcd x.z.natAbs y.z.natAbs:Nat)):=intC_ok zg
  have g3:=neg1_c _ (LimOk.mono okg (show 10000000≤100000000 by decide))
  rw[intC_z]at g3
  have okn:IntOk 10000000 (intC (-((Nat.gcd x.z.natAbs y.z.natAbs:Nat):Int))):=intC_ok zg.neg
  have g4:=exact2_c x _ h okn (by rw[intC_z];omega) (by rw[intC_z];exact s1)
  have g5:=exact2_c y _ k okn (by rw[intC_z];omega) (by rw[intC_z];exact s2)
  rw[intC_z,s3]at g4
  rw[intC_z,s4]at g5
  repeat(first|refine wDB ?_|refine awp_seq_k fun K hK=>?_|refine wN fun bx=>?_|refine wC g1 ?_|refine wC g2 ?_|refine wC g3 ?_|refine wC g4 ?_|refine wC g5 ?_|(refine wH ?_;clear hK))
  refine rcB ?_ ?_
  ·exact Sub.refl _
  ·exact Sub.refl _
 ·obtain⟨s1,s2,s3,s4⟩:=rat_short hd (n:=x.z) _ rfl
  rw[if_neg hneg]at s1 s2 s3 s4
  have hs:¬signZ y.z<0:=by
   unfold signZ
   rw[if_neg hd,if_neg hneg]
   decide
  have okg:IntOk 10000000 (intC (Nat.gcd x.z.natAbs y.z.natAbs:Nat)):=intC_ok zg
  have g4:=exact2_c x _ h okg (by rw[intC_z];exact hgz) (by rw[intC_z];exact s1)
  have g5:=exact2_c y _ k okg (by rw[intC_z];exact hgz) (by rw[intC_z];exact s2)
  rw[intC_z,s3]at g4
  rw[intC_z,s4]at g5
  repeat(first|refine wDB ?_|refine awp_seq_k fun K hK=>?_|refine wN fun bx=>?_|refine wC g1 ?_|refine wC g2 ?_|refine wC g4 ?_|refine wC g5 ?_|(refine wH ?_;clear hK))
  refine rcB ?_ ?_
  ·exact Sub.refl _
  ·exact Sub.refl _
theorem cbRPut:Callable Tryz.prog 81:=fun _ _=>by kernel_rfl
theorem rput_c (x:RatR) (h:RatOk 10000000 x):PCalls Tryz.prog 81 [.agg (ratEs x)] (.agg (ratEs (ratC x.q))):=by
 refine pcalls_of_awp tyok cbRPut Tryz.func81 rfl rfl ?_
 have g1:=sign1_c x.d (h.d.mono (by decide))
 unfold RatR.q
 by_cases hd:x.d.z=0
 ·rw[if_pos hd]
  have h0:signZ x.d.z=0:=by rw[hd];rfl
  have g2:=rone_c
  have g3:=ratOf_c x.n (intC 1) h.n ((LimOk.digs (k:=1) (by decide)).mono (by decide)) (by rw[intC_z];decide)
  rw[intC_z]at g3
  repeat(first|refine wDB ?_|refine awp_seq_k fun K hK=>?_|refine wN fun bx=>?_|refine wC g1 ?_|refine wC g2 ?_|refine wC g3 ?_|(refine wH ?_;clear hK))
  refine rcA ?_
  exact Sub.refl _
 ·rw[if_neg hd]
  have h0:¬signZ x.d.z=0:=by
   unfold signZ
   rw[if_neg hd]
   split<;>decide
  have g3:=ratOf_c x.n x.d h.n h.d hd
  repeat(first|refine wDB ?_|refine awp_seq_k fun K hK=>?_|refine wN fun bx=>?_|refine wC g1 ?_|refine wC g3 ?_|(refine wH ?_;clear hK))
  refine rcA ?_
  exact Sub.refl _
theorem cbRWhole:Callable Tryz.prog 67:=fun _ _=>by kernel_rfl
theorem ratWhole_c (x:IntR) (h:IntOk 10000000 x):PCalls Tryz.prog 67 [.agg (intEs x)] (.agg (ratEs (ratC (x.z:Rat)))):=by
 refine pcalls_of_awp tyok cbRWhole Tryz.func67 rfl rfl ?_
 have g:=rput_c ⟨x,⟨false,[]⟩⟩ ⟨h,⟨fun _ h=>absurd h List.not_mem_nil,Nat.zero_le _⟩⟩
 have e:(⟨x,⟨false,[]⟩⟩:RatR).q=(x.z:Rat):=by
  unfold RatR.q
  have h0:(⟨false,[]⟩:IntR).z=0:=rfl
  simp only[h0,if_true]
  exact Rat.num_divInt_den (x.z:Rat)
 rw[e]at g
 have g2:PCalls Tryz.prog 81 [.agg [.bool x.neg,lims x.mag,.bool false,.nils]] (.agg (ratEs (ratC (x.z:Rat)))):=PCalls.sub g (.cons (subAgg (.cons (Sub.refl _) (.cons (Sub.refl _) (.cons (Sub.refl _) (.cons (Sub.nilsv _ _) .nil))))) .nil)
 repeat(first|refine wDB ?_|refine awp_seq_k fun K hK=>?_|refine wN fun bx=>?_|refine wC g2 ?_|(refine wH ?_;clear hK))
 refine rcA ?_
 exact Sub.refl _
def signQ (q:Rat):Int:=signZ q.num
theorem cbRSign:Callable Tryz.prog 69:=fun _ _=>by kernel_rfl
theorem ratSign_c (x:RatR) (h:RatOk 10000000 x):PCalls Tryz.prog 69 [.agg (ratEs x)] (.int .i64 (signQ x.q)):=by
 refine pcalls_of_awp tyok cbRSign Tryz.func69 rfl rfl ?_
 have g1:=rput_c x h
 have q:=ratR_qok h
 have g2:=sign1_c (intC x.q.num) (LimOk.mono (intC_ok q.n) (show 10000000≤100000000 by decide))
 rw[intC_z]at g2
 repeat(first|refine wDB ?_|refine awp_seq_k fun K hK=>?_|refine wN fun bx=>?_|refine wC g1 ?_|refine wC g2 ?_|(refine wH ?_;clear hK))
 refine r1 ?_
 exact Sub.refl _
theorem cbRNeg:Callable Tryz.prog 134:=fun _ _=>by kernel_rfl
theorem ratNeg_c (x:RatR) (h:RatOk 10000000 x):PCalls Tryz.prog 134 [.agg (ratEs x)] (.agg (ratEs (ratC (-x.q)))):=by
 refine pcalls_of_awp tyok cbRNeg Tryz.func134 rfl rfl ?_
 have g1:=rput_c x h
 have q:=ratR_qok h
 have g2:=neg1_c (intC x.q.num) (LimOk.mono (intC_ok q.n) (show 10000000≤100000000 by decide))
 rw[intC_z]at g2
 repeat(first|refine wKB ?_|refine awp_seq_k fun K hK=>?_|refine wN fun bx=>?_|refine wC g1 ?_|(refine wH ?_;clear hK))
 refine areg_soft mixed tyok [2] [] [0,1,2,3,4,5,6] (by decide +kernel) ?_
 repeat(first|refine wDB ?_|refine awp_seq_k fun K hK=>?_|refine wN fun bx=>?_|refine wC g2 ?_|(refine wH ?_;clear hK))
 refine rcA ?_
 exact Sub.refl _
theorem cbRAdd1:Callable Tryz.prog 82:=fun _ _=>by kernel_rfl
theorem ratCross_c (x y:RatR) (h:RatOk 10000000 x) (k:RatOk 10000000 y):PCalls Tryz.prog 82 [.agg (ratEs x),.agg (ratEs y)] (.agg (intEs (intC (x.n.z*y.d.z)))):=by
 refine pcalls_of_awp tyok cbRAdd1 Tryz.func82 rfl rfl ?_
 have g:=mul2_c x.n y.d h.n k.d
 repeat(first|refine wDB ?_|refine awp_seq_k fun K hK=>?_|refine wN fun bx=>?_|refine wC g ?_|(refine wH ?_;clear hK))
 refine rcA ?_
 exact Sub.refl _
theorem cbRAdd:Callable Tryz.prog 29:=fun _ _=>by kernel_rfl
theorem ratAdd_c (x y:RatR) (h:RatOk 1000000 x) (k:RatOk 1000000 y):PCalls Tryz.prog 29 [.agg (ratEs x),.agg (ratEs y)] (.agg (ratEs (ratC (x.q+y.q)))):=by
 refine pcalls_of_awp tyok cbRAdd Tryz.func29 rfl rfl ?_
 have g1:=rput_c x ⟨h.n.mono (by decide),h.d.mono (by decide)⟩
 have g2:=rput_c y ⟨k.n.mono (by decide),k.d.mono (by decide)⟩
 have qx:=ratR_qok h
 have qy:=ratR_qok k
 generalize x.q=a at g1 qx ⊢
 generalize y.q=b at g2 qy ⊢
 have g3:=ratCross_c (ratC a) (ratC b) (ratC_ok (qx.mono (by decide))) (ratC_ok (qy.mono (by decide)))
 have g4:=ratCross_c (ratC b) (ratC a) (ratC_ok (qy.mono (by decide))) (ratC_ok (qx.mono (by decide)))
 have ox:RatOk 10000000 (ratC a):=ratC_ok (qx.mono (by decide))
 have oy:RatOk 10000000 (ratC b):=ratC_ok (qy.mono (by decide))
 have g5:=mul2_c (ratC a).d (ratC b).d ox.d oy.d
 have z1:ZOk 2000000 (a.num*b.den):=ZOk.mul (k:=1000000) (m:=1000000) qx.n qy.dz
 have z2:ZOk 2000000 (b.num*a.den):=ZOk.mul (k:=1000000) (m:=1000000) qy.n qx.dz
 have z3:ZOk 2000000 ((a.den:Int)*b.den):=ZOk.mul (k:=1000000) (m:=1000000) qx.dz qy.dz
 have e1:(ratC a).n.z*(ratC b).d.z=a.num*b.den:=by simp only[ratC,intC_z]
 have e2:(ratC b).n.z*(ratC a).d.z=b.num*a.den:=by simp only[ratC,intC_z]
 have e3:(ratC a).d.z*(ratC b).d.z=(a.den:Int)*b.den:=by simp only[ratC,intC_z]
 rw[e1]at g3
 rw[e2]at g4
 rw[e3]at g5
 have g6:=add2_c (intC (a.num*b.den)) (intC (b.num*a.den)) (intC_ok (z1.mono (by decide))) (intC_ok (z2.mono (by decide)))
 rw[intC_z,intC_z]at g6
 have z4:=(z1.add1 z2).mono (show 2000000+1≤10000000 by decide)
 have hd:(a.den:Int)*b.den≠0:=Int.mul_ne_zero (by have:=a.den_nz;omega) (by have:=b.den_nz;omega)
 have g7:=ratOf_c (intC (a.num*b.den+b.num*a.den)) (intC ((a.den:Int)*b.den)) (intC_ok z4) (intC_ok (z3.mono (by decide))) (by rw[intC_z];exact hd)
 rw[intC_z,intC_z,rat_add]at g7
 repeat(first|refine wKB ?_|refine awp_seq_k fun K hK=>?_|refine wN fun bx=>?_|(refine wH ?_;clear hK))
 refine areg_soft mixed tyok [1,3] [] [0,1,2,3,4,5] (by decide +kernel) ?_
 repeat(first|refine wKB ?_|refine awp_seq_k fun K hK=>?_|refine wN fun bx=>?_|refine wC g1 ?_|refine wC g2 ?_|(refine wH ?_;clear hK))
 refine areg_soft mixed tyok [3,7,8,13,14] [(18,[])] [0,1,2,3,4,5,6,7,8,9,10,11,12,13,14,15,16,17,18,19,20] (by decide +kernel) ?_
 repeat(first|refine wDB ?_|refine awp_seq_k fun K hK=>?_|refine wN fun bx=>?_|refine wC g3 ?_|refine wC g4 ?_|refine wC g5 ?_|refine wC g6 ?_|refine wC g7 ?_|(refine wH ?_;clear hK))
 refine rcA ?_
 exact Sub.refl _
theorem cbRSub:Callable Tryz.prog 88:=fun _ _=>by kernel_rfl
theorem ratSub_c (x y:RatR) (h:RatOk 1000000 x) (k:RatOk 1000000 y):PCalls Tryz.prog 88 [.agg (ratEs x),.agg (ratEs y)] (.agg (ratEs (ratC (x.q-y.q)))):=by
 refine pcalls_of_awp tyok cbRSub Tryz.func88 rfl rfl ?_
 have g1:=ratNeg_c y ⟨k.n.mono (by decide),k.d.mono (by decide)⟩
 have qy:=ratR_qok k
 have g2:=ratAdd_c x (ratC (-y.q)) h (ratC_ok qy.neg)
 rw[ratC_q,←Rat.sub_eq_add_neg]at g2
 repeat(first|refine wKB ?_|refine awp_seq_k fun K hK=>?_|refine wN fun bx=>?_|(refine wH ?_;clear hK))
 refine areg_soft mixed tyok [2,3] [] [0,1,2,3,4] (by decide +kernel) ?_
 repeat(first|refine wDB ?_|refine awp_seq_k fun K hK=>?_|refine wN fun bx=>?_|refine wC g1 ?_|refine wC g2 ?_|(refine wH ?_;clear hK))
 refine rcA ?_
 exact Sub.refl _
theorem cbRMul:Callable Tryz.prog 30:=fun _ _=>by kernel_rfl
theorem ratMul_c (x y:RatR) (h:RatOk 1000000 x) (k:RatOk 1000000 y):PCalls Tryz.prog 30 [.agg (ratEs x),.agg (ratEs y)] (.agg (ratEs (ratC (x.q*y.q)))):=by
 refine pcalls_of_awp tyok cbRMul Tryz.func30 rfl rfl ?_
 have g1:=rput_c x ⟨h.n.mono (by decide),h.d.mono (by decide)⟩
 have g2:=rput_c y ⟨k.n.mono (by decide),k.d.mono (by decide)⟩
 have qx:=ratR_qok h
 have qy:=ratR_qok k
 generalize x.q=a at g1 qx ⊢
 generalize y.q=b at g2 qy ⊢
 have ox:RatOk 10000000 (ratC a):=ratC_ok (qx.mono (by decide))
 have oy:RatOk 10000000 (ratC b):=ratC_ok (qy.mono (by decide))
 have g5:=mul2_c (ratC a).d (ratC b).d ox.d oy.d
 have g3:=mul2_c (ratC a).n (ratC b).n ox.n oy.n
 have z1:ZOk 2000000 (a.num*b.num):=ZOk.mul (k:=1000000) (m:=1000000) qx.n qy.n
 have z3:ZOk 2000000 ((a.den:Int)*b.den):=ZOk.mul (k:=1000000) (m:=1000000) qx.dz qy.dz
 have e1:(ratC a).n.z*(ratC b).n.z=a.num*b.num:=by simp only[ratC,intC_z]
 have e3:(ratC a).d.z*(ratC b).d.z=(a.den:Int)*b.den:=by simp only[ratC,intC_z]
 rw[e1]at g3
 rw[e3]at g5
 have hd:(a.den:Int)*b.den≠0:=Int.mul_ne_zero (by have:=a.den_nz;omega) (by have:=b.den_nz;omega)
 have g7:=ratOf_c (intC (a.num*b.num)) (intC ((a.den:Int)*b.den)) (intC_ok (z1.mono (by decide))) (intC_ok (z3.mono (by decide))) (by rw[intC_z];exact hd)
 rw[intC_z,intC_z,rat_mul]at g7
 repeat(first|refine wKB ?_|refine awp_seq_k fun K hK=>?_|refine wN fun bx=>?_|(refine wH ?_;clear hK))
 refine areg_soft mixed tyok [1,3] [] [0,1,2,3,4,5] (by decide +kernel) ?_
 repeat(first|refine wKB ?_|refine awp_seq_k fun K hK=>?_|refine wN fun bx=>?_|refine wC g1 ?_|refine wC g2 ?_|(refine wH ?_;clear hK))
 refine areg_soft mixed tyok [4,9,10] [(14,[])] [0,1,2,3,4,5,6,7,8,9,10,11,12,13,14,15,16] (by decide +kernel) ?_
 repeat(first|refine wDB ?_|refine awp_seq_k fun K hK=>?_|refine wN fun bx=>?_|refine wC g3 ?_|refine wC g5 ?_|refine wC g7 ?_|(refine wH ?_;clear hK))
 refine rcA ?_
 exact Sub.refl _
end Go.Proofs.YtamgilppehibeaaGreatDoor
