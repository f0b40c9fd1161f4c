/-
  Layer 2 (times): cut, into, the product out of three, Mul.
-/
import Derived.Test.YtamgilppehibeaaGreatDoorNaM
import Derived.Test.YtamgilppehibeaaGreatDoorDc0
set_option maxRecDepth 100000
set_option maxHeartbeats 3200000
namespace Go.Proofs.YtamgilppehibeaaGreatDoor
open Go.Ab
theorem sl_drop {α:Type} [Inhabited α] (f:α→List AV) (sz:Nat) (l:List α) (h:Nat):Sub (.slice sz (l.length-h) (fun i=>f (l.getD (h+i) default)) .view) (sl f sz (l.drop h) .view):=by
 have e:(l.drop h).length=l.length-h:=by rw[List.length_drop]
 unfold sl
 rw[e]
 refine Sub.el fun i _=>?_
 rw[List.getD_eq_getElem?_getD,List.getD_eq_getElem?_getD,List.getElem?_drop]
theorem cbCut:Callable Tryz.prog 215:=fun _ _=>by kernel_rfl
theorem tcut_c (a:List Nat) (n:Nat) (_h:a.length≤1000000000) (_hn:n≤1000000000):PCalls Tryz.prog 215 [lims a,.int .i64 n] (.tuple [lims (a.take n),lims (a.drop n)]):=by
 refine pcalls_of_awp tyok cbCut Tryz.func215 rfl rfl ?_
 have hm:(if((a.length:Nat):Int)<(n:Int) then((a.length:Nat):Int) else(n:Int))=((min n a.length:Nat):Int):=by
  split<;>omega
 have ht:a.take n=a.take (min n a.length):=by
  rcases Nat.le_total n a.length with z|z
  ·rw[Nat.min_eq_left z]
  ·rw[Nat.min_eq_right z,List.take_length,List.take_of_length_le z]
 have hd:a.drop n=a.drop (min n a.length):=by
  rcases Nat.le_total n a.length with z|z
  ·rw[Nat.min_eq_left z]
  ·rw[Nat.min_eq_right z,List.drop_length,List.drop_of_length_le z]
 have hle:min n a.length≤a.length:=Nat.min_le_right _ _
 rw[ht,hd]
 generalize min n a.length=m at hm hle
 repeat(first|refine wK ?_|refine awp_seq_k fun K hK=>?_|refine wN fun bx=>?_|(refine wH ?_;clear hK))
 rw[hm]
 repeat(first|refine wDB ?_|refine awp_seq_k fun K hK=>?_|refine wN fun bx=>?_|(refine wH ?_;clear hK))
 refine r2 ?_ ?_
 ·exact sl_take limE 1 a hle
 ·exact sl_drop limE 1 a m
def IntoR (L S:Nat):Type:={ys:List Nat//ys.length=L∧(∀z∈ys,z<B32)∧valB B32 ys=S}
theorem into_step {Y Y' c P V A x old d e Q K B:Nat} (h1:Y+c*P=V+A*Q) (h2:Y'+old*P=Y+d*P) (h3:d+B*e=c+old+x) (hP:P=Q*K):Y'+e*(P*B)=V+(A+x*K)*Q:=by
 subst hP
 have:Y'+e*(Q*K*B)+old*(Q*K)=V+(A+x*K)*Q+old*(Q*K):=by grind
 omega
theorem cbInto:Callable Tryz.prog 216:=fun _ _=>by kernel_rfl
theorem into_c (g pt:Nat) (xs a:List Nat) (hx:LimOk 1000000000 xs) (ha:LimOk 1000000000 a) (hroom:pt+a.length≤xs.length) (hfit:valB B32 xs+valB B32 a*B32^pt<B32^xs.length):
  ACalls Tryz.prog 216 [.mslice g 0 xs.length xs.length,lims a,.int .i64 pt] [rowN .u32 g 164 xs] fun r H'=>∃p:IntoR xs.length (valB B32 xs+valB B32 a*B32^pt),r=.ret (.tuple [])∧H'=[rowN .u32 g 164 p.1]:=by
 refine acalls_of_awp tyok cbInto Tryz.func216 rfl rfl ?_
 have xl:=hx.len
 have al:=ha.len
 repeat(first|refine wD ?_|refine awp_seq_k fun K hK=>?_|refine wN fun bx=>?_|(refine wH ?_;clear hK))
 refine awp_loop0 (ι:={s:Nat×List Nat×Nat//pt+s.1≤xs.length∧s.2.1.length=xs.length∧(∀z∈s.2.1,z<B32)∧s.2.2≤1∧valB B32 s.2.1+s.2.2*B32^(pt+s.1)=valB B32 xs+valB B32 (a.take s.1)*B32^pt})
  (fun s=>[(0,.mslice g 0 xs.length xs.length),(1,lims a),(2,.int .i64 pt),(6,.int .u64 (s.1.2.2:Nat)),(7,.int .i64 (pt+s.1.1:Nat))])
  (fun s=>[rowN .u32 g 164 s.1.2.1]) (fun s=>xs.length-s.1.1) ⟨(0,xs,0),by simp only;omega,rfl,hx.lt,Nat.zero_le _,by simp[valB]⟩ wk ⟨0,rfl⟩ ?_
 rintro⟨⟨j,ys,c⟩,hj,hyl,hyb,hc,hw⟩
 simp only at hj hyl hyb hc hw ⊢
 have hsub:((pt+j:Nat):Int)-(pt:Int)=(j:Int):=by omega
 have hidx:(((pt+j:Nat):Int)-(pt:Int)).toNat=j:=by omega
 have hj0:0+(((pt+j:Nat):Int)).toNat=pt+j:=by omega
 have haj:=ha.getD j
 have hoj:=getD_lt (show 0<B32 by decide) hyb (pt+j)
 have hB:B32=4294967296:=rfl
 by_cases c1:pt+j<xs.length
 ·have c1':((pt+j:Nat):Int)<(xs.length:Int):=by omega
  have E0:IntKind.u64.wrap (((ys.getD (0+(((pt+j:Nat):Int)).toNat) 0:Nat)):Int)=(ys.getD (pt+j) 0:Nat):=by rw[hj0];exact w64 _ (by omega)
  have E1:IntKind.u64.wrap ((c:Int)+IntKind.u64.wrap (((ys.getD (0+(((pt+j:Nat):Int)).toNat) 0:Nat)):Int))=((c+ys.getD (pt+j) 0:Nat):Int):=by
   rw[E0,←Int.natCast_add]
   exact w64 _ (by omega)
  have next:∀q,q=c+ys.getD (pt+j) 0+a.getD j 0→∃s:{s:Nat×List Nat×Nat//pt+s.1≤xs.length∧s.2.1.length=xs.length∧(∀z∈s.2.1,z<B32)∧s.2.2≤1∧valB B32 s.2.1+s.2.2*B32^(pt+s.1)=valB B32 xs+valB B32 (a.take s.1)*B32^pt},s.1=(j+1,ys.set (pt+j) (q%B32),q/B32):=fun q hq=>by
   have hset:=val_set B32 ys (pt+j) (q%B32) (by omega)
   have hstep:=into_step hw hset (show q%B32+B32*(q/B32)=c+ys.getD (pt+j) 0+a.getD j 0 by rw[Nat.mod_add_div,hq]) (show B32^(pt+j)=B32^pt*B32^j by rw[Nat.pow_add])
   rw[←Nat.pow_succ,←val_take_succ]at hstep
   exact⟨⟨(j+1,ys.set (pt+j) (q%B32),q/B32),by simp only;omega,by rw[List.length_set];exact hyl,all_put hyb (Nat.mod_lt _ (by decide)),by simp only;rw[hB];omega,hstep⟩,rfl⟩
  by_cases c2:j<a.length
  ·have c2':((pt+j:Nat):Int)-(pt:Int)<(a.length:Int):=by omega
   obtain⟨q,hq⟩:∃q,q=c+ys.getD (pt+j) 0+a.getD j 0:=⟨_,rfl⟩
   have E2:IntKind.u64.wrap ((a.getD (((pt+j:Nat):Int)-(pt:Int)).toNat default:Nat):Int)=(a.getD j 0:Nat):=by rw[hidx];exact w64 _ (show a.getD j 0<_ by omega)
   have E3:IntKind.u64.wrap (IntKind.u64.wrap ((c:Int)+IntKind.u64.wrap (((ys.getD (0+(((pt+j:Nat):Int)).toNat) 0:Nat)):Int))+IntKind.u64.wrap ((a.getD (((pt+j:Nat):Int)-(pt:Int)).toNat default:Nat):Int))=(q:Nat):=by
    rw[E1,E2,←Int.natCast_add,←hq]
    exact w64 _ (by omega)
   obtain⟨s,hs⟩:=next q hq
   unfold rowN rowM
   repeat(first|refine wDB ?_|refine awp_seq_k fun K hK=>?_|refine wN fun bx=>?_|(refine wH ?_;clear hK))
   refine⟨s,?_,⟨0,?_⟩,by rw[hs];simp only;omega⟩
   ·rw[hs,E3,shr32]
    exact wk
   ·rw[hs,E3,w32,hj0]
    exact congrArg (fun e=>[e]) (rowN_set (by omega))
  have c2':¬((pt+j:Nat):Int)-(pt:Int)<(a.length:Int):=by omega
  have a0:a.getD j 0=0:=by rw[List.getD_eq_getElem?_getD,List.getElem?_eq_none (by omega)];rfl
  by_cases c3:c=0
  ·subst c3
   have c3':¬((0:Nat):Int)>0:=by omega
   rw[Nat.zero_mul,Nat.add_zero,List.take_of_length_le (by omega)]at hw
   unfold rowN rowM
   repeat(first|refine wDB ?_|refine awp_seq_k fun K hK=>?_|refine wN fun bx=>?_|(refine wH ?_;clear hK))
   exact fnQ_ret 0 rfl .nil (Sub.refl _) ⟨⟨ys,hyl,hyb,hw⟩,rfl,rfl⟩
  ·have c3':(c:Int)>0:=by omega
   obtain⟨q,hq⟩:∃q,q=c+ys.getD (pt+j) 0:=⟨_,rfl⟩
   rw[←hq]at E1
   obtain⟨s,hs⟩:=next q (by rw[a0];omega)
   unfold rowN rowM
   repeat(first|refine wDB ?_|refine awp_seq_k fun K hK=>?_|refine wN fun bx=>?_|(refine wH ?_;clear hK))
   refine⟨s,?_,⟨0,?_⟩,by rw[hs];simp only;omega⟩
   ·rw[hs,E1,shr32]
    exact wk
   ·rw[hs,E1,w32,hj0]
    exact congrArg (fun e=>[e]) (rowN_set (by omega))
 ·have c1':¬((pt+j:Nat):Int)<(xs.length:Int):=by omega
  have hjl:pt+j=xs.length:=by omega
  rw[hjl,List.take_of_length_le (by omega)]at hw
  have hc0:c=0:=by
   rcases Nat.eq_zero_or_pos c with h0|h0
   ·exact h0
   ·have:=Nat.mul_le_mul_right (B32^xs.length) h0
    omega
  rw[hc0,Nat.zero_mul,Nat.add_zero]at hw
  unfold rowN rowM
  repeat(first|refine wDB ?_|refine awp_seq_k fun K hK=>?_|refine wN fun bx=>?_|(refine wH ?_;clear hK))
  exact fnQ_ret 0 rfl .nil (Sub.refl _) ⟨⟨ys,hyl,hyb,hw⟩,rfl,rfl⟩
end Go.Proofs.YtamgilppehibeaaGreatDoor
namespace Go.Proofs.YtamgilppehibeaaGreatDoor
open Go.Ab
theorem kara_low (a0 a1 b0 b1:Nat):a0*b0≤(a0+a1)*(b0+b1)∧a1*b1≤(a0+a1)*(b0+b1)-a0*b0:=by
 have:(a0+a1)*(b0+b1)=a0*b0+a1*b1+(a0*b1+a1*b0):=by grind
 omega
theorem len_room {v n L:Nat} (hn:n≤L) (h:v*B32^n<B32^L):n+(digs B32 v).length≤L:=by
 have h1:B32^L=B32^(L-n)*B32^n:=by rw[←Nat.pow_add,Nat.sub_add_cancel hn]
 rw[h1]at h
 have:=(digs_len B32_two (n:=v) (k:=L-n)).2 (Nat.lt_of_mul_lt_mul_right h)
 omega
theorem cbKara:Callable Tryz.prog 193:=fun _ _=>by kernel_rfl
theorem kara_c (c:Int) (a b:List Nat) (n:Nat) (h:LimOk 100000000 a) (k:LimOk 100000000 b) (hn:n=(max a.length b.length+1)/2) (hbig:4≤max a.length b.length)
  (ht:∀x y:List Nat,LimOk (n+1) x→LimOk (n+1) y→PCalls Tryz.prog 168 [.int .i64 c,lims x,lims y] (lims (digs B32 (valB B32 x*valB B32 y)))):
  PCalls Tryz.prog 193 [lims a,lims b,.func (.func 168) [.int .i64 c] []] (lims (digs B32 (valB B32 a*valB B32 b))):=by
 refine pcalls_of_awp tyok cbKara Tryz.func193 rfl rfl ?_
 have al:=h.len
 have bl:=k.len
 have hmx:(if((b.length:Nat):Int)>((a.length:Nat):Int) then((b.length:Nat):Int) else((a.length:Nat):Int))=((max a.length b.length:Nat):Int):=by
  split<;>omega
 have hna:a.length≤2*n:=by omega
 have hnb:b.length≤2*n:=by omega
 have hn3:2*n≤a.length+b.length+2:=by omega
 have hn2:2≤n:=by omega
 have hnn:n≤200000000:=by omega
 have hdiv:(((max a.length b.length:Nat):Int)+1)/2=(n:Int):=by omega
 have mx:max a.length b.length≤100000000:=by omega
 generalize max a.length b.length=M at hmx hn hbig hdiv mx
 have c1:=tcut_c a n (by omega) (by omega)
 have c2:=tcut_c b n (by omega) (by omega)
 have ea:=val_take_drop B32 a (min n a.length) (Nat.min_le_right _ _)
 have va:valB B32 a=valB B32 (a.take n)+B32^n*valB B32 (a.drop n):=by
  rcases Nat.le_total n a.length with z|z
  ·exact val_take_drop B32 a n z
  ·rw[List.take_of_length_le z,List.drop_of_length_le z]
   simp[valB]
 have vb:valB B32 b=valB B32 (b.take n)+B32^n*valB B32 (b.drop n):=by
  rcases Nat.le_total n b.length with z|z
  ·exact val_take_drop B32 b n z
  ·rw[List.take_of_length_le z,List.drop_of_length_le z]
   simp[valB]
 clear ea
 have l0:LimOk n (a.take n):=⟨all_take h.lt n,by rw[List.length_take];omega⟩
 have l1:LimOk n (a.drop n):=⟨all_drop h.lt n,by rw[List.length_drop];omega⟩
 have m0:LimOk n (b.take n):=⟨all_take k.lt n,by rw[List.length_take];omega⟩
 have m1:LimOk n (b.drop n):=⟨all_drop k.lt n,by rw[List.length_drop];omega⟩
 have htot:valB B32 a*valB B32 b<B32^(a.length+b.length+2):=by
  have:=Nat.mul_lt_mul'' (val_lt h.lt) (val_lt k.lt)
  rw[←Nat.pow_add]at this
  exact Nat.lt_of_lt_of_le this (b32_le (by omega))
 have hsum:∀x y:Nat,x<B32^n→y<B32^n→x+y<B32^(n+1):=fun x y hx hy=>by
  rw[Nat.pow_succ]
  have:B32^n*2≤B32^n*B32:=Nat.mul_le_mul_left _ (by decide)
  omega
 have t1:=ht _ _ (l0.mono (show n≤n+1 by omega)) (m0.mono (show n≤n+1 by omega))
 have t2:=ht _ _ (l1.mono (show n≤n+1 by omega)) (m1.mono (show n≤n+1 by omega))
 have s1:=add1_c _ _ (l0.mono (show n≤100000000 by omega)) (l1.mono (show n≤100000000 by omega))
 have s2:=add1_c _ _ (m0.mono (show n≤100000000 by omega)) (m1.mono (show n≤100000000 by omega))
 have b0:=l0.val
 have b1:=l1.val
 have b2:=m0.val
 have b3:=m1.val
 have t3:=ht _ _ (LimOk.digs (hsum _ _ b0 b1)) (LimOk.digs (hsum _ _ b2 b3))
 rw[val_digs B32_two,val_digs B32_two]at t3
 obtain⟨k1,k2⟩:=kara_low (valB B32 (a.take n)) (valB B32 (a.drop n)) (valB B32 (b.take n)) (valB B32 (b.drop n))
 have hkar:=kara (valB B32 (a.take n)) (valB B32 (a.drop n)) (valB B32 (b.take n)) (valB B32 (b.drop n)) (B32^n) _ _ ((valB B32 (a.take n)+valB B32 (a.drop n))*(valB B32 (b.take n)+valB B32 (b.drop n))-valB B32 (a.take n)*valB B32 (b.take n)-valB B32 (a.drop n)*valB B32 (b.drop n)) rfl rfl (by omega)
 rw[←va,←vb]at hkar
 have big:∀x y:Nat,x<B32^n→y<B32^n→LimOk 1000000000 (digs B32 (x*y)):=fun x y hx hy=>by
  have:=Nat.mul_lt_mul'' hx hy
  rw[←Nat.pow_add]at this
  exact(LimOk.digs this).mono (by omega)
 have bigm:LimOk 1000000000 (digs B32 ((valB B32 (a.take n)+valB B32 (a.drop n))*(valB B32 (b.take n)+valB B32 (b.drop n)))):=by
  have:=Nat.mul_lt_mul'' (hsum _ _ b0 b1) (hsum _ _ b2 b3)
  rw[←Nat.pow_add]at this
  exact(LimOk.digs this).mono (by omega)
 have o1:=big _ _ b0 b2
 have o2:=big _ _ b1 b3
 generalize valB B32 (a.take n)*valB B32 (b.take n)=low at*
 generalize valB B32 (a.drop n)*valB B32 (b.drop n)=high at*
 generalize (valB B32 (a.take n)+valB B32 (a.drop n))*(valB B32 (b.take n)+valB B32 (b.drop n))=mid at*
 have u1:=sub1_c _ _ bigm o1 (by rw[val_digs B32_two,val_digs B32_two];exact k1)
 rw[val_digs B32_two,val_digs B32_two]at u1
 have hml:(digs B32 (mid-low)).length≤1000000000:=by
  refine(digs_len B32_two).2 (Nat.lt_of_le_of_lt (Nat.sub_le _ _) ?_)
  have:=bigm.val
  rw[val_digs B32_two]at this
  exact this
 have u2:=sub1_c _ _ ⟨digs_lt B32_two _,hml⟩ o2 (by rw[val_digs B32_two,val_digs B32_two];exact k2)
 rw[val_digs B32_two,val_digs B32_two]at u2
 generalize mid-low-high=md at hkar u2
 generalize hS:valB B32 a*valB B32 b=S at hkar htot
 rw[show high*(B32^n*B32^n)=high*B32^(2*n) by rw[←Nat.pow_add];congr 2;omega]at hkar
 have f1:low<B32^(a.length+b.length+2):=by omega
 have f2:low+md*B32^n<B32^(a.length+b.length+2):=by omega
 have f3:low+md*B32^n+high*B32^(2*n)<B32^(a.length+b.length+2):=by omega
 have q1:=len_room (v:=low) (n:=0) (L:=a.length+b.length+2) (Nat.zero_le _) (by rw[Nat.pow_zero,Nat.mul_one];exact f1)
 have q2:=len_room (v:=md) (n:=n) (L:=a.length+b.length+2) (by omega) (by omega)
 have q3:=len_room (v:=high) (n:=2*n) (L:=a.length+b.length+2) (by omega) (by omega)
 repeat(first|refine wK ?_|refine awp_seq_k fun K hK=>?_|refine wN fun bx=>?_|(refine wH ?_;clear hK))
 rw[hmx]
 repeat(first|refine wDB ?_|refine awp_seq_k fun K hK=>?_|refine wN fun bx=>?_|refine wC c1 ?_|refine wC c2 ?_|refine wC t1 ?_|refine wC t2 ?_|refine wC s1 ?_|refine wC s2 ?_|refine wC t3 ?_|refine wC u1 ?_|refine wC u2 ?_|(refine wH ?_;clear hK))
 rw[hdiv]
 repeat(first|refine wDB ?_|refine awp_seq_k fun K hK=>?_|refine wN fun bx=>?_|refine wC c1 ?_|refine wC c2 ?_|refine wC t1 ?_|refine wC t2 ?_|refine wC s1 ?_|refine wC s2 ?_|refine wC t3 ?_|refine wC u1 ?_|refine wC u2 ?_|(refine wH ?_;clear hK))
 refine qmakeN tyok (m:=a.length+b.length+2) (k:=.u32) (fun g=>?_) ?_
 rotate_left
 ·simp only
  omega
 have zl:(List.replicate (a.length+b.length+2) 0).length=a.length+b.length+2:=List.length_replicate
 have zo:LimOk 1000000000 (List.replicate (a.length+b.length+2) 0):=⟨all_zero (by decide) _,by rw[zl];omega⟩
 have i1:=into_c g 0 (List.replicate (a.length+b.length+2) 0) (digs B32 low) zo ⟨digs_lt B32_two _,by omega⟩ (by rw[zl];exact q1) (by rw[zl,val_zeros,val_digs B32_two];simpa using f1)
 rw[val_zeros,val_digs B32_two,zl,Nat.pow_zero,Nat.mul_one,Nat.zero_add]at i1
 repeat(first|refine wDB ?_|refine awp_seq_k fun K hK=>?_|refine wN fun bx=>?_|(refine wH ?_;clear hK))
 refine qcallXV (ι:=IntoR (a.length+b.length+2) low) (G:=[]) (Hc:=[rowN .u32 g 164 (List.replicate (a.length+b.length+2) 0)]) (u:=fun _=>.tuple []) (Hc':=fun w=>[rowN .u32 g 164 w.1]) (H2:=fun w=>[rowN .u32 g 164 w.1]) i1 fun w=>?_
 obtain⟨x1,xl1,xb1,xv1⟩:=w
 simp only
 have i2:=into_c g n x1 (digs B32 md) ⟨xb1,by omega⟩ ⟨digs_lt B32_two _,by omega⟩ (by rw[xl1];exact q2) (by rw[xl1,xv1,val_digs B32_two];exact f2)
 rw[xv1,val_digs B32_two,xl1]at i2
 repeat(first|refine wDB ?_|refine awp_seq_k fun K hK=>?_|refine wN fun bx=>?_|(refine wH ?_;clear hK))
 refine qcallXV (ι:=IntoR (a.length+b.length+2) (low+md*B32^n)) (G:=[]) (Hc:=[rowN .u32 g 164 x1]) (u:=fun _=>.tuple []) (Hc':=fun w=>[rowN .u32 g 164 w.1]) (H2:=fun w=>[rowN .u32 g 164 w.1]) i2 fun w=>?_
 obtain⟨x2,xl2,xb2,xv2⟩:=w
 simp only
 have i3:=into_c g (2*n) x2 (digs B32 high) ⟨xb2,by omega⟩ ⟨digs_lt B32_two _,by omega⟩ (by rw[xl2];exact q3) (by rw[xl2,xv2,val_digs B32_two];exact f3)
 rw[xv2,val_digs B32_two,xl2,show((2*n:Nat):Int)=2*(n:Int) by omega]at i3
 repeat(first|refine wDB ?_|refine awp_seq_k fun K hK=>?_|refine wN fun bx=>?_|(refine wH ?_;clear hK))
 refine qcallXV (ι:=IntoR (a.length+b.length+2) (low+md*B32^n+high*B32^(2*n))) (G:=[]) (Hc:=[rowN .u32 g 164 x2]) (u:=fun _=>.tuple []) (Hc':=fun w=>[rowN .u32 g 164 w.1]) (H2:=fun w=>[rowN .u32 g 164 w.1]) i3 fun w=>?_
 obtain⟨x3,xl3,xb3,xv3⟩:=w
 simp only
 have gt:=trimV_c x3 ⟨xb3,by omega⟩
 rw[xv3,hkar,←hS]at gt
 (((repeat(first|refine wT ?_|refine wN fun bx=>?_)));(try refine wP ?_);repeat(refine wH ?_;clear hK))
 unfold rowN
 refine awp_freezeM [] (s:=15) rfl (rowN_all xl3) ?_
 repeat(first|refine wDB ?_|refine awp_seq_k fun K hK=>?_|refine wN fun bx=>?_|refine wC gt ?_|(refine wH ?_;clear hK))
 refine r1 ?_
 exact Sub.of_eq (by rw[hS])
theorem cbTTimes:Callable Tryz.prog 168:=fun _ _=>by kernel_rfl
theorem ttimes_c (c:Nat) (hc4:4≤c) (hc:c≤1000000):∀(M:Nat),M≤10000000→∀a b:List Nat,LimOk M a→LimOk M b→PCalls Tryz.prog 168 [.int .i64 c,lims a,lims b] (lims (digs B32 (valB B32 a*valB B32 b))):=by
 intro M
 induction M using Nat.strongRecOn with
 |_ M ih=>
  intro hM a b h k
  refine pcalls_of_awp tyok cbTTimes Tryz.func168 rfl rfl ?_
  have al:=h.len
  have bl:=k.len
  have hmn:(if((b.length:Nat):Int)<((a.length:Nat):Int) then((b.length:Nat):Int) else((a.length:Nat):Int))=((min a.length b.length:Nat):Int):=by
   split<;>omega
  by_cases hs:min a.length b.length<c
  ·have hs':((min a.length b.length:Nat):Int)<(c:Int):=by omega
   have g:=trows_c a b (h.mono (by omega)) (k.mono (by omega))
   rw[←hmn]at hs'
   repeat(first|refine wDB ?_|refine awp_seq_k fun K hK=>?_|refine wN fun bx=>?_|refine wC g ?_|(refine wH ?_;clear hK))
   refine r1 ?_
   exact Sub.refl _
  ·have hs':¬((min a.length b.length:Nat):Int)<(c:Int):=by omega
   have g:=kara_c c a b _ (h.mono (by omega)) (k.mono (by omega)) rfl (by omega) (ih ((max a.length b.length+1)/2+1) (by omega) (by omega))
   rw[←hmn]at hs'
   repeat(first|refine wDB ?_|refine awp_seq_k fun K hK=>?_|refine wN fun bx=>?_|refine wC g ?_|(refine wH ?_;clear hK))
   refine r1 ?_
   exact Sub.refl _
theorem cbMul1:Callable Tryz.prog 123:=fun _ _=>by kernel_rfl
theorem mul1_c (a b:List Nat) (h:LimOk 10000000 a) (k:LimOk 10000000 b):PCalls Tryz.prog 123 [lims a,lims b] (lims (digs B32 (valB B32 a*valB B32 b))):=by
 refine pcalls_of_awp tyok cbMul1 Tryz.func123 rfl rfl ?_
 have g1:=trimV_c a (h.mono (by decide))
 have g2:=trimV_c b (k.mono (by decide))
 have g3:=ttimes_c 24 (by decide) (by decide) 10000000 (Nat.le_refl _) _ _ h.trim k.trim
 rw[val_digs B32_two,val_digs B32_two]at g3
 repeat(first|refine wDB ?_|refine awp_seq_k fun K hK=>?_|refine wN fun bx=>?_|refine wC g1 ?_|refine wC g2 ?_|refine wC g3 ?_|(refine wH ?_;clear hK))
 refine r1 ?_
 exact Sub.refl _
end Go.Proofs.YtamgilppehibeaaGreatDoor
