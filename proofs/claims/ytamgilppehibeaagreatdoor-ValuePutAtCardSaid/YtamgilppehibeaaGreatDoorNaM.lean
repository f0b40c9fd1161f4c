/-
  Limbs as data; what a walk meets of words of 32 and 64 bits.
-/
import Derived.Test.YtamgilppehibeaaGreatDoorTy
import Derived.Test.YtamgilppehibeaaGreatDoorAbD
import Derived.Test.YtamgilppehibeaaGreatDoorBnM
set_option maxRecDepth 100000
set_option maxHeartbeats 3200000
namespace Go.Proofs.YtamgilppehibeaaGreatDoor
open Go.Ab
def limE (x:Nat):List AV:=numE .u32 x
def intEs (x:IntR):List AV:=[.bool x.neg,sl limE 1 x.mag .view]
def ratEs (x:RatR):List AV:=[.bool x.n.neg,sl limE 1 x.n.mag .view,.bool x.d.neg,sl limE 1 x.d.mag .view]
structure LimOk (k:Nat) (a:List Nat):Prop where
 lt:∀x∈a,x<B32
 len:a.length≤k
structure RatOk (k:Nat) (x:RatR):Prop where
 n:LimOk k x.n.mag
 d:LimOk k x.d.mag
abbrev lims (a:List Nat):AV:=sl limE 1 a .view
theorem wu64 (n:Int):IntKind.u64.wrap n=n%18446744073709551616:=by simp[IntKind.wrap,IntKind.bits,IntKind.signed]
theorem wu32 (n:Int):IntKind.u32.wrap n=n%4294967296:=by simp[IntKind.wrap,IntKind.bits,IntKind.signed]
theorem w64 (n:Nat) (h:n<18446744073709551616):IntKind.u64.wrap (n:Int)=n:=by
 rw[wu64]
 omega
theorem w32 (n:Nat):IntKind.u32.wrap (n:Int)=((n%B32:Nat):Int):=by
 rw[wu32]
 unfold B32
 omega
theorem shr32 (n:Nat):(n:Int).fdiv (2^(min ((32:Int)).toNat IntKind.u64.bits))=((n/B32:Nat):Int):=by
 rw[show(2:Int)^(min ((32:Int)).toNat IntKind.u64.bits)=4294967296 from rfl,Int.fdiv_eq_ediv_of_nonneg _ (by decide)]
 unfold B32
 omega
theorem LimOk.take {k:Nat} {a:List Nat} (h:LimOk k a) (m:Nat):LimOk k (a.take m):=⟨all_take h.lt m,by have:=h.len;rw[List.length_take];omega⟩
theorem LimOk.drop {k:Nat} {a:List Nat} (h:LimOk k a) (m:Nat):LimOk k (a.drop m):=⟨all_drop h.lt m,by have:=h.len;rw[List.length_drop];omega⟩
theorem LimOk.mono {k m:Nat} {a:List Nat} (h:LimOk k a) (hk:k≤m):LimOk m a:=⟨h.lt,Nat.le_trans h.len hk⟩
theorem LimOk.getD {k:Nat} {a:List Nat} (h:LimOk k a) (i:Nat):a.getD i 0<B32:=getD_lt (by decide) h.lt i
theorem LimOk.val {k:Nat} {a:List Nat} (h:LimOk k a):valB B32 a<B32^k:=Nat.lt_of_lt_of_le (val_lt h.lt) (Nat.pow_le_pow_right (by decide) h.len)
theorem LimOk.digs {k n:Nat} (h:n<B32^k):LimOk k (digs B32 n):=⟨digs_lt B32_two n,(digs_len B32_two).2 h⟩
theorem LimOk.trim {k:Nat} {a:List Nat} (h:LimOk k a):LimOk k (Go.Ab.digs B32 (valB B32 a)):=.digs h.val
theorem sl_take {α:Type} [Inhabited α] (f:α→List AV) (sz:Nat) (l:List α) {h:Nat} (hh:h≤l.length):Sub (.slice sz h (fun i=>f (l.getD i default)) .view) (sl f sz (l.take h) .view):=by
 have e:(l.take h).length=h:=by rw[List.length_take];omega
 unfold sl
 rw[e]
 refine Sub.el fun i hi=>?_
 rw[List.getD_eq_getElem?_getD,List.getElem?_take,if_pos hi,←List.getD_eq_getElem?_getD]
theorem subVec {M M':Nat} {el el':Nat→AV} (hM:M=M') (h:∀j,j<M→el j=el' j):Sub (.vec M el) (.vec M' el'):=by
 subst hM
 intro st w c hr
 cases hr with
 |vec _ _ cs hl hcr hone=>
  exact .vec M el' cs hl (fun j x hx=>by
   have hj:j<cs.length:=(List.getElem?_eq_some_iff.1 hx).1
   rw[←h j (by omega)]
   exact hcr j x hx) hone
theorem val_put (B:Nat) {xs:List Nat} {i d:Nat} (h:i<xs.length):valB B ((xs.set i d).take (i+1))=valB B (xs.take i)+d*B^i:=by
 rw[val_take_succ]
 congr 2
 ·rw[List.take_set_of_le (Nat.le_refl i)]
 ·rw[List.getD_eq_getElem?_getD,List.getElem?_set_self h]
  rfl
theorem all_put {B:Nat} {xs:List Nat} {i d:Nat} (h:∀z∈xs,z<B) (hd:d<B):∀z∈xs.set i d,z<B:=fun z hz=>by
 rcases List.mem_or_eq_of_mem_set hz with hz|rfl
 ·exact h z hz
 ·exact hd
theorem all_zero {B:Nat} (hB:0<B) (m:Nat):∀z∈List.replicate m 0,z<B:=fun z hz=>by rw[(List.mem_replicate.1 hz).2];exact hB
theorem rowN_all {g n:Nat} {xs:List Nat} (h:xs.length=n):SubH g xs.length (fun j=>.int .u32 (xs.getD j 0:Nat)) (.mslice g 0 n n) (lims xs):=by
 have:=rowN_view (k:=.u32) (g:=g) (off:=0) (xs:=xs) (n:=n) (cap:=n) (by omega) (Nat.le_refl _)
 rw[List.drop_zero,List.take_of_length_le (by omega)]at this
 exact this
def cmpN (x y:Nat):Int:=if x<y then -1 else if y<x then 1 else 0
end Go.Proofs.YtamgilppehibeaaGreatDoor
namespace Go.Proofs.YtamgilppehibeaaGreatDoor
open Go.Ab
theorem cbShort:Callable Tryz.prog 159:=fun _ _=>by kernel_rfl
theorem short_c (a:List Nat) (h:LimOk 1000000000 a):PCalls Tryz.prog 159 [lims a] (lims (digs B32 (valB B32 a))):=by
 refine pcalls_of_awp tyok cbShort Tryz.func159 rfl rfl ?_
 have hlen:=h.len
 repeat(first|refine wD ?_|refine awp_seq_k fun K hK=>?_|refine wN fun bx=>?_|(refine wH ?_;clear hK))
 refine awp_loop0 (ι:={m:Nat//m≤a.length∧valB B32 (a.take m)=valB B32 a}) (fun m=>[(0,lims (a.take m.1))]) (fun _=>[]) (fun m=>m.1) ⟨a.length,Nat.le_refl _,by rw[List.take_length]⟩ ⟨⟨_,rfl,Sub.of_eq (by rw[List.take_length])⟩,True.intro⟩ dp ?_
 rintro⟨m,hm,hv⟩
 simp only at hm hv ⊢
 have hl:(a.take m).length=m:=by rw[List.length_take];omega
 cases m with
 |zero=>
  have e:=trim_done B32_two h.lt hm hv (.inl rfl)
  generalize a.take 0=b at hl e ⊢
  have h0:¬(b.length:Int)>0:=by omega
  repeat(first|refine wDB ?_|refine awp_seq_k fun K hK=>?_|refine wN fun bx=>?_|(refine wH ?_;clear hK))
  refine r1 ?_
  exact Sub.of_eq (by rw[e])
 |succ k=>
  have hg:(a.take (k+1)).getD k 0=a.getD k 0:=by rw[List.getD_eq_getElem?_getD,List.getElem?_take,if_pos (Nat.lt_succ_self k),←List.getD_eq_getElem?_getD]
  have ht:(a.take (k+1)).take k=a.take k:=by rw[List.take_take,Nat.min_eq_left (Nat.le_succ k)]
  have hd:=trim_done B32_two h.lt hm hv
  have hs:=trim_step (B:=B32) (m:=k) (l:=a) (V:=valB B32 a)
  generalize a.take (k+1)=b at hl hg ht hd hs hv ⊢
  have h0:(b.length:Int)>0:=by omega
  have hi:((b.length:Int)-1).toNat=k:=by omega
  have hgi:b.getD (((b.length:Int)-1)).toNat default=a.getD k 0:=by rw[hi];exact hg
  by_cases hz:a.getD k 0=0
  ·have hz':((b.getD (((b.length:Int)-1)).toNat default:Nat):Int)=0:=by rw[hgi,hz];rfl
   repeat(first|refine wDB ?_|refine awp_seq_k fun K hK=>?_|refine wN fun bx=>?_|(refine wH ?_;clear hK))
   exact⟨⟨k,by omega,hs hz hv⟩,⟨⟨_,rfl,(sl_take limE 1 b (by omega)).trans (Sub.of_eq (by rw[hi,ht]))⟩,True.intro⟩,dp,Nat.lt_succ_self k⟩
  ·have hz':¬((b.getD (((b.length:Int)-1)).toNat default:Nat):Int)=0:=by rw[hgi];omega
   have e:=hd (.inr hz)
   repeat(first|refine wDB ?_|refine awp_seq_k fun K hK=>?_|refine wN fun bx=>?_|(refine wH ?_;clear hK))
   refine r1 ?_
   exact Sub.of_eq (by rw[e])
theorem cbTrim:Callable Tryz.prog 137:=fun _ _=>by kernel_rfl
theorem trim_c (a:List Nat) (h:LimOk 1000000000 a):ACalls Tryz.prog 137 [lims a] [] fun r H'=>∃g,r=.ret (.mslice g 0 (digs B32 (valB B32 a)).length (digs B32 (valB B32 a)).length)∧H'=[rowN .u32 g 164 (digs B32 (valB B32 a))]:=by
 refine acalls_of_awp tyok cbTrim Tryz.func137 rfl rfl ?_
 have hs:=short_c a h
 have ok:=h.trim
 have ol:=ok.len
 generalize digs B32 (valB B32 a)=d at hs ol ⊢
 repeat(first|refine wDB ?_|refine awp_seq_k fun K hK=>?_|refine wN fun bx=>?_|refine wC hs ?_|(refine wH ?_;clear hK))
 refine qmake tyok (m:=d.length) (fun g=>?_) ?_
 rotate_left
 ·simp only
  omega
 repeat(first|refine wDB ?_|refine awp_seq_k fun K hK=>?_|refine wN fun bx=>?_|(refine wH ?_;clear hK))
 refine qcopyM tyok ?_ rfl ?_
 rotate_left
 ·show 0+d.length≤d.length*1
  omega
 (((repeat(first|refine wT ?_|refine wN fun bx=>?_)));(try refine wP ?_);repeat(refine wH ?_;clear hK))
 refine awp_boxSub [] (v':=.vec d.length fun j=>.int .u32 (d.getD j 0:Nat)) (subVec (Nat.mul_one _) fun j hj=>?_) ?_
 ·rw[if_pos ⟨Nat.zero_le _,by simpa using hj⟩]
  rfl
 repeat(first|refine wDB ?_|refine awp_seq_k fun K hK=>?_|refine wN fun bx=>?_|(refine wH ?_;clear hK))
 exact fnQ_ret 0 rfl (.tmp rfl .nil) (Sub.refl _) ⟨g,rfl,rfl⟩
theorem trimV_c (a:List Nat) (h:LimOk 1000000000 a):PCalls Tryz.prog 137 [lims a] (lims (digs B32 (valB B32 a))):=by
 refine ACalls.frozen (trim_c a h) fun g=>?_
 have:=rowN_view (k:=.u32) (g:=g) (off:=0) (xs:=digs B32 (valB B32 a)) (n:=(digs B32 (valB B32 a)).length) (by omega) (Nat.le_refl _)
 rw[List.drop_zero,List.take_length]at this
 exact this
theorem cbNCmp:Callable Tryz.prog 171:=fun _ _=>by kernel_rfl
theorem ncmp_c (a b:List Nat) (h:LimOk 1000000000 a) (k:LimOk 1000000000 b):PCalls Tryz.prog 171 [lims a,lims b] (.int .i64 (cmpN (valB B32 a) (valB B32 b))):=by
 refine pcalls_of_awp tyok cbNCmp Tryz.func171 rfl rfl ?_
 have s1:=short_c a h
 have s2:=short_c b k
 have o1:=h.trim
 have o2:=k.trim
 have l1:=o1.len
 have l2:=o2.len
 have v1:=val_digs B32_two (valB B32 a)
 have v2:=val_digs B32_two (valB B32 b)
 have q1:=lt_of_len (B:=B32) (a:=valB B32 a) (b:=valB B32 b) B32_two
 have q2:=lt_of_len (B:=B32) (a:=valB B32 b) (b:=valB B32 a) B32_two
 generalize digs B32 (valB B32 a)=d at s1 o1 l1 v1 q1 q2
 generalize digs B32 (valB B32 b)=e at s2 o2 l2 v2 q1 q2
 generalize valB B32 a=x at v1 q1 q2 ⊢
 generalize valB B32 b=y at v2 q1 q2 ⊢
 by_cases c1:d.length<e.length
 ·have c1':(d.length:Int)<e.length:=by omega
  have hr:cmpN x y= -1:=by unfold cmpN;rw[if_pos (q1 c1)]
  repeat(first|refine wDB ?_|refine awp_seq_k fun K hK=>?_|refine wN fun bx=>?_|refine wC s1 ?_|refine wC s2 ?_|(refine wH ?_;clear hK))
  refine r1 ?_
  exact Sub.of_eq (by rw[hr])
 have c1':¬(d.length:Int)<e.length:=by omega
 by_cases c2:e.length<d.length
 ·have c2':(d.length:Int)>e.length:=by omega
  have hr:cmpN x y=1:=by unfold cmpN;have:=q2 c2;rw[if_neg (by omega),if_pos this]
  repeat(first|refine wDB ?_|refine awp_seq_k fun K hK=>?_|refine wN fun bx=>?_|refine wC s1 ?_|refine wC s2 ?_|(refine wH ?_;clear hK))
  refine r1 ?_
  exact Sub.of_eq (by rw[hr])
 have c2':¬(d.length:Int)>e.length:=by omega
 have hle:d.length=e.length:=by omega
 repeat(first|refine wDB ?_|refine awp_seq_k fun K hK=>?_|refine wN fun bx=>?_|refine wC s1 ?_|refine wC s2 ?_|(refine wH ?_;clear hK))
 refine awp_loop0 (ι:={i:Nat//i≤d.length∧d.drop (d.length-i)=e.drop (d.length-i)}) (fun i=>[(0,lims d),(1,lims e),(24,.int .i64 d.length),(25,.int .i64 i.1)]) (fun _=>[]) (fun i=>d.length-i.1)
  ⟨0,Nat.zero_le _,by rw[Nat.sub_zero,List.drop_eq_nil_of_le (Nat.le_refl _),List.drop_eq_nil_of_le (by omega)]⟩ wk dp ?_
 rintro⟨i,hi,hd⟩
 simp only at hi hd ⊢
 by_cases hlt:i<d.length
 ·have hlt':(i:Int)<d.length:=by omega
  have hk:(((d.length:Int)-1-i)).toNat=d.length-1-i:=by omega
  have hdd:d.drop (d.length-1-i+1)=e.drop (d.length-1-i+1):=by rw[show d.length-1-i+1=d.length-i by omega];exact hd
  have g1:d.getD (((d.length:Int)-1-i)).toNat default=d.getD (d.length-1-i) 0:=by rw[hk];rfl
  have g2:e.getD (((d.length:Int)-1-i)).toNat default=e.getD (d.length-1-i) 0:=by rw[hk];rfl
  by_cases p1:d.getD (d.length-1-i) 0<e.getD (d.length-1-i) 0
  ·have p1':((d.getD (((d.length:Int)-1-i)).toNat default:Nat):Int)<(e.getD (((d.length:Int)-1-i)).toNat default:Nat):=by rw[g1,g2];omega
   have:=val_lt_at o1.lt hle (by omega) hdd p1
   have hr:cmpN x y= -1:=by unfold cmpN;rw[if_pos (by omega)]
   repeat(first|refine wDB ?_|refine awp_seq_k fun K hK=>?_|refine wN fun bx=>?_|(refine wH ?_;clear hK))
   refine r1 ?_
   exact Sub.of_eq (by rw[hr])
  have p1':¬((d.getD (((d.length:Int)-1-i)).toNat default:Nat):Int)<(e.getD (((d.length:Int)-1-i)).toNat default:Nat):=by rw[g1,g2];omega
  by_cases p2:e.getD (d.length-1-i) 0<d.getD (d.length-1-i) 0
  ·have p2':((d.getD (((d.length:Int)-1-i)).toNat default:Nat):Int)>(e.getD (((d.length:Int)-1-i)).toNat default:Nat):=by rw[g1,g2];omega
   have:=val_lt_at o2.lt hle.symm (by omega) hdd.symm p2
   have hr:cmpN x y=1:=by unfold cmpN;rw[if_neg (by omega),if_pos (by omega)]
   repeat(first|refine wDB ?_|refine awp_seq_k fun K hK=>?_|refine wN fun bx=>?_|(refine wH ?_;clear hK))
   refine r1 ?_
   exact Sub.of_eq (by rw[hr])
  have p2':¬((d.getD (((d.length:Int)-1-i)).toNat default:Nat):Int)>(e.getD (((d.length:Int)-1-i)).toNat default:Nat):=by rw[g1,g2];omega
  repeat(first|refine wDB ?_|refine awp_seq_k fun K hK=>?_|refine wN fun bx=>?_|(refine wH ?_;clear hK))
  refine⟨⟨i+1,hlt,?_⟩,wk,dp,by simp only;omega⟩
  have e1:d.length-(i+1)=d.length-1-i:=by omega
  have h1:d.length-1-i<d.length:=by omega
  have h2:d.length-1-i<e.length:=by omega
  have e3:d.getD (d.length-1-i) 0=e.getD (d.length-1-i) 0:=by omega
  rw[e1,List.drop_eq_getElem_cons h1,List.drop_eq_getElem_cons h2,hdd]
  congr 1
  rw[List.getD_eq_getElem?_getD,List.getElem?_eq_getElem h1,List.getD_eq_getElem?_getD,List.getElem?_eq_getElem h2]at e3
  exact e3
 ·have hge:¬(i:Int)<d.length:=by omega
  obtain rfl:i=d.length:=by omega
  rw[Nat.sub_self,List.drop_zero,List.drop_zero]at hd
  subst hd
  have hr:cmpN x y=0:=by unfold cmpN;rw[if_neg (by omega),if_neg (by omega)]
  repeat(first|refine wDB ?_|refine awp_seq_k fun K hK=>?_|refine wN fun bx=>?_|(refine wH ?_;clear hK))
  refine r1 ?_
  exact Sub.of_eq (by rw[hr])
end Go.Proofs.YtamgilppehibeaaGreatDoor
namespace Go.Proofs.YtamgilppehibeaaGreatDoor
open Go.Ab
theorem cbAdd1:Callable Tryz.prog 128:=fun _ _=>by kernel_rfl
theorem add1_c (a b:List Nat) (h:LimOk 100000000 a) (k:LimOk 100000000 b):PCalls Tryz.prog 128 [lims a,lims b] (lims (digs B32 (valB B32 a+valB B32 b))):=by
 refine pcalls_of_awp tyok cbAdd1 Tryz.func128 rfl rfl ?_
 generalize hS:valB B32 a+valB B32 b=S
 repeat(first|refine wD ?_|refine awp_seq_k fun K hK=>?_|refine wN fun bx=>?_|(refine wH ?_;clear hK))
 clear K
 rename_i K
 refine(have hr:∀(x y:List Nat),LimOk 100000000 x→LimOk 100000000 y→y.length≤x.length→valB B32 x+valB B32 y=S→∀T',Weak T' [(0,lims x),(1,lims y)]→K T' []:=fun x y hx hy hxy hs=>cutK (Wk:=[(0,lims x),(1,lims y)]) (H0:=[]) hK ?_;?_)
 rotate_left
 ·clear hK
  refine awp_cond rfl (fun hb=>?_) (fun hb=>?_)
  ·have c:(a.length:Int)<b.length:=of_decide_eq_true hb
   repeat(first|refine wD ?_|refine awp_seq_k fun K hK=>?_|refine wN fun bx=>?_|(refine wH ?_;clear hK))
   exact hr b a k h (by omega) (by rw[Nat.add_comm];exact hS) _ wk
  ·have c:¬(a.length:Int)<b.length:=of_decide_eq_false hb
   repeat(first|refine wD ?_|refine awp_seq_k fun K hK=>?_|refine wN fun bx=>?_|(refine wH ?_;clear hK))
   exact hr a b h k (by omega) hS _ wk
 clear hK
 have xl:=hx.len
 have yl:=hy.len
 repeat(first|refine wDB ?_|refine awp_seq_k fun K hK=>?_|refine wN fun bx=>?_|(refine wH ?_;clear hK))
 refine qmakeN tyok (m:=x.length+1) (k:=.u32) (fun g=>?_) ?_
 rotate_left
 ·simp only
  omega
 unfold rowN rowM
 repeat(first|refine wDB ?_|refine awp_seq_k fun K hK=>?_|refine wN fun bx=>?_|(refine wH ?_;clear hK))
 refine awp_loop0 (ι:={s:Nat×List Nat×Nat//s.1≤x.length+1∧s.2.1.length=x.length+1∧(∀z∈s.2.1,z<B32)∧s.2.2≤1∧valB B32 (s.2.1.take s.1)+s.2.2*B32^s.1=valB B32 (x.take s.1)+valB B32 (y.take s.1)})
  (fun s=>[(0,lims x),(1,lims y),(5,.mslice g 0 (x.length+1) (x.length+1)),(6,.int .u64 (s.1.2.2:Nat)),(20,.int .i64 (x.length+1:Nat)),(21,.int .i64 s.1.1)])
  (fun s=>[rowN .u32 g 164 s.1.2.1]) (fun s=>x.length+1-s.1.1) ⟨(0,List.replicate (x.length+1) 0,0),Nat.zero_le _,List.length_replicate,all_zero (by decide) _,Nat.zero_le _,rfl⟩ wk ⟨0,rfl⟩ ?_
 rintro⟨⟨i,xs,c⟩,hi,hxl,hxb,hc,hv⟩
 simp only at hi hxl hxb hc hv ⊢
 by_cases hlt:i<x.length+1
 ·have hlt':(i:Int)<(x.length+1:Nat):=by omega
  have hxi:=hx.getD i
  have hyi:=hy.getD i
  have hstep:=add_step (B:=B32) (a:=x.getD i 0) (b:=y.getD i 0) hv
  rw[←Nat.pow_succ,←val_put B32 (show i<xs.length by omega),←val_take_succ,←val_take_succ]at hstep
  have hB:B32=4294967296:=rfl
  have e64x:IntKind.u64.wrap ((x.getD ((i:Int)).toNat default:Nat):Int)=(x.getD i 0:Nat):=w64 _ (show x.getD i 0<_ by omega)
  have e64y:IntKind.u64.wrap ((y.getD ((i:Int)).toNat default:Nat):Int)=(y.getD i 0:Nat):=w64 _ (show y.getD i 0<_ by omega)
  have hc':(c+x.getD i 0+y.getD i 0)/B32≤1:=Nat.le_of_lt_succ (Nat.div_lt_of_lt_mul (by omega))
  have hj0:0+((i:Int)).toNat=i:=by omega
  have E1:IntKind.u64.wrap ((c:Int)+IntKind.u64.wrap ((x.getD ((i:Int)).toNat default:Nat):Int))=((c+x.getD i 0:Nat):Int):=by
   rw[e64x,←Int.natCast_add]
   exact w64 _ (by omega)
  have E2:IntKind.u64.wrap (IntKind.u64.wrap ((c:Int)+IntKind.u64.wrap ((x.getD ((i:Int)).toNat default:Nat):Int))+IntKind.u64.wrap ((y.getD ((i:Int)).toNat default:Nat):Int))=((c+x.getD i 0+y.getD i 0:Nat):Int):=by
   rw[E1,e64y,←Int.natCast_add]
   exact w64 _ (by omega)
  unfold rowN rowM
  by_cases c1:i<y.length
  ·have c1':(i:Int)<y.length:=by omega
   have c2':(i:Int)<x.length:=by omega
   repeat(first|refine wDB ?_|refine awp_seq_k fun K hK=>?_|refine wN fun bx=>?_|(refine wH ?_;clear hK))
   refine⟨⟨(i+1,xs.set i ((c+x.getD i 0+y.getD i 0)%B32),(c+x.getD i 0+y.getD i 0)/B32),hlt,by rw[List.length_set];exact hxl,all_put hxb (Nat.mod_lt _ (by decide)),hc',hstep⟩,?_,⟨0,?_⟩,by simp only;omega⟩
   ·rw[E2,shr32]
    exact wk
   ·rw[E2,w32,hj0]
    exact congrArg (fun e=>[e]) (rowN_set (by omega))
  have c1':¬(i:Int)<y.length:=by omega
  have y0:y.getD i 0=0:=by rw[List.getD_eq_getElem?_getD,List.getElem?_eq_none (by omega)];rfl
  rw[y0,Nat.add_zero]at hstep hc'
  by_cases c2:i<x.length
  ·have c2':(i:Int)<x.length:=by omega
   repeat(first|refine wDB ?_|refine awp_seq_k fun K hK=>?_|refine wN fun bx=>?_|(refine wH ?_;clear hK))
   refine⟨⟨(i+1,xs.set i ((c+x.getD i 0)%B32),(c+x.getD i 0)/B32),hlt,by rw[List.length_set];exact hxl,all_put hxb (Nat.mod_lt _ (by decide)),hc',hstep⟩,?_,⟨0,?_⟩,by simp only;omega⟩
   ·rw[E1,shr32]
    exact wk
   ·rw[E1,w32,hj0]
    exact congrArg (fun e=>[e]) (rowN_set (by omega))
  ·have c2':¬(i:Int)<x.length:=by omega
   have x0:x.getD i 0=0:=by rw[List.getD_eq_getElem?_getD,List.getElem?_eq_none (by omega)];rfl
   rw[x0,Nat.add_zero]at hstep hc'
   repeat(first|refine wDB ?_|refine awp_seq_k fun K hK=>?_|refine wN fun bx=>?_|(refine wH ?_;clear hK))
   refine⟨⟨(i+1,xs.set i (c%B32),c/B32),hlt,by rw[List.length_set];exact hxl,all_put hxb (Nat.mod_lt _ (by decide)),hc',hstep⟩,?_,⟨0,?_⟩,by simp only;omega⟩
   ·rw[shr32]
    exact wk
   ·rw[w32,hj0]
    exact congrArg (fun e=>[e]) (rowN_set (by omega))
 ·have hge:¬(i:Int)<(x.length+1:Nat):=by omega
  obtain rfl:i=x.length+1:=by omega
  rw[←hxl,List.take_length,List.take_of_length_le (by omega),List.take_of_length_le (by omega),hs]at hv
  have hSlt:S<B32^xs.length:=by
   have h1:=val_lt hx.lt
   have h2:=Nat.lt_of_lt_of_le (val_lt hy.lt) (Nat.pow_le_pow_right (show 0<B32 by decide) hxy)
   rw[hxl,Nat.pow_succ]
   have h3:B32^x.length*2≤B32^x.length*B32:=Nat.mul_le_mul_left _ (by decide)
   omega
  have hc0:c=0:=by
   rcases Nat.eq_zero_or_pos c with h0|h0
   ·exact h0
   ·have:=Nat.mul_le_mul_right (B32^xs.length) h0
    omega
  rw[hc0,Nat.zero_mul,Nat.add_zero]at hv
  have sx:=short_c xs ⟨hxb,by omega⟩
  rw[hv]at sx
  unfold rowN
  refine awp_freezeM [] (s:=5) rfl (rowN_all hxl) ?_
  repeat(first|refine wDB ?_|refine awp_seq_k fun K hK=>?_|refine wN fun bx=>?_|refine wC sx ?_|(refine wH ?_;clear hK))
  refine r1 ?_
  exact Sub.refl _
end Go.Proofs.YtamgilppehibeaaGreatDoor
namespace Go.Proofs.YtamgilppehibeaaGreatDoor
open Go.Ab
theorem sub_step {V E A c P d b a c' B:Nat} (h:V+E=A+c*P) (hd:d+b+c=a+c'*B):(V+d*P)+(E+b*P)=(A+a*P)+c'*(P*B):=by
 grind
theorem wsub1 {a c d c':Nat} (ha:a<B32) (hc:c≤1) (hd:d+c=a+c'*B32) (hl:d<B32):IntKind.u32.wrap (IntKind.u64.wrap ((a:Int)-c))=(d:Nat)∧(IntKind.u64.wrap ((a:Int)-c)).fdiv (2^(min ((63:Int)).toNat IntKind.u64.bits))=(c':Nat):=by
 unfold B32 at ha hd hl
 have hc2:c'≤1:=by omega
 rw[wu32,wu64,show(2:Int)^(min ((63:Int)).toNat IntKind.u64.bits)=9223372036854775808 from rfl,Int.fdiv_eq_ediv_of_nonneg _ (by decide)]
 omega
theorem wsub2 {a b c d c':Nat} (ha:a<B32) (hb:b<B32) (hc:c≤1) (hd:d+b+c=a+c'*B32) (hl:d<B32):IntKind.u32.wrap (IntKind.u64.wrap (IntKind.u64.wrap ((a:Int)-c)-b))=(d:Nat)∧(IntKind.u64.wrap (IntKind.u64.wrap ((a:Int)-c)-b)).fdiv (2^(min ((63:Int)).toNat IntKind.u64.bits))=(c':Nat):=by
 unfold B32 at ha hb hd hl
 have hc2:c'≤1:=by omega
 rw[wu32,wu64,wu64,show(2:Int)^(min ((63:Int)).toNat IntKind.u64.bits)=9223372036854775808 from rfl,Int.fdiv_eq_ediv_of_nonneg _ (by decide)]
 omega
theorem sub_digit (a b c:Nat) (ha:a<B32) (hb:b<B32) (hc:c≤1):∃d c',d<B32∧c'≤1∧d+b+c=a+c'*B32:=by
 by_cases h:c+b≤a
 ·exact⟨a-(c+b),0,by omega,by omega,by omega⟩
 ·exact⟨a+B32-(c+b),1,by omega,by omega,by omega⟩
theorem cbSub1:Callable Tryz.prog 129:=fun _ _=>by kernel_rfl
theorem sub1_no (a b:List Nat) (h:LimOk 1000000000 a) (k:LimOk 1000000000 b) (hlt:valB B32 a<valB B32 b):PCalls Tryz.prog 129 [lims a,lims b] (.tuple [lims [],.int .i64 2]):=by
 refine pcalls_of_awp tyok cbSub1 Tryz.func129 rfl rfl ?_
 have g:=ncmp_c a b h k
 have hr:cmpN (valB B32 a) (valB B32 b)= -1:=by unfold cmpN;rw[if_pos hlt]
 rw[hr]at g
 repeat(first|refine wDB ?_|refine awp_seq_k fun K hK=>?_|refine wN fun bx=>?_|refine wC g ?_|(refine wH ?_;clear hK))
 refine r2 ?_ ?_
 ·exact Sub.nilsv _ _
 ·exact Sub.refl _
theorem sub1_c (a b:List Nat) (h:LimOk 1000000000 a) (k:LimOk 1000000000 b) (hle:valB B32 b≤valB B32 a):PCalls Tryz.prog 129 [lims a,lims b] (.tuple [lims (digs B32 (valB B32 a-valB B32 b)),.int .i64 0]):=by
 refine pcalls_of_awp tyok cbSub1 Tryz.func129 rfl rfl ?_
 have g:=ncmp_c a b h k
 have hr:¬cmpN (valB B32 a) (valB B32 b)<0:=by unfold cmpN;rw[if_neg (by omega)];split<;>decide
 have s1:=short_c a h
 have s2:=short_c b k
 have hx:=h.trim
 have hy:=k.trim
 have v1:=val_digs B32_two (valB B32 a)
 have v2:=val_digs B32_two (valB B32 b)
 have hxy:(digs B32 (valB B32 b)).length≤(digs B32 (valB B32 a)).length:=by
  rcases Nat.lt_or_ge (digs B32 (valB B32 a)).length (digs B32 (valB B32 b)).length with z|z
  ·have:=lt_of_len B32_two z
   omega
  ·exact z
 generalize cmpN (valB B32 a) (valB B32 b)=cm at g hr
 generalize digs B32 (valB B32 a)=x at s1 hx v1 hxy
 generalize digs B32 (valB B32 b)=y at s2 hy v2 hxy
 generalize valB B32 a=va at v1 hle ⊢
 generalize valB B32 b=vb at v2 hle ⊢
 have xl:=hx.len
 have yl:=hy.len
 repeat(first|refine wDB ?_|refine awp_seq_k fun K hK=>?_|refine wN fun bx=>?_|refine wC g ?_|refine wC s1 ?_|refine wC s2 ?_|(refine wH ?_;clear hK))
 refine qmakeN tyok (m:=x.length) (k:=.u32) (fun g=>?_) ?_
 rotate_left
 ·simp only
  omega
 unfold rowN rowM
 repeat(first|refine wDB ?_|refine awp_seq_k fun K hK=>?_|refine wN fun bx=>?_|(refine wH ?_;clear hK))
 refine awp_loop0 (ι:={s:Nat×List Nat×Nat//s.1≤x.length∧s.2.1.length=x.length∧(∀z∈s.2.1,z<B32)∧s.2.2≤1∧valB B32 (s.2.1.take s.1)+valB B32 (y.take s.1)=valB B32 (x.take s.1)+s.2.2*B32^s.1})
  (fun s=>[(0,lims x),(1,lims y),(6,.mslice g 0 x.length x.length),(7,.int .u64 (s.1.2.2:Nat)),(22,.int .i64 (x.length:Nat)),(23,.int .i64 s.1.1)])
  (fun s=>[rowN .u32 g 164 s.1.2.1]) (fun s=>x.length-s.1.1) ⟨(0,List.replicate x.length 0,0),Nat.zero_le _,List.length_replicate,all_zero (by decide) _,Nat.zero_le _,rfl⟩ wk ⟨0,rfl⟩ ?_
 rintro⟨⟨i,xs,c⟩,hi,hxl,hxb,hc,hv⟩
 simp only at hi hxl hxb hc hv ⊢
 by_cases hlt:i<x.length
 ·have hlt':(i:Int)<(x.length:Nat):=by omega
  have hxi:=hx.getD i
  have hyi:=hy.getD i
  have hB:B32=4294967296:=rfl
  obtain⟨d,c',hd,hc',hdd⟩:=sub_digit (x.getD i 0) (y.getD i 0) c hxi hyi hc
  have hstep:=sub_step hv hdd
  rw[←Nat.pow_succ,←val_put B32 (show i<xs.length by omega),←val_take_succ,←val_take_succ]at hstep
  have e64x:IntKind.u64.wrap ((x.getD ((i:Int)).toNat default:Nat):Int)=(x.getD i 0:Nat):=w64 _ (show x.getD i 0<_ by omega)
  have e64y:IntKind.u64.wrap ((y.getD ((i:Int)).toNat default:Nat):Int)=(y.getD i 0:Nat):=w64 _ (show y.getD i 0<_ by omega)
  have hj0:0+((i:Int)).toNat=i:=by omega
  unfold rowN rowM
  by_cases c1:i<y.length
  ·have c1':(i:Int)<y.length:=by omega
   have hw:=wsub2 hxi hyi hc hdd hd
   rw[←e64x,←e64y]at hw
   repeat(first|refine wDB ?_|refine awp_seq_k fun K hK=>?_|refine wN fun bx=>?_|(refine wH ?_;clear hK))
   refine⟨⟨(i+1,xs.set i d,c'),hlt,by rw[List.length_set];exact hxl,all_put hxb hd,hc',hstep⟩,?_,⟨0,?_⟩,by simp only;omega⟩
   ·rw[hw.2]
    exact wk
   ·rw[hw.1,hj0]
    exact congrArg (fun e=>[e]) (rowN_set (by omega))
  ·have c1':¬(i:Int)<y.length:=by omega
   have y0:y.getD i 0=0:=by rw[List.getD_eq_getElem?_getD,List.getElem?_eq_none (by omega)];rfl
   rw[y0,Nat.add_zero]at hdd
   have hw:=wsub1 hxi hc hdd hd
   rw[←e64x]at hw
   repeat(first|refine wDB ?_|refine awp_seq_k fun K hK=>?_|refine wN fun bx=>?_|(refine wH ?_;clear hK))
   refine⟨⟨(i+1,xs.set i d,c'),hlt,by rw[List.length_set];exact hxl,all_put hxb hd,hc',hstep⟩,?_,⟨0,?_⟩,by simp only;omega⟩
   ·rw[hw.2]
    exact wk
   ·rw[hw.1,hj0]
    exact congrArg (fun e=>[e]) (rowN_set (by omega))
 ·have hge:¬(i:Int)<(x.length:Nat):=by omega
  obtain rfl:i=x.length:=by omega
  rw[←hxl,List.take_length,List.take_of_length_le (by omega),List.take_of_length_le (by omega),v1,v2]at hv
  have hlt2:=val_lt hxb
  have hc0:c=0:=by
   rcases Nat.eq_zero_or_pos c with h0|h0
   ·exact h0
   ·have:=Nat.mul_le_mul_right (B32^xs.length) h0
    omega
  rw[hc0,Nat.zero_mul,Nat.add_zero]at hv
  have sx:=short_c xs ⟨hxb,by omega⟩
  have hvv:valB B32 xs=va-vb:=by omega
  rw[hvv]at sx
  unfold rowN
  refine awp_freezeM [] (s:=6) rfl (rowN_all hxl) ?_
  repeat(first|refine wDB ?_|refine awp_seq_k fun K hK=>?_|refine wN fun bx=>?_|refine wC sx ?_|(refine wH ?_;clear hK))
  refine r2 ?_ ?_
  ·exact Sub.refl _
  ·exact Sub.refl _
end Go.Proofs.YtamgilppehibeaaGreatDoor
namespace Go.Proofs.YtamgilppehibeaaGreatDoor
open Go.Ab
theorem mul_inner {Y Y' c P V x R Q old d e y K B:Nat} (h1:Y+c*P=V+x*R*Q) (h2:Y'+old*P=Y+d*P) (h3:d+B*e=c+(x*y+old)) (hP:P=Q*K):Y'+e*(P*B)=V+x*(R+y*K)*Q:=by
 subst hP
 have:Y'+e*(Q*K*B)+old*(Q*K)=V+x*(R+y*K)*Q+old*(Q*K):=by grind
 omega
theorem mul_big {c x y old:Nat} (hc:c<B32) (hx:x<B32) (hy:y<B32) (ho:old<B32):x*y<18446744073709551616∧x*y+old<18446744073709551616∧c+(x*y+old)<18446744073709551616∧(c+(x*y+old))/B32<B32:=by
 unfold B32 at*
 have h:x*y≤4294967295*4294967295:=Nat.mul_le_mul (by omega) (by omega)
 generalize x*y=p at h
 omega
theorem getD_set_ne {l:List Nat} {i j v:Nat} (h:i≠j):(l.set i v).getD j 0=l.getD j 0:=by
 rw[List.getD_eq_getElem?_getD,List.getElem?_set_ne h,←List.getD_eq_getElem?_getD]
theorem cbRows:Callable Tryz.prog 189:=fun _ _=>by kernel_rfl
theorem trows_c (a b:List Nat) (h:LimOk 100000000 a) (k:LimOk 100000000 b):PCalls Tryz.prog 189 [lims a,lims b] (lims (digs B32 (valB B32 a*valB B32 b))):=by
 refine pcalls_of_awp tyok cbRows Tryz.func189 rfl rfl ?_
 have al:=h.len
 have bl:=k.len
 repeat(first|refine wDB ?_|refine awp_seq_k fun K hK=>?_|refine wN fun bx=>?_|(refine wH ?_;clear hK))
 refine qmakeN tyok (m:=a.length+b.length) (k:=.u32) (fun g=>?_) ?_
 rotate_left
 ·simp only
  omega
 unfold rowN rowM
 repeat(first|refine wDB ?_|refine awp_seq_k fun K hK=>?_|refine wN fun bx=>?_|(refine wH ?_;clear hK))
 refine awp_loop0 (ι:={s:Nat×List Nat//s.1≤a.length∧s.2.length=a.length+b.length∧(∀z∈s.2,z<B32)∧(∀j,s.1+b.length≤j→s.2.getD j 0=0)∧valB B32 s.2=valB B32 (a.take s.1)*valB B32 b})
  (fun s=>[(0,lims a),(1,lims b),(5,.mslice g 0 (a.length+b.length) (a.length+b.length)),(17,lims a),(18,.int .i64 a.length),(19,.int .i64 s.1.1)])
  (fun s=>[rowN .u32 g 164 s.1.2]) (fun s=>a.length-s.1.1) ⟨(0,List.replicate (a.length+b.length) 0),Nat.zero_le _,List.length_replicate,all_zero (by decide) _,fun j _=>?_,?_⟩ wk ⟨0,rfl⟩ ?_
 ·simp only
  rw[List.getD_eq_getElem?_getD,List.getElem?_replicate]
  split<;>rfl
 ·simp only[List.take_zero]
  rw[val_zeros,valB,Nat.zero_mul]
 rintro⟨⟨i,xs⟩,hi,hxl,hxb,hz,hv⟩
 simp only at hi hxl hxb hz hv ⊢
 by_cases hlt:i<a.length
 ·have hlt':(i:Int)<a.length:=by omega
  have hai:=h.getD i
  unfold rowN rowM
  repeat(first|refine wDB ?_|refine awp_seq_k fun K hK=>?_|refine wN fun bx=>?_|(refine wH ?_;clear hK))
  refine awp_loop0 (ι:={s:Nat×List Nat×Nat//s.1≤b.length∧s.2.1.length=a.length+b.length∧(∀z∈s.2.1,z<B32)∧(∀j,i+b.length≤j→s.2.1.getD j 0=0)∧s.2.2<B32∧valB B32 s.2.1+s.2.2*B32^(i+s.1)=valB B32 (a.take i)*valB B32 b+a.getD i 0*valB B32 (b.take s.1)*B32^i})
   (fun s=>[(0,lims a),(1,lims b),(5,.mslice g 0 (a.length+b.length) (a.length+b.length)),(17,lims a),(18,.int .i64 a.length),(19,.int .i64 i),(6,.int .i64 i),(7,.int .u32 (a.getD i 0:Nat)),(8,.int .u64 (s.1.2.2:Nat)),(24,lims b),(25,.int .i64 b.length),(26,.int .i64 s.1.1)])
   (fun s=>[rowN .u32 g 164 s.1.2.1]) (fun s=>b.length-s.1.1) ⟨(0,xs,0),Nat.zero_le _,hxl,hxb,hz,(show 0<B32 by decide),?_⟩ wk ⟨0,?_⟩ ?_
  ·simp only[List.take_zero,valB,Nat.mul_zero,Nat.zero_mul,Nat.add_zero]
   exact hv
  ·unfold rowN rowM
   rfl
  rintro⟨⟨k2,ys,c⟩,hk,hyl,hyb,hyz,hc,hw⟩
  simp only at hk hyl hyb hyz hc hw ⊢
  by_cases hkl:k2<b.length
  ·have hkl':(k2:Int)<b.length:=by omega
   have hbi:=k.getD k2
   have hoi:=getD_lt (by decide) hyb (i+k2)
   obtain⟨m1,m2,m3,m4⟩:=mul_big hc hai hbi hoi
   have hj0:0+((i:Int)+(k2:Int)).toNat=i+k2:=by omega
   have E0:IntKind.u64.wrap ((a.getD i 0:Nat):Int)=(a.getD i 0:Nat):=w64 _ (Nat.lt_trans hai (by decide))
   have E1:IntKind.u64.wrap ((b.getD ((k2:Int)).toNat default:Nat):Int)=(b.getD k2 0:Nat):=w64 _ (Nat.lt_trans hbi (by decide))
   have E2:IntKind.u64.wrap ((ys.getD (0+((i:Int)+(k2:Int)).toNat) 0:Nat):Int)=(ys.getD (i+k2) 0:Nat):=by rw[hj0];exact w64 _ (Nat.lt_trans hoi (by decide))
   have E:IntKind.u64.wrap ((c:Int)+IntKind.u64.wrap (IntKind.u64.wrap (IntKind.u64.wrap ((a.getD i 0:Nat):Int)*IntKind.u64.wrap ((b.getD ((k2:Int)).toNat default:Nat):Int))+IntKind.u64.wrap ((ys.getD (0+((i:Int)+(k2:Int)).toNat) 0:Nat):Int)))=((c+(a.getD i 0*b.getD k2 0+ys.getD (i+k2) 0):Nat):Int):=by
    rw[E0,E1,E2,←Int.natCast_mul,w64 _ m1,←Int.natCast_add,w64 _ m2,←Int.natCast_add,w64 _ m3]
   have hset:=val_set B32 ys (i+k2) ((c+(a.getD i 0*b.getD k2 0+ys.getD (i+k2) 0))%B32) (by omega)
   have hstep:=mul_inner hw hset (Nat.mod_add_div _ B32) (show B32^(i+k2)=B32^i*B32^k2 by rw[Nat.pow_add])
   rw[←Nat.pow_succ,←val_take_succ]at hstep
   unfold rowN rowM
   repeat(first|refine wDB ?_|refine awp_seq_k fun K hK=>?_|refine wN fun bx=>?_|(refine wH ?_;clear hK))
   refine⟨⟨(k2+1,ys.set (i+k2) ((c+(a.getD i 0*b.getD k2 0+ys.getD (i+k2) 0))%B32),(c+(a.getD i 0*b.getD k2 0+ys.getD (i+k2) 0))/B32),hkl,by rw[List.length_set];exact hyl,all_put hyb (Nat.mod_lt _ (by decide)),fun j hj=>?_,m4,hstep⟩,?_,⟨0,?_⟩,by simp only;omega⟩
   ·simp only
    rw[getD_set_ne (by omega)]
    exact hyz j hj
   ·rw[E,shr32]
    exact wk
   ·rw[E,w32,hj0]
    exact congrArg (fun e=>[e]) (rowN_set (by omega))
  ·have hkg:¬(k2:Int)<b.length:=by omega
   obtain rfl:k2=b.length:=by omega
   rw[List.take_length]at hw
   have hj0:0+((i:Int)+(b.length:Int)).toNat=i+b.length:=by omega
   have hset:=val_set B32 ys (i+b.length) c (by omega)
   rw[hyz _ (Nat.le_refl _),Nat.zero_mul,Nat.add_zero,hw]at hset
   have hc32:c%B32=c:=Nat.mod_eq_of_lt hc
   unfold rowN rowM
   repeat(first|refine wDB ?_|refine awp_seq_k fun K hK=>?_|refine wN fun bx=>?_|(refine wH ?_;clear hK))
   refine⟨⟨(i+1,ys.set (i+b.length) c),hlt,by rw[List.length_set];exact hyl,all_put hyb hc,fun j hj=>?_,?_⟩,wk,⟨0,?_⟩,by simp only;omega⟩
   ·simp only at hj ⊢
    rw[getD_set_ne (by omega)]
    exact hyz j (by omega)
   ·simp only
    rw[hset,val_take_succ,Nat.add_mul]
    congr 1
    rw[Nat.mul_assoc,Nat.mul_comm (valB B32 b),←Nat.mul_assoc]
   ·rw[w32,hc32,hj0]
    exact congrArg (fun e=>[e]) (rowN_set (by omega))
 ·have hge:¬(i:Int)<a.length:=by omega
  obtain rfl:i=a.length:=by omega
  rw[List.take_length]at hv
  have sx:=trimV_c xs ⟨hxb,by omega⟩
  rw[hv]at sx
  unfold rowN
  refine awp_freezeM [] (s:=5) rfl (rowN_all hxl) ?_
  repeat(first|refine wDB ?_|refine awp_seq_k fun K hK=>?_|refine wN fun bx=>?_|refine wC sx ?_|(refine wH ?_;clear hK))
  refine r1 ?_
  exact Sub.refl _
end Go.Proofs.YtamgilppehibeaaGreatDoor
namespace Go.Proofs.YtamgilppehibeaaGreatDoor
open Go.Ab
theorem shortM_c (g n cap:Nat) (xs:List Nat) (h:LimOk 1000000000 xs) (hn:n≤xs.length) (hc:n≤cap):
  ACalls Tryz.prog 159 [.mslice g 0 n cap] [rowN .u32 g 164 xs] fun r H'=>r=.ret (.mslice g 0 (digs B32 (valB B32 (xs.take n))).length cap)∧H'=[rowN .u32 g 164 xs]:=by
 refine acalls_of_awp tyok cbShort Tryz.func159 rfl rfl ?_
 have hlen:=h.len
 have htl:(xs.take n).length=n:=by rw[List.length_take];omega
 unfold rowN rowM
 repeat(first|refine wD ?_|refine awp_seq_k fun K hK=>?_|refine wN fun bx=>?_|(refine wH ?_;clear hK))
 refine awp_loop0 (ι:={m:Nat//m≤n∧valB B32 ((xs.take n).take m)=valB B32 (xs.take n)}) (fun m=>[(0,.mslice g 0 m.1 cap)]) (fun _=>[.box g 164 (.vec xs.length fun j=>.int .u32 (xs.getD j 0:Nat))]) (fun m=>m.1) ⟨n,Nat.le_refl _,by rw[List.take_of_length_le (by omega)]⟩ wk ⟨0,rfl⟩ ?_
 rintro⟨m,hm,hv⟩
 simp only at hm hv ⊢
 have ha:=all_take h.lt n
 cases m with
 |zero=>
  have e:=trim_done B32_two ha (show 0≤(xs.take n).length by omega) hv (.inl rfl)
  have e2:(digs B32 (valB B32 (xs.take n))).length=0:=by rw[←e];rfl
  repeat(first|refine wDB ?_|refine awp_seq_k fun K hK=>?_|refine wN fun bx=>?_|(refine wH ?_;clear hK))
  exact fnQ_ret 0 rfl (.tmp rfl .nil) (Sub.of_eq (by rw[e2];rfl)) ⟨rfl,rfl⟩
 |succ k=>
  have hg:(xs.take n).getD k 0=xs.getD k 0:=by rw[List.getD_eq_getElem?_getD,List.getElem?_take,if_pos (by omega),←List.getD_eq_getElem?_getD]
  have hi:(((k+1:Nat):Int)-1).toNat=k:=by omega
  have h0:((k+1:Nat):Int)>0:=by omega
  have hgi:xs.getD (0+(((k+1:Nat):Int)-1).toNat) 0=xs.getD k 0:=by rw[hi,Nat.zero_add]
  by_cases hz:xs.getD k 0=0
  ·have hz':((xs.getD (0+(((k+1:Nat):Int)-1).toNat) 0:Nat):Int)=0:=by rw[hgi,hz];rfl
   repeat(first|refine wDB ?_|refine awp_seq_k fun K hK=>?_|refine wN fun bx=>?_|(refine wH ?_;clear hK))
   refine qslH tyok ?_
   repeat(first|refine wDB ?_|refine awp_seq_k fun K hK=>?_|refine wN fun bx=>?_|(refine wH ?_;clear hK))
   refine⟨⟨k,by omega,trim_step (by rw[hg];exact hz) hv⟩,?_,dp,Nat.lt_succ_self k⟩
   simp only[hi]
   exact wk
  ·have hz':¬((xs.getD (0+(((k+1:Nat):Int)-1).toNat) 0:Nat):Int)=0:=by rw[hgi];omega
   have e:=trim_done B32_two ha (show k+1≤(xs.take n).length by omega) hv (.inr (by rw[Nat.add_sub_cancel,hg];exact hz))
   have e2:(digs B32 (valB B32 (xs.take n))).length=k+1:=by rw[←e,List.length_take];omega
   repeat(first|refine wDB ?_|refine awp_seq_k fun K hK=>?_|refine wN fun bx=>?_|(refine wH ?_;clear hK))
   exact fnQ_ret 0 rfl (.tmp rfl .nil) (Sub.of_eq (by rw[e2];rfl)) ⟨rfl,rfl⟩
theorem cbSmall1:Callable Tryz.prog 130:=fun _ _=>by kernel_rfl
theorem small1_c (n:Nat) (h:n<18446744073709551616):PCalls Tryz.prog 130 [.int .u64 n] (lims (digs B32 n)):=by
 refine pcalls_of_awp tyok cbSmall1 Tryz.func130 rfl rfl ?_
 have hB:B32=4294967296:=rfl
 have hq:n/B32<B32:=Nat.div_lt_of_lt_mul (show n<B32*B32 by rw[hB];omega)
 have hm:n%B32<B32:=Nat.mod_lt _ (by decide)
 have ok:LimOk 1000000000 [n%B32,n/B32]:=⟨fun z hz=>by simp at hz;rcases hz with rfl|rfl<;>assumption,by simp⟩
 have hv:valB B32 [n%B32,n/B32]=n:=by simp only[valB,Nat.mul_zero,Nat.add_zero];exact Nat.mod_add_div n B32
 have g:=trimV_c [n%B32,n/B32] ok
 rw[hv]at g
 have e2:IntKind.u32.wrap ((n:Int).fdiv (2^(min ((32:Int)).toNat IntKind.u64.bits)))=((n/B32:Nat):Int):=by rw[shr32,w32,Nat.mod_eq_of_lt hq]
 repeat(first|refine wD ?_|refine awp_seq_k fun K hK=>?_|refine wN fun bx=>?_|(refine wH ?_;clear hK))
 refine TR.pcall rfl rfl rfl rfl True.intro rfl rfl (PCalls.sub g (.cons (v:=.slice 1 2 (chunk [.int .u32 (IntKind.u32.wrap (n:Int)),.int .u32 (IntKind.u32.wrap ((n:Int).fdiv (2^(min ((32:Int)).toNat IntKind.u64.bits))))] 1) .full) ?_ .nil)) ?_
 ·refine(Sub.els (el':=fun i=>limE ([n%B32,n/B32].getD i default)) fun i hi=>?_).trans (Sub.view _ _ _ _)
  match i,hi with
  |0,_=>exact .cons (Sub.of_eq (by rw[w32];rfl)) .nil
  |1,_=>exact .cons (Sub.of_eq (by rw[e2];rfl)) .nil
 repeat(first|refine wD ?_|refine awp_seq_k fun K hK=>?_|refine wN fun bx=>?_|(refine wH ?_;clear hK))
 refine r1 ?_
 exact Sub.refl _
theorem cbMay1:Callable Tryz.prog 217:=fun _ _=>by kernel_rfl
theorem may1_c (n:Nat) (h:n≤1048576):PCalls Tryz.prog 217 [.int .i64 n] (.bool true):=by
 refine pcalls_of_awp tyok cbMay1 Tryz.func217 rfl rfl ?_
 have h0:(n:Int)≥0:=by omega
 have h1:(n:Int)≤1048576:=by omega
 repeat(first|refine wDB ?_|refine awp_seq_k fun K hK=>?_|refine wN fun bx=>?_|(refine wH ?_;clear hK))
 refine r1 ?_
 exact Sub.refl _
end Go.Proofs.YtamgilppehibeaaGreatDoor
