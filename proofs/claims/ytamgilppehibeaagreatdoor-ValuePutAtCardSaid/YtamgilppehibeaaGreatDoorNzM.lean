/-
  The document's whole numbers (porismref04).
-/
import Derived.Test.YtamgilppehibeaaGreatDoorNwM
import Derived.Test.YtamgilppehibeaaGreatDoorDcM
set_option maxRecDepth 100000
set_option maxHeartbeats 6400000
namespace Go.Proofs.YtamgilppehibeaaGreatDoor
open Go.Ab
def zE (z:Int):List AV:=[.bool (decide (z<0)),decs (digs 10 z.natAbs)]
theorem z_sgn (z:Int):∃neg v,z=sgn neg v∧(neg=true→v≠0):=by
 by_cases h:z<0
 ·exact⟨true,z.natAbs,by simp only[sgn,if_true];omega,fun _=>by omega⟩
 ·exact⟨false,z.natAbs,by simp only[sgn,Bool.false_eq_true,if_false];omega,fun h=>by cases h⟩
theorem sgn_abs (neg:Bool) (v:Nat):(sgn neg v).natAbs=v:=by cases neg<;>simp[sgn]
theorem zE_and (neg:Bool) (v:Nat):zE (sgn neg v)=[.bool (neg&&decide (v≠0)),decs (digs 10 v)]:=by
 unfold zE
 rw[sgn_abs]
 congr 2
 cases neg with
 |false=>simp only[sgn,Bool.false_eq_true,if_false,Bool.false_and];exact decide_eq_false (by omega)
 |true=>
  simp only[sgn,if_true,Bool.true_and]
  by_cases h:v=0
  ·subst h;rfl
  ·rw[decide_eq_true h,decide_eq_true (by omega)]
theorem zE_sgn {neg:Bool} {v:Nat} (h:neg=true→v≠0):zE (sgn neg v)=[.bool neg,decs (digs 10 v)]:=by
 rw[zE_and]
 cases neg with
 |false=>rfl
 |true=>rw[decide_eq_true (h rfl)];rfl
theorem dec_pos {n:Nat}:((digs 10 n).length:Int)>0↔n≠0:=by
 have:=digs_nil (B:=10) (n:=n) ten_two
 constructor
 ·intro h h0
  rw[this.2 h0]at h
  simp at h
 ·intro h
  have:(digs 10 n).length≠0:=fun e=>h (this.1 (List.eq_nil_of_length_eq_zero e))
  omega
theorem nums1 (a:Int):Sub (.slice 1 1 (chunk [.int .i64 a] 1) .full) (.slice 1 1 (fun _=>[.int .i64 a]) .view):=
 (Sub.view _ _ _ _).trans (Sub.els fun i hi=>match i,hi with
   |0,_=>SubL.refl _)
theorem cbZInt:Callable Tryz.prog 61:=fun _ _=>by kernel_rfl
theorem zInt_c (k:Nat) (z:Int) (hk:k≤1000000) (h:ZOk k z):PCalls Tryz.prog 61 [.agg (zE z)] (.agg (intEs (intC z))):=by
 refine pcalls_of_awp tyok cbZInt Tryz.func61 rfl rfl ?_
 obtain⟨neg,v,rfl,hx⟩:=z_sgn z
 unfold ZOk at h
 rw[sgn_abs]at h
 rw[zE_sgn hx,intC_sgn]
 have g:=dlimbs_c v k h hk
 have hl:=dec_pos (n:=v)
 cases neg with
 |false=>
  repeat(first|refine wKB ?_|refine awp_seq_k fun K hK=>?_|refine wN fun bx=>?_|(refine wH ?_;clear hK))
  refine areg_soft mixed tyok [10] [] [0,1,2,3,4,5,6,7,8,9,10,11,12] (by decide +kernel) ?_
  repeat(first|refine wDB ?_|refine awp_seq_k fun K hK=>?_|refine wN fun bx=>?_|refine wC g ?_|(refine wH ?_;clear hK))
  refine rcA ?_
  exact Sub.refl _
 |true=>
  have hv:=hx rfl
  have h0:((digs 10 v).length:Int)>0:=hl.2 hv
  repeat(first|refine wKB ?_|refine awp_seq_k fun K hK=>?_|refine wN fun bx=>?_|(refine wH ?_;clear hK))
  refine areg_soft mixed tyok [10] [] [0,1,2,3,4,5,6,7,8,9,10,11,12] (by decide +kernel) ?_
  repeat(first|refine wDB ?_|refine awp_seq_k fun K hK=>?_|refine wN fun bx=>?_|refine wC g ?_|(refine wH ?_;clear hK))
  refine rcA ?_
  exact Sub.of_eq (by rw[decide_eq_true hv];rfl)
theorem cbZSmall:Callable Tryz.prog 57:=fun _ _=>by kernel_rfl
theorem zSmall_c (n:Int) (h1: -9223372036854775808≤n) (h2:n≤9223372036854775807):PCalls Tryz.prog 57 [.int .i64 n] (.agg (zE n)):=by
 refine pcalls_of_awp tyok cbZSmall Tryz.func57 rfl rfl ?_
 by_cases hn:n<0
 ·have e:IntKind.u64.wrap (0-(n+1))=((n.natAbs-1:Nat):Int):=by
   rw[wu64]
   omega
  have g:=dsmall_c (n.natAbs-1) (by omega)
  have o1:DecOk 100000000 (digs 10 (n.natAbs-1)):=(DecOk.digs (k:=20) (by omega)).mono (by decide)
  have g2:=dadd_c (digs 10 (n.natAbs-1)) [1] o1 ⟨fun z hz=>by rw[List.mem_singleton.1 hz];decide,by decide⟩
  rw[val_digs ten_two,show valB 10 [1]=1 from rfl,show n.natAbs-1+1=n.natAbs by omega]at g2
  have g3:PCalls Tryz.prog 106 [decs (digs 10 (n.natAbs-1)),.slice 1 1 (chunk [.int .i64 1] 1) .full] (decs (digs 10 n.natAbs)):=PCalls.sub g2 (.cons (Sub.refl _) (.cons ((nums1 1).trans (Sub.els fun i hi=>match i,hi with
   |0,_=>SubL.refl _)) .nil))
  rw[←e]at g
  rw[show decs (digs 10 (n.natAbs-1))=decs (digs 10 (n.natAbs-1)) from rfl]at g3
  have hz:zE n=[.bool true,decs (digs 10 n.natAbs)]:=by unfold zE;rw[decide_eq_true hn]
  repeat(first|refine wDB ?_|refine awp_seq_k fun K hK=>?_|refine wN fun bx=>?_|refine wC g ?_|refine wC g3 ?_|(refine wH ?_;clear hK))
  refine rcA ?_
  exact Sub.of_eq (by rw[hz];rfl)
 ·have e:IntKind.u64.wrap n=(n.natAbs:Int):=by
   rw[wu64]
   omega
  have g:=dsmall_c n.natAbs (by omega)
  rw[←e]at g
  have hz:zE n=[.bool false,decs (digs 10 n.natAbs)]:=by unfold zE;rw[decide_eq_false hn]
  repeat(first|refine wDB ?_|refine awp_seq_k fun K hK=>?_|refine wN fun bx=>?_|refine wC g ?_|(refine wH ?_;clear hK))
  refine rcA ?_
  exact Sub.of_eq (by rw[hz];rfl)
theorem cbZNeg:Callable Tryz.prog 60:=fun _ _=>by kernel_rfl
theorem zNeg_c (z:Int):PCalls Tryz.prog 60 [.agg (zE z)] (.agg (zE (-z))):=by
 refine pcalls_of_awp tyok cbZNeg Tryz.func60 rfl rfl ?_
 obtain⟨neg,v,rfl,hx⟩:=z_sgn z
 rw[zE_sgn hx,show -(sgn neg v)=sgn (!neg) v by cases neg<;>simp[sgn],zE_and]
 have hl:=dec_pos (n:=v)
 cases neg with
 |true=>
  repeat(first|refine wDB ?_|refine awp_seq_k fun K hK=>?_|refine wN fun bx=>?_|(refine wH ?_;clear hK))
  refine rcA ?_
  exact Sub.refl _
 |false=>
  by_cases hv:v=0
  ·have h0:¬((digs 10 v).length:Int)>0:=fun e=>hl.1 e hv
   repeat(first|refine wDB ?_|refine awp_seq_k fun K hK=>?_|refine wN fun bx=>?_|(refine wH ?_;clear hK))
   refine rcA ?_
   exact Sub.of_eq (by rw[decide_eq_false (show¬v≠0 from fun e=>e hv)];rfl)
  ·have h0:((digs 10 v).length:Int)>0:=hl.2 hv
   repeat(first|refine wDB ?_|refine awp_seq_k fun K hK=>?_|refine wN fun bx=>?_|(refine wH ?_;clear hK))
   refine rcA ?_
   exact Sub.of_eq (by rw[decide_eq_true hv];rfl)
theorem cbZSign:Callable Tryz.prog 52:=fun _ _=>by kernel_rfl
theorem zSign_c (z:Int):PCalls Tryz.prog 52 [.agg (zE z)] (.int .i64 (signZ z)):=by
 refine pcalls_of_awp tyok cbZSign Tryz.func52 rfl rfl ?_
 obtain⟨neg,v,rfl,hx⟩:=z_sgn z
 rw[zE_sgn hx]
 have hl:=dec_pos (n:=v)
 by_cases hv:v=0
 ·subst hv
  have h0:((digs 10 0).length:Int)=0:=rfl
  have e:signZ (sgn neg 0)=0:=by cases neg<;>rfl
  repeat(first|refine wDB ?_|refine awp_seq_k fun K hK=>?_|refine wN fun bx=>?_|(refine wH ?_;clear hK))
  refine r1 ?_
  exact Sub.of_eq (by rw[e])
 ·have h0:¬((digs 10 v).length:Int)=0:=by have:=hl.2 hv;omega
  cases neg with
  |true=>
   have e:signZ (sgn true v)= -1:=by
    simp only[sgn,if_true,signZ]
    rw[if_neg (by omega),if_pos (by omega)]
   repeat(first|refine wDB ?_|refine awp_seq_k fun K hK=>?_|refine wN fun bx=>?_|(refine wH ?_;clear hK))
   refine r1 ?_
   exact Sub.of_eq (by rw[e])
  |false=>
   have e:signZ (sgn false v)=1:=by
    simp only[sgn,signZ,Bool.false_eq_true,if_false]
    rw[if_neg (by omega),if_neg (by omega)]
   repeat(first|refine wDB ?_|refine awp_seq_k fun K hK=>?_|refine wN fun bx=>?_|(refine wH ?_;clear hK))
   refine r1 ?_
   exact Sub.of_eq (by rw[e])
theorem cbZSame:Callable Tryz.prog 55:=fun _ _=>by kernel_rfl
def sameI (x y:IntR):Bool:=x.neg==y.neg&&decide (x.mag=y.mag)
theorem zSame_c (x y:IntR) (h:x.mag.length≤1000000000) (k:y.mag.length≤1000000000):PCalls Tryz.prog 55 [.agg (intEs x),.agg (intEs y)] (.bool (sameI x y)):=by
 refine pcalls_of_awp tyok cbZSame Tryz.func55 rfl rfl ?_
 have g:=dsame_c x.mag y.mag h k
 unfold sameI
 obtain⟨n1,a⟩:=x
 obtain⟨n2,b⟩:=y
 cases n1<;>cases n2<;>
 ·repeat(first|refine wDB ?_|refine awp_seq_k fun K hK=>?_|refine wN fun bx=>?_|refine wC g ?_|(refine wH ?_;clear hK))
  refine r1 ?_
  exact Sub.refl _
end Go.Proofs.YtamgilppehibeaaGreatDoor
namespace Go.Proofs.YtamgilppehibeaaGreatDoor
open Go.Ab
theorem cbZAdd:Callable Tryz.prog 102:=fun _ _=>by kernel_rfl
theorem zAdd_c (k:Nat) (x y:Int) (hk:k≤1000000) (h1:ZOk k x) (h2:ZOk k y):PCalls Tryz.prog 102 [.agg (zE x),.agg (zE y)] (.agg (zE (x+y))):=by
 refine pcalls_of_awp tyok cbZAdd Tryz.func102 rfl rfl ?_
 obtain⟨n1,a,rfl,hx⟩:=z_sgn x
 obtain⟨n2,b,rfl,hy⟩:=z_sgn y
 unfold ZOk at h1 h2
 rw[sgn_abs]at h1 h2
 have o1:DecOk 100000000 (digs 10 a):=.of h1 (by omega)
 have o2:DecOk 100000000 (digs 10 b):=.of h2 (by omega)
 by_cases hs:n1=n2
 ·subst hs
  have g:=dadd_c _ _ o1 o2
  rw[val_digs ten_two,val_digs ten_two]at g
  rw[zE_sgn hx,zE_sgn hy,show sgn n1 a+sgn n1 b=sgn n1 (a+b) by cases n1<;>simp[sgn];omega,zE_sgn (fun e=>by have:=hx e;omega)]
  cases n1<;>
  ·repeat(first|refine wKB ?_|refine awp_seq_k fun K hK=>?_|refine wN fun bx=>?_|(refine wH ?_;clear hK))
   refine areg_soft mixed tyok [6] [] [0,1,2,3,4,5,6,7,8] (by decide +kernel) ?_
   repeat(first|refine wDB ?_|refine awp_seq_k fun K hK=>?_|refine wN fun bx=>?_|refine wC g ?_|(refine wH ?_;clear hK))
   refine rcA ?_
   exact Sub.refl _
 have gc:=dcmp_c (b32_dec h1) (b32_dec h2) (by omega) (by omega)
 rw[zE_sgn hx,zE_sgn hy]
 by_cases hlt:a<b
 ·have hr:cmpN a b<0:=by unfold cmpN;rw[if_pos hlt];decide
  generalize cmpN a b=cm at gc hr
  have g:=dsub_c _ _ o2 o1 (by rw[val_digs ten_two,val_digs ten_two];omega) (by
   rcases Nat.lt_or_ge (digs 10 b).length (digs 10 a).length with z|z
   ·have:=lt_of_len ten_two z
    omega
   ·exact z)
  rw[val_digs ten_two,val_digs ten_two]at g
  have h0:((digs 10 (b-a)).length:Int)>0:=dec_pos.2 (by omega)
  have e:sgn n1 a+sgn n2 b=sgn n2 (b-a):=by
   cases n1<;>cases n2<;>first|exact absurd rfl hs|(simp only[sgn,if_true,Bool.false_eq_true,if_false];omega)
  rw[e,zE_sgn (fun _=>by omega)]
  cases n1<;>cases n2<;>first
  |exact absurd rfl hs
  |(repeat(first|refine wDB ?_|refine awp_seq_k fun K hK=>?_|refine wN fun bx=>?_|refine wC gc ?_|refine wC g ?_|(refine wH ?_;clear hK))
    refine rcA ?_
    exact Sub.refl _)
 ·have hr:¬cmpN a b<0:=by unfold cmpN;rw[if_neg hlt];split<;>decide
  generalize cmpN a b=cm at gc hr
  have g:=dsub_c _ _ o1 o2 (by rw[val_digs ten_two,val_digs ten_two];omega) (by
   rcases Nat.lt_or_ge (digs 10 a).length (digs 10 b).length with z|z
   ·have:=lt_of_len ten_two z
    omega
   ·exact z)
  rw[val_digs ten_two,val_digs ten_two]at g
  have e:sgn n1 a+sgn n2 b=sgn n1 (a-b):=by
   cases n1<;>cases n2<;>first|exact absurd rfl hs|(simp only[sgn,if_true,Bool.false_eq_true,if_false];omega)
  rw[e,zE_and]
  have hl:=dec_pos (n:=a-b)
  by_cases hv:a-b=0
  ·have h0:¬((digs 10 (a-b)).length:Int)>0:=fun e=>hl.1 e hv
   rw[decide_eq_false (show¬a-b≠0 from fun e=>e hv)]
   cases n1<;>cases n2<;>first
   |exact absurd rfl hs
   |(repeat(first|refine wDB ?_|refine awp_seq_k fun K hK=>?_|refine wN fun bx=>?_|refine wC gc ?_|refine wC g ?_|(refine wH ?_;clear hK))
     refine rcA ?_
     exact Sub.refl _)
  ·have h0:((digs 10 (a-b)).length:Int)>0:=hl.2 hv
   rw[decide_eq_true hv]
   cases n1<;>cases n2<;>first
   |exact absurd rfl hs
   |(repeat(first|refine wDB ?_|refine awp_seq_k fun K hK=>?_|refine wN fun bx=>?_|refine wC gc ?_|refine wC g ?_|(refine wH ?_;clear hK))
     refine rcA ?_
     exact Sub.refl _)
theorem cbZMul:Callable Tryz.prog 107:=fun _ _=>by kernel_rfl
theorem zMul_c (k:Nat) (x y:Int) (hk:k≤1000000) (h1:ZOk k x) (h2:ZOk k y):PCalls Tryz.prog 107 [.agg (zE x),.agg (zE y)] (.agg (zE (x*y))):=by
 refine pcalls_of_awp tyok cbZMul Tryz.func107 rfl rfl ?_
 obtain⟨n1,a,rfl,hx⟩:=z_sgn x
 obtain⟨n2,b,rfl,hy⟩:=z_sgn y
 unfold ZOk at h1 h2
 rw[sgn_abs]at h1 h2
 have g:=dmul_c _ _ (show DecOk 100000000 (digs 10 a) from .of h1 (by omega)) (show DecOk 100000000 (digs 10 b) from .of h2 (by omega))
 rw[val_digs ten_two,val_digs ten_two]at g
 rw[zE_sgn hx,zE_sgn hy,sgn_mul,zE_and]
 have hl:=dec_pos (n:=a*b)
 by_cases hv:a*b=0
 ·have h0:¬((digs 10 (a*b)).length:Int)>0:=fun e=>hl.1 e hv
  rw[decide_eq_false (show¬a*b≠0 from fun e=>e hv)]
  cases n1<;>cases n2<;>
  ·repeat(first|refine wDB ?_|refine awp_seq_k fun K hK=>?_|refine wN fun bx=>?_|refine wC g ?_|(refine wH ?_;clear hK))
   refine rcA ?_
   exact Sub.refl _
 ·have h0:((digs 10 (a*b)).length:Int)>0:=hl.2 hv
  rw[decide_eq_true hv]
  cases n1<;>cases n2<;>
  ·repeat(first|refine wDB ?_|refine awp_seq_k fun K hK=>?_|refine wN fun bx=>?_|refine wC g ?_|(refine wH ?_;clear hK))
   refine rcA ?_
   exact Sub.refl _
theorem sgn_tmod (a b:Bool) (v w:Nat):(sgn a v).tmod (sgn b w)=sgn a (v%w):=by
 cases a<;>cases b<;>simp only[sgn,if_true,Bool.false_eq_true,if_false,Int.neg_tmod,Int.tmod_neg,Int.ofNat_tmod]
theorem cbZDm:Callable Tryz.prog 75:=fun _ _=>by kernel_rfl
theorem zDm_c (k:Nat) (x y:Int) (hk:k≤1000000) (h1:ZOk k x) (h2:ZOk k y) (hy0:y≠0):PCalls Tryz.prog 75 [.agg (zE x),.agg (zE y)] (.tuple [.agg (zE (x.tdiv y)),.agg (zE (x.tmod y))]):=by
 refine pcalls_of_awp tyok cbZDm Tryz.func75 rfl rfl ?_
 obtain⟨n1,a,rfl,hx⟩:=z_sgn x
 obtain⟨n2,b,rfl,hy⟩:=z_sgn y
 rw[ne_eq,sgn_zero]at hy0
 unfold ZOk at h1 h2
 rw[sgn_abs]at h1 h2
 have g:=ddm_c (b32_dec h1) (b32_dec h2) (by omega) (by omega) (show 0<b by omega)
 rw[zE_sgn hx,zE_sgn hy,sgn_tdiv,sgn_tmod,zE_and,zE_and]
 have hl:=dec_pos (n:=a/b)
 have hm:=dec_pos (n:=a%b)
 by_cases hv:a/b=0
 ·have h0:¬((digs 10 (a/b)).length:Int)>0:=fun e=>hl.1 e hv
  rw[decide_eq_false (show¬a/b≠0 from fun e=>e hv)]
  by_cases hw:a%b=0
  ·have m0:¬((digs 10 (a%b)).length:Int)>0:=fun e=>hm.1 e hw
   rw[decide_eq_false (show¬a%b≠0 from fun e=>e hw)]
   cases n1<;>cases n2<;>
   ·repeat(first|refine wDB ?_|refine awp_seq_k fun K hK=>?_|refine wN fun bx=>?_|refine wC g ?_|(refine wH ?_;clear hK))
    exact fnQ_ret 4 rfl (.cell rfl rfl (List.mem_of_getElem? (i:=1) rfl) rfl trivial (.cell rfl rfl (List.mem_of_getElem? (i:=0) rfl) rfl trivial .nil)) (Sub.refl _) ⟨rfl,rfl⟩
  ·have m0:((digs 10 (a%b)).length:Int)>0:=hm.2 hw
   rw[decide_eq_true hw]
   cases n1<;>cases n2<;>
   ·repeat(first|refine wDB ?_|refine awp_seq_k fun K hK=>?_|refine wN fun bx=>?_|refine wC g ?_|(refine wH ?_;clear hK))
    exact fnQ_ret 4 rfl (.cell rfl rfl (List.mem_of_getElem? (i:=1) rfl) rfl trivial (.cell rfl rfl (List.mem_of_getElem? (i:=0) rfl) rfl trivial .nil)) (Sub.refl _) ⟨rfl,rfl⟩
 ·have h0:((digs 10 (a/b)).length:Int)>0:=hl.2 hv
  rw[decide_eq_true hv]
  by_cases hw:a%b=0
  ·have m0:¬((digs 10 (a%b)).length:Int)>0:=fun e=>hm.1 e hw
   rw[decide_eq_false (show¬a%b≠0 from fun e=>e hw)]
   cases n1<;>cases n2<;>
   ·repeat(first|refine wDB ?_|refine awp_seq_k fun K hK=>?_|refine wN fun bx=>?_|refine wC g ?_|(refine wH ?_;clear hK))
    exact fnQ_ret 4 rfl (.cell rfl rfl (List.mem_of_getElem? (i:=1) rfl) rfl trivial (.cell rfl rfl (List.mem_of_getElem? (i:=0) rfl) rfl trivial .nil)) (Sub.refl _) ⟨rfl,rfl⟩
  ·have m0:((digs 10 (a%b)).length:Int)>0:=hm.2 hw
   rw[decide_eq_true hw]
   cases n1<;>cases n2<;>
   ·repeat(first|refine wDB ?_|refine awp_seq_k fun K hK=>?_|refine wN fun bx=>?_|refine wC g ?_|(refine wH ?_;clear hK))
    exact fnQ_ret 4 rfl (.cell rfl rfl (List.mem_of_getElem? (i:=1) rfl) rfl trivial (.cell rfl rfl (List.mem_of_getElem? (i:=0) rfl) rfl trivial .nil)) (Sub.refl _) ⟨rfl,rfl⟩
theorem cbZGcd:Callable Tryz.prog 74:=fun _ _=>by kernel_rfl
theorem zGcd_c (k:Nat) (x y:Int) (hk:k≤1000000) (h1:ZOk k x) (h2:ZOk k y):PCalls Tryz.prog 74 [.agg (zE x),.agg (zE y)] (.agg (zE (Nat.gcd x.natAbs y.natAbs:Nat))):=by
 refine pcalls_of_awp tyok cbZGcd Tryz.func74 rfl rfl ?_
 unfold ZOk at h1 h2
 have ez:zE ((Nat.gcd x.natAbs y.natAbs:Nat):Int)=[.bool false,decs (digs 10 (Nat.gcd x.natAbs y.natAbs))]:=zE_sgn (neg:=false) (fun e=>by cases e)
 rw[ez]
 unfold zE
 generalize x.natAbs=u at h1 ⊢
 generalize y.natAbs=v at h2 ⊢
 generalize decide (x<0)=n1
 generalize decide (y<0)=n2
 ((repeat(first|refine wDB ?_|refine awp_seq_k fun K hK=>?_|(refine wH ?_;clear hK)));refine wN fun b2=>?_;(repeat(first|refine wDB ?_|refine awp_seq_k fun K hK=>?_|(refine wH ?_;clear hK)));refine wN fun b3=>?_;(repeat(first|refine wDB ?_|refine awp_seq_k fun K hK=>?_|(refine wH ?_;clear hK)));refine wN fun b4=>?_;(repeat(first|refine wDB ?_|refine awp_seq_k fun K hK=>?_|refine wN fun bx=>?_|(refine wH ?_;clear hK))))
 refine awp_loop0 (ι:={s:Nat×Nat//s.1<B32^k∧s.2<B32^k∧Nat.gcd s.1 s.2=Nat.gcd u v}) (fun s=>[(4,.ptr b4 0),(5,decs (digs 10 s.1.1)),(6,decs (digs 10 s.1.2))])
  (fun _=>[.box b4 53 (.agg [.bool false,.nils]),.box b3 53 (.agg [.bool n2,decs (digs 10 v)]),.box b2 53 (.agg [.bool n1,decs (digs 10 u)])]) (fun s=>s.1.2) ⟨(u,v),h1,h2,rfl⟩ wk ⟨0,rfl⟩ ?_
 rintro⟨⟨p,q⟩,hp,hq,hg⟩
 simp only at hp hq hg ⊢
 have hl:=dec_pos (n:=q)
 by_cases hq0:q=0
 ·have h0:¬((digs 10 q).length:Int)>0:=fun e=>hl.1 e hq0
  have hgp:Nat.gcd u v=p:=by rw[←hg,hq0,Nat.gcd_zero_right]
  rw[hgp]
  repeat(first|refine wDB ?_|refine awp_seq_k fun K hK=>?_|refine wN fun bx=>?_|(refine wH ?_;clear hK))
  refine rcA ?_
  exact Sub.of_eq (by rw[hgp];rfl)
 ·have h0:((digs 10 q).length:Int)>0:=hl.2 hq0
  have gd:=ddm_c (b32_dec hp) (b32_dec hq) (by omega) (by omega) (show 0<q by omega)
  repeat(first|refine wDB ?_|refine awp_seq_k fun K hK=>?_|refine wN fun bx=>?_|refine wC gd ?_|(refine wH ?_;clear hK))
  exact⟨⟨(q,p%q),hq,Nat.lt_trans (Nat.mod_lt _ (by omega)) hq,by rw[←hg,Nat.gcd_comm q,←Nat.gcd_rec,Nat.gcd_comm]⟩,wk,⟨0,rfl⟩,Nat.mod_lt _ (by omega)⟩
end Go.Proofs.YtamgilppehibeaaGreatDoor
namespace Go.Proofs.YtamgilppehibeaaGreatDoor
open Go.Ab
structure QR where
 n:Int
 d:Int
deriving Inhabited
def QR.q (x:QR):Rat:=Rat.divInt x.n x.d
def qrC (q:Rat):QR:=⟨q.num,q.den⟩
structure QROk (k:Nat) (x:QR):Prop where
 n:ZOk k x.n
 d:ZOk k x.d
 nz:x.d≠0
def qE (x:QR):List AV:=[.bool (decide (x.n<0)),decs (digs 10 x.n.natAbs),.bool (decide (x.d<0)),decs (digs 10 x.d.natAbs)]
def ofQ (x:RatR):QR:=⟨x.n.z,if x.d.z=0 then 1 else x.d.z⟩
theorem cbQSmall:Callable Tryz.prog 39:=fun _ _=>by kernel_rfl
theorem qSmall_c (a b:Int) (h1: -9223372036854775808≤a) (h2:a≤9223372036854775807) (h3: -9223372036854775808≤b) (h4:b≤9223372036854775807):PCalls Tryz.prog 39 [.int .i64 a,.int .i64 b] (.agg (qE ⟨a,b⟩)):=by
 refine pcalls_of_awp tyok cbQSmall Tryz.func39 rfl rfl ?_
 have g1:=zSmall_c a h1 h2
 have g2:=zSmall_c b h3 h4
 repeat(first|refine wDB ?_|refine awp_seq_k fun K hK=>?_|refine wN fun bx=>?_|refine wC g1 ?_|refine wC g2 ?_|(refine wH ?_;clear hK))
 refine rcA ?_
 exact Sub.refl _
theorem cbQRat:Callable Tryz.prog 24:=fun _ _=>by kernel_rfl
theorem qRat_c (k:Nat) (x:QR) (hk:k≤1000000) (h:QROk k x):PCalls Tryz.prog 24 [.agg (qE x)] (.agg (ratEs (ratC x.q))):=by
 refine pcalls_of_awp tyok cbQRat Tryz.func24 rfl rfl ?_
 obtain⟨n,d⟩:=x
 obtain⟨hn,hd,hd0⟩:=h
 simp only at hn hd hd0
 unfold QR.q
 simp only
 obtain⟨s1,s2,s3,s4⟩:=rat_short hd0 (n:=n) _ rfl
 have hz1:ZOk k (Rat.divInt n d).num:=(QOk.div hd0 hn hd).n
 have hz2:ZOk k ((Rat.divInt n d).den:Int):=(QOk.div hd0 hn hd).dz
 have g7:=zInt_c k _ hk hz1
 have g8:=zInt_c k _ hk hz2
 have hg0:((Nat.gcd n.natAbs d.natAbs:Nat):Int)≠0:=by
  have:=Nat.gcd_pos_of_pos_right n.natAbs (show 0<d.natAbs by omega)
  omega
 have zg:=gcd_zok (n:=n) hd0 hd
 ((repeat(first|refine wKB ?_|refine awp_seq_k fun K hK=>?_|(refine wH ?_;clear hK)));refine wN fun b1=>?_;(repeat(first|refine wKB ?_|refine awp_seq_k fun K hK=>?_|(refine wH ?_;clear hK)));refine wN fun b2=>?_;(repeat(first|refine wKB ?_|refine awp_seq_k fun K hK=>?_|refine wN fun bx=>?_|(refine wH ?_;clear hK))))
 refine awp_freeze [_] (s:=1) rfl rfl ?_
 refine(have hr:∀b3 b4 T' H',Weak T' [(2,.ptr b2 0),(3,.ptr b3 0),(4,.ptr b4 0)]→
  List.Perm H' [.box b3 53 (.agg (zE n)),.box b4 53 (.agg (zE d)),.box b2 44 (.agg [.bool false,.nils,.bool false,.nils])]→K T' H':=fun b3 b4=>cutKP hK ?_;?_)
 rotate_left
 ·clear hK
  refine areg_allocs mixed tyok [0,1,2,3] [4,5] [6,7] (by kernel_rfl) (by kernel_rfl) ?_
  repeat(first|refine wD ?_|refine awp_seq_k fun K hK=>?_|refine wN fun bx=>?_|(refine wH ?_;clear hK))
  intro a ha
  have ha':a∈([4,5]:List Nat):=ha
  simp only[List.mem_cons,List.mem_nil_iff,or_false]at ha'
  rcases ha' with rfl|rfl
  ·refine one_alloc tyok rfl rfl rfl rfl rfl fun b3=>?_
   intro a ha
   have ha':a∈([5]:List Nat):=ha
   simp only[List.mem_cons,List.mem_nil_iff,or_false]at ha'
   subst ha'
   refine one_alloc tyok rfl rfl rfl rfl rfl fun b4=>?_
   refine allO_zero ?_
   repeat(first|refine wD ?_|refine awp_seq_k fun K hK=>?_|refine wN fun bx=>?_|(refine wH ?_;clear hK))
   refine hr b3 b4 _ _ wk ?_
   first|exact List.Perm.refl _|exact List.Perm.swap _ _ _
  ·refine one_alloc tyok rfl rfl rfl rfl rfl fun b4=>?_
   intro a ha
   have ha':a∈([4]:List Nat):=ha
   simp only[List.mem_cons,List.mem_nil_iff,or_false]at ha'
   subst ha'
   refine one_alloc tyok rfl rfl rfl rfl rfl fun b3=>?_
   refine allO_zero ?_
   repeat(first|refine wD ?_|refine awp_seq_k fun K hK=>?_|refine wN fun bx=>?_|(refine wH ?_;clear hK))
   refine hr b3 b4 _ _ wk ?_
   first|exact List.Perm.refl _|exact List.Perm.swap _ _ _
 clear hK
 by_cases hneg:d<0
 ·rw[if_pos hneg]at s1 s2 s3 s4
  have e1:=zNeg_c n
  have e2:=zNeg_c d
  have e3:=zGcd_c k (-n) (-d) hk hn.neg hd.neg
  rw[Int.natAbs_neg,Int.natAbs_neg]at e3
  have e4:=zDm_c k (-n) _ hk hn.neg zg hg0
  have e5:=zDm_c k (-d) _ hk hd.neg zg hg0
  rw[show(-n).tdiv ((Nat.gcd n.natAbs d.natAbs:Nat):Int)=(Rat.divInt n d).num by rw[←s3,Int.tdiv_neg,Int.neg_tdiv]]at e4
  rw[show(-d).tdiv ((Nat.gcd n.natAbs d.natAbs:Nat):Int)=((Rat.divInt n d).den:Int) by rw[←s4,Int.tdiv_neg,Int.neg_tdiv]]at e5
  have hdn:(AV.agg (zE d))=.agg [.bool true,decs (digs 10 d.natAbs)]:=by unfold zE;rw[decide_eq_true hneg]
  rw[hdn]at e2 ⊢
  repeat(first|refine wKB ?_|refine awp_seq_k fun K hK=>?_|refine wN fun bx=>?_|(refine wH ?_;clear hK))
  refine areg_soft mixed tyok [1,3] [] [0,1,2,3,4,5] (by decide +kernel) ?_
  repeat(first|refine wKB ?_|refine awp_seq_k fun K hK=>?_|refine wN fun bx=>?_|refine wC e1 ?_|refine wC e2 ?_|refine wC e3 ?_|refine wC e4 ?_|refine wC e5 ?_|(refine wH ?_;clear hK))
  refine areg_soft mixed tyok [1,3] [] [0,1,2,3,4,5] (by decide +kernel) ?_
  repeat(first|refine wDB ?_|refine awp_seq_k fun K hK=>?_|refine wN fun bx=>?_|refine wC g7 ?_|refine wC g8 ?_|(refine wH ?_;clear hK))
  refine rcA ?_
  exact Sub.refl _
 ·rw[if_neg hneg]at s1 s2 s3 s4
  have e3:=zGcd_c k n d hk hn hd
  have e4:=zDm_c k n _ hk hn zg hg0
  have e5:=zDm_c k d _ hk hd zg hg0
  rw[s3]at e4
  rw[s4]at e5
  have hdn:(AV.agg (zE d))=.agg [.bool false,decs (digs 10 d.natAbs)]:=by unfold zE;rw[decide_eq_false hneg]
  rw[hdn]at e3 e5 ⊢
  repeat(first|refine wKB ?_|refine awp_seq_k fun K hK=>?_|refine wN fun bx=>?_|refine wC e3 ?_|refine wC e4 ?_|refine wC e5 ?_|(refine wH ?_;clear hK))
  refine areg_soft mixed tyok [1,3] [] [0,1,2,3,4,5] (by decide +kernel) ?_
  repeat(first|refine wDB ?_|refine awp_seq_k fun K hK=>?_|refine wN fun bx=>?_|refine wC g7 ?_|refine wC g8 ?_|(refine wH ?_;clear hK))
  refine rcA ?_
  exact Sub.refl _
def sameR (x y:RatR):Bool:=sameI x.n y.n&&sameI x.d y.d
theorem cbQSame:Callable Tryz.prog 23:=fun _ _=>by kernel_rfl
theorem qSame_c (x y:RatR) (h:RatOk 1000000000 x) (k:RatOk 1000000000 y):PCalls Tryz.prog 23 [.agg (ratEs x),.agg (ratEs y)] (.bool (sameR x y)):=by
 refine pcalls_of_awp tyok cbQSame Tryz.func23 rfl rfl ?_
 have g1:=zSame_c x.n y.n h.n.len k.n.len
 have g2:=zSame_c x.d y.d h.d.len k.d.len
 unfold sameR
 generalize sameI x.n y.n=c1 at g1 ⊢
 generalize sameI x.d y.d=c2 at g2 ⊢
 cases c1<;>
 ·repeat(first|refine wDB ?_|refine awp_seq_k fun K hK=>?_|refine wN fun bx=>?_|refine wC g1 ?_|refine wC g2 ?_|(refine wH ?_;clear hK))
  refine r1 ?_
  exact Sub.refl _
theorem sameI_C (a b:Int):sameI (intC a) (intC b)=decide (a=b):=by
 unfold sameI
 by_cases h:a=b
 ·subst h
  simp
 ·rw[decide_eq_false h]
  rw[Bool.and_eq_false_iff]
  by_cases h2:a.natAbs=b.natAbs
  ·left
   unfold intC
   simp only[beq_eq_false_iff_ne,ne_eq,decide_eq_decide]
   omega
  ·right
   refine decide_eq_false fun e=>h2 ?_
   have:=congrArg (valB B32) e
   unfold intC at this
   simp only[val_digs B32_two]at this
   exact this
theorem sameR_C (a b:Rat):sameR (ratC a) (ratC b)=decide (a=b):=by
 unfold sameR ratC
 simp only[sameI_C]
 by_cases h:a=b
 ·subst h
  simp
 ·rw[decide_eq_false h,Bool.and_eq_false_iff]
  by_cases h2:a.num=b.num
  ·right
   refine decide_eq_false fun e=>h (Rat.ext h2 (by omega))
  ·left
   exact decide_eq_false h2
end Go.Proofs.YtamgilppehibeaaGreatDoor
