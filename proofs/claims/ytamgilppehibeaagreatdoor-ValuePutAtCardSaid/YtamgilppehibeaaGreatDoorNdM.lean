/-
  Layer 3 (divide): on adds a number to a part of an array, what goes beyond it is lost.
-/
import Derived.Test.YtamgilppehibeaaGreatDoorNaM
set_option maxRecDepth 100000
set_option maxHeartbeats 1600000
namespace Go.Proofs.YtamgilppehibeaaGreatDoor
open Go.Ab
def over (xs:List Nat) (off:Nat) (ps:List Nat):List Nat:=xs.take off++ps++xs.drop (off+ps.length)
theorem over_nil (xs:List Nat) (off:Nat):over xs off []=xs:=by simp[over]
theorem over_len {xs ps:List Nat} {off:Nat} (h:off+ps.length≤xs.length):(over xs off ps).length=xs.length:=by
 unfold over
 rw[List.length_append,List.length_append,List.length_take,List.length_drop]
 omega
theorem over_get {xs ps:List Nat} {off:Nat} (h:off+ps.length≤xs.length):(over xs off ps).getD (off+ps.length) 0=xs.getD (off+ps.length) 0:=by
 unfold over
 have h1:(xs.take off++ps).length=off+ps.length:=by rw[List.length_append,List.length_take];omega
 rw[List.getD_eq_getElem?_getD,List.getElem?_append_right (by omega),h1,Nat.sub_self,List.getElem?_drop,Nat.add_zero,←List.getD_eq_getElem?_getD]
theorem over_set {xs ps:List Nat} {off d:Nat} (h:off+ps.length<xs.length):(over xs off ps).set (off+ps.length) d=over xs off (ps++[d]):=by
 unfold over
 have h1:(xs.take off++ps).length=off+ps.length:=by rw[List.length_append,List.length_take];omega
 rw[List.set_append_right _ _ (by omega),h1,Nat.sub_self,List.drop_eq_getElem_cons h,List.set_cons_zero,List.length_append,List.length_singleton]
 simp[Nat.add_assoc]
theorem all_snoc {B:Nat} {ps:List Nat} {d:Nat} (h:∀z∈ps,z<B) (hd:d<B):∀z∈ps++[d],z<B:=fun z hz=>by
 rcases List.mem_append.1 hz with hz|hz
 ·exact h z hz
 ·rw[List.mem_singleton.1 hz];exact hd
def PartR (n S:Nat):Type:={ps:List Nat//ps.length=n∧(∀z∈ps,z<B32)∧valB B32 ps=S%B32^n}
theorem getD_part {xs:List Nat} {off n i:Nat} (h:i<n):((xs.drop off).take n).getD i 0=xs.getD (off+i) 0:=by
 rw[List.getD_eq_getElem?_getD,List.getElem?_take,if_pos h,List.getElem?_drop,←List.getD_eq_getElem?_getD]
theorem cbOn:Callable Tryz.prog 197:=fun _ _=>by kernel_rfl
theorem on_c (g off n cap:Nat) (xs v:List Nat) (hx:LimOk 1000000000 xs) (hv:LimOk 1000000000 v) (hn:off+n≤xs.length) (hvn:v.length≤n):
  ACalls Tryz.prog 197 [.mslice g off n cap,lims v] [rowN .u32 g 164 xs] fun r H'=>∃p:PartR n (valB B32 ((xs.drop off).take n)+valB B32 v),r=.ret (.tuple [])∧H'=[rowN .u32 g 164 (over xs off p.1)]:=by
 refine acalls_of_awp tyok cbOn Tryz.func197 rfl rfl ?_
 have xl:=hx.len
 have vl:=hv.len
 have hpl:((xs.drop off).take n).length=n:=by rw[List.length_take,List.length_drop];omega
 have hpo:LimOk 1000000000 ((xs.drop off).take n):=(hx.drop off).take n
 have hpg:∀i,i<n→((xs.drop off).take n).getD i 0=xs.getD (off+i) 0:=fun i hi=>getD_part hi
 generalize (xs.drop off).take n=us at hpl hpo hpg ⊢
 repeat(first|refine wD ?_|refine awp_seq_k fun K hK=>?_|refine wN fun bx=>?_|(refine wH ?_;clear hK))
 refine awp_loop0 (ι:={s:List Nat×Nat//s.1.length≤n∧(∀z∈s.1,z<B32)∧s.2≤1∧valB B32 s.1+s.2*B32^s.1.length=valB B32 (us.take s.1.length)+valB B32 (v.take s.1.length)})
  (fun s=>[(0,.mslice g off n cap),(1,lims v),(4,.int .u64 (s.1.2:Nat)),(7,.int .i64 n),(8,.int .i64 s.1.1.length)])
  (fun s=>[rowN .u32 g 164 (over xs off s.1.1)]) (fun s=>n-s.1.1.length) ⟨([],0),Nat.zero_le _,fun z hz=>absurd hz List.not_mem_nil,Nat.zero_le _,rfl⟩ wk ⟨0,by rw[over_nil];rfl⟩ ?_
 rintro⟨⟨ps,c⟩,hi,hb,hc,hw⟩
 simp only at hi hb hc hw ⊢
 have hol:=over_len (xs:=xs) (ps:=ps) (off:=off) (by omega)
 have hog:=over_get (xs:=xs) (ps:=ps) (off:=off) (by omega)
 by_cases hlt:ps.length<n
 ·have hlt':(ps.length:Int)<n:=by omega
  have hui:=hpo.getD ps.length
  have hvi:=hv.getD ps.length
  have hB:B32=4294967296:=rfl
  have hstep:=add_step (B:=B32) (a:=us.getD ps.length 0) (b:=v.getD ps.length 0) hw
  rw[←Nat.pow_succ,←val_snoc,←val_take_succ,←val_take_succ]at hstep
  have hc':(c+us.getD ps.length 0+v.getD ps.length 0)/B32≤1:=Nat.le_of_lt_succ (Nat.div_lt_of_lt_mul (by omega))
  have hset:=fun d=>over_set (xs:=xs) (ps:=ps) (off:=off) (d:=d) (by omega)
  have hj0:off+((ps.length:Int)).toNat=off+ps.length:=by omega
  have e64u:IntKind.u64.wrap (((over xs off ps).getD (off+((ps.length:Int)).toNat) 0:Nat):Int)=(us.getD ps.length 0:Nat):=by rw[hj0,hog,←hpg _ hlt];exact w64 _ (by omega)
  have e64v:IntKind.u64.wrap ((v.getD ((ps.length:Int)).toNat default:Nat):Int)=(v.getD ps.length 0:Nat):=w64 _ (show v.getD ps.length 0<_ by omega)
  have E1:IntKind.u64.wrap ((c:Int)+IntKind.u64.wrap (((over xs off ps).getD (off+((ps.length:Int)).toNat) 0:Nat):Int))=((c+us.getD ps.length 0:Nat):Int):=by
   rw[e64u,←Int.natCast_add]
   exact w64 _ (by omega)
  have E2:IntKind.u64.wrap (IntKind.u64.wrap ((c:Int)+IntKind.u64.wrap (((over xs off ps).getD (off+((ps.length:Int)).toNat) 0:Nat):Int))+IntKind.u64.wrap ((v.getD ((ps.length:Int)).toNat default:Nat):Int))=((c+us.getD ps.length 0+v.getD ps.length 0:Nat):Int):=by
   rw[E1,e64v,←Int.natCast_add]
   exact w64 _ (by omega)
  unfold rowN rowM
  by_cases c1:ps.length<v.length
  ·have c1':(ps.length:Int)<v.length:=by omega
   repeat(first|refine wDB ?_|refine awp_seq_k fun K hK=>?_|refine wN fun bx=>?_|(refine wH ?_;clear hK))
   refine⟨⟨(ps++[(c+us.getD ps.length 0+v.getD ps.length 0)%B32],(c+us.getD ps.length 0+v.getD ps.length 0)/B32),by rw[List.length_append];exact hlt,all_snoc hb (Nat.mod_lt _ (by decide)),hc',by simp only[List.length_append,List.length_singleton];exact hstep⟩,?_,⟨0,?_⟩,by simp only[List.length_append,List.length_singleton];omega⟩
   ·rw[E2,shr32]
    simp only[List.length_append,List.length_singleton]
    exact wk
   ·rw[E2,w32,hj0,←hset]
    exact congrArg (fun e=>[e]) (rowN_set (by omega))
  ·have c1':¬(ps.length:Int)<v.length:=by omega
   have v0:v.getD ps.length 0=0:=by rw[List.getD_eq_getElem?_getD,List.getElem?_eq_none (by omega)];rfl
   rw[v0,Nat.add_zero]at hstep hc'
   repeat(first|refine wDB ?_|refine awp_seq_k fun K hK=>?_|refine wN fun bx=>?_|(refine wH ?_;clear hK))
   refine⟨⟨(ps++[(c+us.getD ps.length 0)%B32],(c+us.getD ps.length 0)/B32),by rw[List.length_append];exact hlt,all_snoc hb (Nat.mod_lt _ (by decide)),hc',by simp only[List.length_append,List.length_singleton];exact hstep⟩,?_,⟨0,?_⟩,by simp only[List.length_append,List.length_singleton];omega⟩
   ·rw[E1,shr32]
    simp only[List.length_append,List.length_singleton]
    exact wk
   ·rw[E1,w32,hj0,←hset]
    exact congrArg (fun e=>[e]) (rowN_set (by omega))
 ·have hge:¬(ps.length:Int)<n:=by omega
  have hpn:ps.length=n:=by omega
  have hvp:valB B32 ps=(valB B32 us+valB B32 v)%B32^n:=by
   rw[hpn,List.take_of_length_le (by omega),List.take_of_length_le (by omega)]at hw
   have hl:=val_lt hb
   rw[hpn]at hl
   rw[←hw,Nat.add_mul_mod_self_right,Nat.mod_eq_of_lt hl]
  unfold rowN rowM
  repeat(first|refine wDB ?_|refine awp_seq_k fun K hK=>?_|refine wN fun bx=>?_|(refine wH ?_;clear hK))
  exact fnQ_ret 0 rfl .nil (Sub.refl _) ⟨⟨ps,hpn,hb,hvp⟩,rfl,rfl⟩
end Go.Proofs.YtamgilppehibeaaGreatDoor
namespace Go.Proofs.YtamgilppehibeaaGreatDoor
open Go.Ab
theorem and32 (n:Nat) (h:n<18446744073709551616):Go.Ab.bits .and .u64 (n:Int) 4294967295=((n%B32:Nat):Int):=by
 unfold Go.Ab.bits
 simp only
 have e:(BitVec.ofInt IntKind.u64.bits (n:Int)&&& BitVec.ofInt IntKind.u64.bits 4294967295).toNat=n%2^32:=by
  rw[BitVec.toNat_and,show(BitVec.ofInt IntKind.u64.bits 4294967295).toNat=2^32-1 from rfl,Nat.and_two_pow_sub_one_eq_mod]
  congr 1
  show(BitVec.ofInt 64 (n:Int)).toNat=n
  rw[BitVec.toNat_ofInt]
  omega
 rw[e,wu64]
 unfold B32
 omega
theorem wsub3 {a b c d c':Nat} (ha:a<B32) (hb:b<B32) (hc:c≤1) (hd:d+b+c=a+c'*B32) (hl:d<B32):IntKind.u32.wrap (IntKind.u64.wrap (IntKind.u64.wrap ((a:Int)-b)-c))=(d:Nat)∧(IntKind.u64.wrap (IntKind.u64.wrap ((a:Int)-b)-c)).fdiv (2^(min ((63:Int)).toNat IntKind.u64.bits))=(c':Nat):=by
 unfold B32 at ha hb hd hl
 have hc2:c'≤1:=by omega
 rw[wu32,wu64,wu64,show(2:Int)^(min ((63:Int)).toNat IntKind.u64.bits)=9223372036854775808 from rfl,Int.fdiv_eq_ediv_of_nonneg _ (by decide)]
 omega
theorem carry_next {q R x P B:Nat} (hP:0<P):q*(R+x*P)/(P*B)=(q*R/P+q*x)/B:=by
 rw[←Nat.div_div_eq_div_mul,Nat.mul_add,←Nat.mul_assoc,Nat.add_mul_div_right _ _ hP]
theorem carry_lt {q R P:Nat} (hq:q<B32) (hR:R<P):q*R/P<B32:=by
 refine Nat.div_lt_of_lt_mul ?_
 have h1:q*R≤q*P:=Nat.mul_le_mul_left _ (by omega)
 have h2:q*P<B32*P:=Nat.mul_lt_mul_of_pos_right hq (by omega)
 rw[Nat.mul_comm P]
 omega
theorem val_take_lt {B:Nat} (hB:0<B) {l:List Nat} (h:∀z∈l,z<B) (i:Nat):valB B (l.take i)<B^i:=
 Nat.lt_of_lt_of_le (val_lt (all_take h i)) (Nat.pow_le_pow_right hB (by rw[List.length_take];omega))
def OffR (n U S:Nat):Type:={ps:List Nat//ps.length=n∧(∀z∈ps,z<B32)∧valB B32 ps+S=U+if U<S then B32^n else 0}
theorem cbOff:Callable Tryz.prog 196:=fun _ _=>by kernel_rfl
theorem off_c (g off n cap q:Nat) (xs v:List Nat) (hx:LimOk 1000000000 xs) (hv:LimOk 1000000000 v) (hn:off+n≤xs.length) (hvn:v.length<n) (hq:q<B32):
  ACalls Tryz.prog 196 [.mslice g off n cap,lims v,.int .u64 q] [rowN .u32 g 164 xs] fun r H'=>∃p:OffR n (valB B32 ((xs.drop off).take n)) (q*valB B32 v),r=.ret (.bool (decide (valB B32 ((xs.drop off).take n)<q*valB B32 v)))∧H'=[rowN .u32 g 164 (over xs off p.1)]:=by
 refine acalls_of_awp tyok cbOff Tryz.func196 rfl rfl ?_
 have xl:=hx.len
 have vl:=hv.len
 have hpl:((xs.drop off).take n).length=n:=by rw[List.length_take,List.length_drop];omega
 have hpo:LimOk 1000000000 ((xs.drop off).take n):=(hx.drop off).take n
 have hpg:∀i,i<n→((xs.drop off).take n).getD i 0=xs.getD (off+i) 0:=fun i hi=>getD_part hi
 generalize (xs.drop off).take n=us at hpl hpo hpg ⊢
 repeat(first|refine wD ?_|refine awp_seq_k fun K hK=>?_|refine wN fun bx=>?_|(refine wH ?_;clear hK))
 refine awp_loop0 (ι:={s:List Nat×Nat//s.1.length≤n∧(∀z∈s.1,z<B32)∧s.2≤1∧valB B32 (us.take s.1.length)+(q*valB B32 (v.take s.1.length)/B32^s.1.length+s.2)*B32^s.1.length=valB B32 s.1+q*valB B32 (v.take s.1.length)})
  (fun s=>[(0,.mslice g off n cap),(1,lims v),(2,.int .u64 q),(7,.int .u64 (q*valB B32 (v.take s.1.1.length)/B32^s.1.1.length:Nat)),(8,.int .u64 (s.1.2:Nat)),(13,.int .i64 n),(14,.int .i64 s.1.1.length)])
  (fun s=>[rowN .u32 g 164 (over xs off s.1.1)]) (fun s=>n-s.1.1.length) ⟨([],0),Nat.zero_le _,fun z hz=>absurd hz List.not_mem_nil,Nat.zero_le _,by simp[valB]⟩ ?_ ⟨0,by rw[over_nil];rfl⟩ ?_
 ·have e0:q*valB B32 (v.take ([]:List Nat).length)/B32^([]:List Nat).length=0:=by simp[valB]
  simp only[e0]
  exact wk
 rintro⟨⟨ps,bo⟩,hi,hb,hbo,hw⟩
 simp only at hi hb hbo hw ⊢
 have hol:=over_len (xs:=xs) (ps:=ps) (off:=off) (by omega)
 have hog:=over_get (xs:=xs) (ps:=ps) (off:=off) (by omega)
 have hcl:=carry_lt hq (val_take_lt (show 0<B32 by decide) hv.lt ps.length)
 by_cases hlt:ps.length<n
 ·have hlt':(ps.length:Int)<n:=by omega
  have hui:=hpo.getD ps.length
  have hvi:=hv.getD ps.length
  have hB:B32=4294967296:=rfl
  have hcn:=carry_next (q:=q) (R:=valB B32 (v.take ps.length)) (x:=v.getD ps.length 0) (B:=B32) (show 0<B32^ps.length from Nat.pow_pos (by decide))
  rw[←Nat.pow_succ,←val_take_succ]at hcn
  obtain⟨m1,_,m3,_⟩:=mul_big hcl hq hvi (show 0<B32 by decide)
  rw[Nat.add_zero]at m3
  generalize q*valB B32 (v.take ps.length)/B32^ps.length=c at hw hcl hcn m3 ⊢
  obtain⟨d,bo',hd,hbo',hdd⟩:=sub_digit (us.getD ps.length 0) ((c+q*v.getD ps.length 0)%B32) bo hui (Nat.mod_lt _ (by decide)) hbo
  have hstep:=off_step hw (Nat.mod_add_div (c+q*v.getD ps.length 0) B32).symm hdd.symm
  rw[←Nat.pow_succ,←val_snoc,←val_take_succ,←val_take_succ,←hcn]at hstep
  have hset:=fun d=>over_set (xs:=xs) (ps:=ps) (off:=off) (d:=d) (by omega)
  have hj0:off+((ps.length:Int)).toNat=off+ps.length:=by omega
  have e64u:IntKind.u64.wrap (((over xs off ps).getD (off+((ps.length:Int)).toNat) 0:Nat):Int)=(us.getD ps.length 0:Nat):=by rw[hj0,hog,←hpg _ hlt];exact w64 _ (by omega)
  have e64v:IntKind.u64.wrap ((v.getD ((ps.length:Int)).toNat default:Nat):Int)=(v.getD ps.length 0:Nat):=w64 _ (show v.getD ps.length 0<_ by omega)
  have hwd:=wsub3 hui (Nat.mod_lt _ (show 0<B32 by decide)) hbo hdd hd
  unfold rowN rowM
  by_cases c1:ps.length<v.length
  ·have c1':(ps.length:Int)<v.length:=by omega
   have E1:IntKind.u64.wrap ((c:Int)+IntKind.u64.wrap ((q:Int)*IntKind.u64.wrap ((v.getD ((ps.length:Int)).toNat default:Nat):Int)))=((c+q*v.getD ps.length 0:Nat):Int):=by
    rw[e64v,←Int.natCast_mul,w64 _ m1,←Int.natCast_add,w64 _ m3]
   repeat(first|refine wDB ?_|refine awp_seq_k fun K hK=>?_|refine wN fun bx=>?_|(refine wH ?_;clear hK))
   refine⟨⟨(ps++[d],bo'),by rw[List.length_append];exact hlt,all_snoc hb hd,hbo',by simp only[List.length_append,List.length_singleton];exact hstep⟩,?_,⟨0,?_⟩,by simp only[List.length_append,List.length_singleton];omega⟩
   ·rw[E1,and32 _ m3,e64u,hwd.2,shr32,←hcn]
    simp only[List.length_append,List.length_singleton]
    exact wk
   ·rw[E1,and32 _ m3,e64u,hwd.1,hj0,←hset]
    exact congrArg (fun e=>[e]) (rowN_set (by omega))
  ·have c1':¬(ps.length:Int)<v.length:=by omega
   have v0:v.getD ps.length 0=0:=by rw[List.getD_eq_getElem?_getD,List.getElem?_eq_none (by omega)];rfl
   rw[v0,Nat.mul_zero]at hcn hwd m3
   rw[Nat.add_zero]at hwd m3
   rw[show c+0=c from rfl]at hcn
   have E1:IntKind.u64.wrap ((c:Int)+IntKind.u64.wrap ((q:Int)*0))=(c:Int):=by
    rw[Int.mul_zero,show IntKind.u64.wrap 0=0 from rfl,Int.add_zero,w64 _ m3]
   repeat(first|refine wDB ?_|refine awp_seq_k fun K hK=>?_|refine wN fun bx=>?_|(refine wH ?_;clear hK))
   refine⟨⟨(ps++[d],bo'),by rw[List.length_append];exact hlt,all_snoc hb hd,hbo',by simp only[List.length_append,List.length_singleton];exact hstep⟩,?_,⟨0,?_⟩,by simp only[List.length_append,List.length_singleton];omega⟩
   ·rw[E1,and32 _ m3,e64u,hwd.2,shr32,←hcn]
    simp only[List.length_append,List.length_singleton]
    exact wk
   ·rw[E1,and32 _ m3,e64u,hwd.1,hj0,←hset]
    exact congrArg (fun e=>[e]) (rowN_set (by omega))
 ·have hge:¬(ps.length:Int)<n:=by omega
  have hpn:ps.length=n:=by omega
  have hlb:=val_lt hb
  have hqv:q*valB B32 v<B32^n:=by
   have h1:=val_lt hv.lt
   have h2:B32^(v.length+1)≤B32^n:=Nat.pow_le_pow_right (by decide) hvn
   rw[Nat.pow_succ,Nat.mul_comm]at h2
   have h3:q*valB B32 v≤q*B32^v.length:=Nat.mul_le_mul_left _ (by omega)
   have h4:q*B32^v.length<B32*B32^v.length:=Nat.mul_lt_mul_of_pos_right hq (Nat.pow_pos (by decide))
   omega
  rw[hpn,List.take_of_length_le (by omega),List.take_of_length_le (by omega),Nat.div_eq_of_lt hqv,Nat.zero_add]at hw
  rw[hpn]at hlb
  rcases(show bo=0∨bo=1 by omega)with rfl|rfl
  ·rw[Nat.zero_mul,Nat.add_zero]at hw
   have hnl:¬valB B32 us<q*valB B32 v:=by omega
   unfold rowN rowM
   repeat(first|refine wDB ?_|refine awp_seq_k fun K hK=>?_|refine wN fun bx=>?_|(refine wH ?_;clear hK))
   exact fnQ_ret 0 rfl (.tmp rfl .nil) (Sub.of_eq (by rw[decide_eq_false hnl];rfl)) ⟨⟨ps,hpn,hb,by rw[if_neg hnl];omega⟩,rfl,rfl⟩
  ·rw[Nat.one_mul]at hw
   have hnl:valB B32 us<q*valB B32 v:=by omega
   unfold rowN rowM
   repeat(first|refine wDB ?_|refine awp_seq_k fun K hK=>?_|refine wN fun bx=>?_|(refine wH ?_;clear hK))
   exact fnQ_ret 0 rfl (.tmp rfl .nil) (Sub.of_eq (by rw[decide_eq_true hnl];rfl)) ⟨⟨ps,hpn,hb,by rw[if_pos hnl];omega⟩,rfl,rfl⟩
end Go.Proofs.YtamgilppehibeaaGreatDoor
namespace Go.Proofs.YtamgilppehibeaaGreatDoor
open Go.Ab
theorem or32 {a b:Nat} (ha:a<B32) (hb:b<B32):Go.Ab.bits .or .u64 (IntKind.u64.wrap ((a:Int)*2^(min ((32:Int)).toNat IntKind.u64.bits))) (b:Int)=((a*B32+b:Nat):Int):=by
 unfold B32 at*
 have e0:IntKind.u64.wrap ((a:Int)*2^(min ((32:Int)).toNat IntKind.u64.bits))=((a*4294967296:Nat):Int):=by
  rw[show(2:Int)^(min ((32:Int)).toNat IntKind.u64.bits)=4294967296 from rfl,wu64]
  omega
 rw[e0]
 unfold Go.Ab.bits
 simp only
 have e:(BitVec.ofInt IntKind.u64.bits ((a*4294967296:Nat):Int) |||BitVec.ofInt IntKind.u64.bits (b:Int)).toNat=a*4294967296+b:=by
  have h1:(BitVec.ofInt IntKind.u64.bits ((a*4294967296:Nat):Int)).toNat=2^32*a:=by
   show(BitVec.ofInt 64 ((a*4294967296:Nat):Int)).toNat=_
   rw[BitVec.toNat_ofInt]
   omega
  have h2:(BitVec.ofInt IntKind.u64.bits (b:Int)).toNat=b:=by
   show(BitVec.ofInt 64 (b:Int)).toNat=_
   rw[BitVec.toNat_ofInt]
   omega
  rw[BitVec.toNat_or,h1,h2,←Nat.two_pow_add_eq_or_of_lt (by omega)]
  omega
 rw[e,wu64]
 omega
theorem kd_top {U V P u' v' top u2 v1 v2 B:Nat} (hU:U=(top*B+u2)*P+u') (hV:V=(v1*B+v2)*P+v') (hv:v'<P) (hv2:v2<B) (h:U<V*B):top<(v1+1)*B:=by
 have h1:top*(B*P)≤U:=by
  rw[hU,Nat.add_mul,Nat.mul_assoc]
  omega
 have h2:V≤(v1+1)*B*P:=by
  have h3:(v1*B+v2+1)*P≤(v1+1)*B*P:=Nat.mul_le_mul_right _ (by rw[Nat.add_mul,Nat.one_mul];omega)
  rw[Nat.add_mul,Nat.one_mul]at h3
  omega
 have h4:V*B≤(v1+1)*B*P*B:=Nat.mul_le_mul_right _ h2
 have h5:(v1+1)*B*P*B=(v1+1)*B*(B*P):=by rw[Nat.mul_assoc,Nat.mul_comm P B]
 exact Nat.lt_of_mul_lt_mul_right (a:=B*P) (by omega)
theorem val_top3 (B:Nat) (u:List Nat) (k:Nat) (h:u.length=k+3):valB B u=((u.getD (k+2) 0*B+u.getD (k+1) 0)*B+u.getD k 0)*B^k+valB B (u.take k):=by
 rw[val_take_drop B u k (by omega),val_drop_succ,val_drop_succ,val_drop_succ,List.drop_eq_nil_of_le (by omega)]
 simp only[valB]
 grind
theorem val_top2 (B:Nat) (u:List Nat) (k:Nat) (h:u.length=k+2):valB B u=(u.getD (k+1) 0*B+u.getD k 0)*B^k+valB B (u.take k):=by
 rw[val_take_drop B u k (by omega),val_drop_succ,val_drop_succ,List.drop_eq_nil_of_le (by omega)]
 simp only[valB]
 grind
def GuessR (U V:Nat):Type:={x:Nat//x<B32∧U/V≤x∧x≤U/V+1}
theorem cbGuess:Callable Tryz.prog 195:=fun _ _=>by kernel_rfl
theorem guess_c (u v:List Nat) (k:Nat) (hu:LimOk 1000000000 u) (hv:LimOk 1000000000 v) (hul:u.length=k+3) (hvl:v.length=k+2) (htop:2147483648≤v.getD (k+1) 0) (hUV:valB B32 u<valB B32 v*B32):
  ACalls Tryz.prog 195 [lims u,lims v] [] fun r H'=>∃x:GuessR (valB B32 u) (valB B32 v),r=.ret (.int .u64 (x.1:Nat))∧H'=[]:=by
 refine acalls_of_awp tyok cbGuess Tryz.func195 rfl rfl ?_
 have xl:=hu.len
 have g0:u.getD ((v.length:Int)).toNat default=u.getD (k+2) 0:=by rw[Int.toNat_natCast,hvl];rfl
 have g1:u.getD (((v.length:Int)-1)).toNat default=u.getD (k+1) 0:=by rw[show(((v.length:Int)-1)).toNat=k+1 by omega];rfl
 have g2:u.getD (((v.length:Int)-2)).toNat default=u.getD k 0:=by rw[show(((v.length:Int)-2)).toNat=k by omega];rfl
 have w1:v.getD (((v.length:Int)-1)).toNat default=v.getD (k+1) 0:=by rw[show(((v.length:Int)-1)).toNat=k+1 by omega];rfl
 have w2:v.getD (((v.length:Int)-2)).toNat default=v.getD k 0:=by rw[show(((v.length:Int)-2)).toNat=k by omega];rfl
 have eU:=val_top3 B32 u k hul
 have eV:=val_top2 B32 v k hvl
 have tU:=val_take_lt (show 0<B32 by decide) hu.lt k
 have tV:=val_take_lt (show 0<B32 by decide) hv.lt k
 have b0:=hu.getD (k+2)
 have b1:=hu.getD (k+1)
 have b2:=hu.getD k
 have c1:=hv.getD (k+1)
 have c2:=hv.getD k
 have q0:IntKind.u64.wrap ((u.getD ((v.length:Int)).toNat default:Nat):Int)=(u.getD (k+2) 0:Nat):=by rw[g0];exact w64 _ (Nat.lt_trans b0 (by decide))
 have q1:IntKind.u64.wrap ((u.getD (((v.length:Int)-1)).toNat default:Nat):Int)=(u.getD (k+1) 0:Nat):=by rw[g1];exact w64 _ (Nat.lt_trans b1 (by decide))
 have q2:IntKind.u64.wrap ((u.getD (((v.length:Int)-2)).toNat default:Nat):Int)=(u.getD k 0:Nat):=by rw[g2];exact w64 _ (Nat.lt_trans b2 (by decide))
 have r1:IntKind.u64.wrap ((v.getD (((v.length:Int)-1)).toNat default:Nat):Int)=(v.getD (k+1) 0:Nat):=by rw[w1];exact w64 _ (Nat.lt_trans c1 (by decide))
 have r2:IntKind.u64.wrap ((v.getD (((v.length:Int)-2)).toNat default:Nat):Int)=(v.getD k 0:Nat):=by rw[w2];exact w64 _ (Nat.lt_trans c2 (by decide))
 have E6:Go.Ab.bits .or .u64 (IntKind.u64.wrap (IntKind.u64.wrap ((u.getD ((v.length:Int)).toNat default:Nat):Int)*2^(min ((32:Int)).toNat IntKind.u64.bits))) (IntKind.u64.wrap ((u.getD (((v.length:Int)-1)).toNat default:Nat):Int))=((u.getD (k+2) 0*B32+u.getD (k+1) 0:Nat):Int):=by
  rw[q0,q1]
  exact or32 b0 b1
 have hT:=kd_top eU eV tV c2 hUV
 have hdiv:=Nat.div_add_mod (valB B32 u) (valB B32 v)
 have hVpos:B32*B32^k≤valB B32 v:=by
  rw[eV]
  have h0:1*B32≤v.getD (k+1) 0*B32:=Nat.mul_le_mul_right _ (by omega)
  have h1:B32*B32^k≤(v.getD (k+1) 0*B32+v.getD k 0)*B32^k:=Nat.mul_le_mul_right _ (by omega)
  omega
 have hmodlt:=Nat.mod_lt (valB B32 u) (show 0<valB B32 v by have:0<B32*B32^k:=Nat.mul_pos (by decide) (Nat.pow_pos (by decide));omega)
 have hqV:valB B32 u/valB B32 v*valB B32 v≤valB B32 u:=Nat.div_mul_le_self _ _
 have hqU:valB B32 u<(valB B32 u/valB B32 v+1)*valB B32 v:=by rw[Nat.add_mul,Nat.one_mul,Nat.mul_comm];omega
 have hqB:valB B32 u/valB B32 v<B32:=Nat.div_lt_of_lt_mul hUV
 have hfirst:=kd_first eU eV tU b2 hqV
 obtain⟨Q,hQ⟩:∃Q,Q=valB B32 u/valB B32 v:=⟨_,rfl⟩
 rw[←hQ]at hqV hqU hqB hfirst
 have hv1:0<v.getD (k+1) 0:=by omega
 have hB:B32=4294967296:=rfl
 have hTb:u.getD (k+2) 0*B32+u.getD (k+1) 0<18446744073709551616:=by
  rw[hB]at b0 b1 ⊢
  omega
 repeat(first|refine wD ?_|refine awp_seq_k fun K hK=>?_|refine wN fun bx=>?_|(refine wH ?_;clear hK))
 refine awp_scopeS ?_
 repeat(first|refine wDB ?_|refine awp_seq_k fun K hK=>?_|refine wN fun bx=>?_|(refine wH ?_;clear hK))
 have E7:Go.Ab.bits .or .u64 (IntKind.u64.wrap (IntKind.u64.wrap ((u.getD ((v.length:Int)).toNat default:Nat):Int)*2^(min ((32:Int)).toNat IntKind.u64.bits))) (IntKind.u64.wrap ((u.getD (((v.length:Int)-1)).toNat default:Nat):Int))/IntKind.u64.wrap ((v.getD (((v.length:Int)-1)).toNat default:Nat):Int)=(((u.getD (k+2) 0*B32+u.getD (k+1) 0)/v.getD (k+1) 0:Nat):Int):=by rw[E6,r1,Int.natCast_ediv]
 have E8:Go.Ab.bits .or .u64 (IntKind.u64.wrap (IntKind.u64.wrap ((u.getD ((v.length:Int)).toNat default:Nat):Int)*2^(min ((32:Int)).toNat IntKind.u64.bits))) (IntKind.u64.wrap ((u.getD (((v.length:Int)-1)).toNat default:Nat):Int))%IntKind.u64.wrap ((v.getD (((v.length:Int)-1)).toNat default:Nat):Int)=(((u.getD (k+2) 0*B32+u.getD (k+1) 0)%v.getD (k+1) 0:Nat):Int):=by rw[E6,r1,Int.natCast_emod]
 rw[E7,E8]
 refine awp_loop0 (ι:={s:Nat×Nat//Q≤s.1∧u.getD (k+2) 0*B32+u.getD (k+1) 0=s.1*v.getD (k+1) 0+s.2∧s.2<B32∧s.1<18446744073709551616})
  (fun s=>[(0,lims u),(1,lims v),(5,.int .i64 v.length),(7,.int .u64 (s.1.1:Nat)),(8,.int .u64 (s.1.2:Nat))]) (fun _=>[]) (fun s=>s.1.1)
  ⟨((u.getD (k+2) 0*B32+u.getD (k+1) 0)/v.getD (k+1) 0,(u.getD (k+2) 0*B32+u.getD (k+1) 0)%v.getD (k+1) 0),(Nat.le_div_iff_mul_le hv1).2 hfirst,(Nat.div_add_mod' _ _).symm,Nat.lt_trans (Nat.mod_lt _ hv1) c1,Nat.lt_of_le_of_lt (Nat.div_le_self _ _) hTb⟩ wk dp ?_
 rintro⟨⟨x,r⟩,hx,ht,hr,hxb⟩
 simp only at hx ht hr hxb ⊢
 by_cases cB:B32≤x
 ·have cB':(x:Int)≥4294967296:=by omega
  have hQx:Q<x:=by omega
  have s1:IntKind.u64.wrap ((x:Int)-1)=((x-1:Nat):Int):=by rw[show(x:Int)-1=((x-1:Nat):Int) by omega];exact w64 _ (by omega)
  have s2:IntKind.u64.wrap ((r:Int)+IntKind.u64.wrap ((v.getD (((v.length:Int)-1)).toNat default:Nat):Int))=((r+v.getD (k+1) 0:Nat):Int):=by rw[r1,←Int.natCast_add];exact w64 _ (by omega)
  have hx1:x=(x-1)+1:=by omega
  have ht1:u.getD (k+2) 0*B32+u.getD (k+1) 0=(x-1)*v.getD (k+1) 0+(r+v.getD (k+1) 0):=by
   rw[ht]
   conv=>lhs;rw[hx1,Nat.add_mul,Nat.one_mul]
   omega
  by_cases br:B32≤r+v.getD (k+1) 0
  ·have br':IntKind.u64.wrap ((r:Int)+IntKind.u64.wrap ((v.getD (((v.length:Int)-1)).toNat default:Nat):Int))≥4294967296:=by rw[s2];omega
   have hxB:x-1<B32:=by
    rcases Nat.lt_or_ge (x-1) B32 with z|z
    ·exact z
    ·have:=Nat.mul_le_mul_right (v.getD (k+1) 0) z
     rw[Nat.mul_comm B32]at this
     rw[Nat.add_mul,Nat.one_mul]at hT
     omega
   have hW:=kd_break (u2:=u.getD k 0) ht1 br hxB c2
   have hup:=kd_up eU eV tV hVpos hqU hW hxB
   repeat(first|refine wDB ?_|refine awp_seq_k fun K hK=>?_|refine wN fun bx=>?_|(refine wH ?_;clear hK))
   refine retS_ret ?_
   exact fnQ_ret 0 rfl (.tmp rfl .nil) (Sub.of_eq (by rw[s1];rfl)) ⟨⟨x-1,hxB,by rw[←hQ];omega,by rw[←hQ];exact hup⟩,rfl,rfl⟩
  ·have br':¬IntKind.u64.wrap ((r:Int)+IntKind.u64.wrap ((v.getD (((v.length:Int)-1)).toNat default:Nat):Int))≥4294967296:=by rw[s2];omega
   repeat(first|refine wDB ?_|refine awp_seq_k fun K hK=>?_|refine wN fun bx=>?_|(refine wH ?_;clear hK))
   refine⟨⟨(x-1,r+v.getD (k+1) 0),by simp only;omega,ht1,by simp only;omega,by simp only;omega⟩,?_,dp,by simp only;omega⟩
   rw[s1,s2]
   exact wk
 have cB':¬(x:Int)≥4294967296:=by omega
 have hxv:x*v.getD k 0<18446744073709551616:=(mul_big (show 0<B32 by decide) (show x<B32 by omega) c2 (show 0<B32 by decide)).1
 have M1:IntKind.u64.wrap ((x:Int)*IntKind.u64.wrap ((v.getD (((v.length:Int)-2)).toNat default:Nat):Int))=((x*v.getD k 0:Nat):Int):=by rw[r2,←Int.natCast_mul];exact w64 _ hxv
 have M2:Go.Ab.bits .or .u64 (IntKind.u64.wrap ((r:Int)*2^(min ((32:Int)).toNat IntKind.u64.bits))) (IntKind.u64.wrap ((u.getD (((v.length:Int)-2)).toNat default:Nat):Int))=((r*B32+u.getD k 0:Nat):Int):=by rw[q2];exact or32 hr b2
 by_cases cm:r*B32+u.getD k 0<x*v.getD k 0
 ·have cm':IntKind.u64.wrap ((x:Int)*IntKind.u64.wrap ((v.getD (((v.length:Int)-2)).toNat default:Nat):Int))>Go.Ab.bits .or .u64 (IntKind.u64.wrap ((r:Int)*2^(min ((32:Int)).toNat IntKind.u64.bits))) (IntKind.u64.wrap ((u.getD (((v.length:Int)-2)).toNat default:Nat):Int)):=by rw[M1,M2];omega
  have hQx:Q<x:=kd_dec eU eV tU hqV (by
   rw[ht,Nat.mul_add,Nat.add_mul,Nat.mul_assoc]
   omega)
  have s1:IntKind.u64.wrap ((x:Int)-1)=((x-1:Nat):Int):=by rw[show(x:Int)-1=((x-1:Nat):Int) by omega];exact w64 _ (by omega)
  have s2:IntKind.u64.wrap ((r:Int)+IntKind.u64.wrap ((v.getD (((v.length:Int)-1)).toNat default:Nat):Int))=((r+v.getD (k+1) 0:Nat):Int):=by rw[r1,←Int.natCast_add];exact w64 _ (by omega)
  have hx1:x=(x-1)+1:=by omega
  have ht1:u.getD (k+2) 0*B32+u.getD (k+1) 0=(x-1)*v.getD (k+1) 0+(r+v.getD (k+1) 0):=by
   rw[ht]
   conv=>lhs;rw[hx1,Nat.add_mul,Nat.one_mul]
   omega
  by_cases br:B32≤r+v.getD (k+1) 0
  ·have br':IntKind.u64.wrap ((r:Int)+IntKind.u64.wrap ((v.getD (((v.length:Int)-1)).toNat default:Nat):Int))≥4294967296:=by rw[s2];omega
   have hxB:x-1<B32:=by
    rcases Nat.lt_or_ge (x-1) B32 with z|z
    ·exact z
    ·have:=Nat.mul_le_mul_right (v.getD (k+1) 0) z
     rw[Nat.mul_comm B32]at this
     rw[Nat.add_mul,Nat.one_mul]at hT
     omega
   have hW:=kd_break (u2:=u.getD k 0) ht1 br hxB c2
   have hup:=kd_up eU eV tV hVpos hqU hW hxB
   repeat(first|refine wDB ?_|refine awp_seq_k fun K hK=>?_|refine wN fun bx=>?_|(refine wH ?_;clear hK))
   refine retS_ret ?_
   exact fnQ_ret 0 rfl (.tmp rfl .nil) (Sub.of_eq (by rw[s1];rfl)) ⟨⟨x-1,hxB,by rw[←hQ];omega,by rw[←hQ];exact hup⟩,rfl,rfl⟩
  ·have br':¬IntKind.u64.wrap ((r:Int)+IntKind.u64.wrap ((v.getD (((v.length:Int)-1)).toNat default:Nat):Int))≥4294967296:=by rw[s2];omega
   repeat(first|refine wDB ?_|refine awp_seq_k fun K hK=>?_|refine wN fun bx=>?_|(refine wH ?_;clear hK))
   refine⟨⟨(x-1,r+v.getD (k+1) 0),by simp only;omega,ht1,by simp only;omega,by simp only;omega⟩,?_,dp,by simp only;omega⟩
   rw[s1,s2]
   exact wk
 ·have cm':¬IntKind.u64.wrap ((x:Int)*IntKind.u64.wrap ((v.getD (((v.length:Int)-2)).toNat default:Nat):Int))>Go.Ab.bits .or .u64 (IntKind.u64.wrap ((r:Int)*2^(min ((32:Int)).toNat IntKind.u64.bits))) (IntKind.u64.wrap ((u.getD (((v.length:Int)-2)).toNat default:Nat):Int)):=by rw[M1,M2];omega
  have hup:=kd_up eU eV tV hVpos hqU (x:=x) (by
   rw[ht,Nat.mul_add,Nat.add_mul,Nat.mul_assoc]
   omega) (by omega)
  repeat(first|refine wDB ?_|refine awp_seq_k fun K hK=>?_|refine wN fun bx=>?_|(refine wH ?_;clear hK))
  refine retS_ret ?_
  exact fnQ_ret 0 rfl (.tmp rfl .nil) (Sub.refl _) ⟨⟨x,by omega,by rw[←hQ];exact hx,by rw[←hQ];exact hup⟩,rfl,rfl⟩
end Go.Proofs.YtamgilppehibeaaGreatDoor
namespace Go.Proofs.YtamgilppehibeaaGreatDoor
open Go.Ab
theorem top_get {xs qs:List Nat} {m:Nat} (h:m<xs.length):(xs.take (m+1)++qs).getD m 0=xs.getD m 0:=by
 rw[List.getD_eq_getElem?_getD,List.getElem?_append_left (by rw[List.length_take];omega),List.getElem?_take,if_pos (Nat.lt_succ_self m),←List.getD_eq_getElem?_getD]
theorem top_set {xs qs:List Nat} {m d:Nat} (h:m<xs.length):(xs.take (m+1)++qs).set m d=xs.take m++d::qs:=by
 rw[List.take_succ_eq_append_getElem h,List.append_assoc,List.singleton_append,List.set_append_right _ _ (by rw[List.length_take];omega),List.length_take,Nat.min_eq_left (by omega),Nat.sub_self,List.set_cons_zero]
theorem cbLimb:Callable Tryz.prog 139:=fun _ _=>by kernel_rfl
theorem limb_c (a:List Nat) (d:Nat) (h:LimOk 1000000000 a) (hd0:0<d) (hd:d<B32):PCalls Tryz.prog 139 [lims a,.int .u32 d] (.tuple [lims (digs B32 (valB B32 a/d)),.int .u32 (valB B32 a%d:Nat),.int .i64 0]):=by
 refine pcalls_of_awp tyok cbLimb Tryz.func139 rfl rfl ?_
 have ht:=trim_c a h
 have ok:=h.trim
 have hva:=val_digs B32_two (valB B32 a)
 generalize digs B32 (valB B32 a)=xs at ht ok hva
 generalize valB B32 a=va at hva ⊢
 have xl:=ok.len
 have hB:B32=4294967296:=rfl
 have hd0':¬(d:Int)=0:=by omega
 repeat(first|refine wDB ?_|refine awp_seq_k fun K hK=>?_|refine wN fun bx=>?_|(refine wH ?_;clear hK))
 refine qcallXV (G:=[]) (Hc:=[]) (Hc':=fun g=>[rowN .u32 g 164 xs]) (H2:=fun g=>[rowN .u32 g 164 xs]) ht fun g=>?_
 unfold rowN rowM
 repeat(first|refine wDB ?_|refine awp_seq_k fun K hK=>?_|refine wN fun bx=>?_|(refine wH ?_;clear hK))
 refine awp_loop0 (ι:={s:List Nat×Nat//s.1.length≤xs.length∧(∀z∈s.1,z<B32)∧s.2<d∧valB B32 (xs.drop (xs.length-s.1.length))=d*valB B32 s.1+s.2})
  (fun s=>[(0,.mslice g 0 xs.length xs.length),(1,.int .u32 d),(7,.int .u64 (s.1.2:Nat)),(15,.int .i64 xs.length),(16,.int .i64 s.1.1.length)])
  (fun s=>[rowN .u32 g 164 (xs.take (xs.length-s.1.1.length)++s.1.1)]) (fun s=>xs.length-s.1.1.length) ⟨([],0),Nat.zero_le _,fun z hz=>absurd hz List.not_mem_nil,hd0,by simp[valB]⟩ wk ⟨0,by simp only[List.length_nil,Nat.sub_zero,List.take_length,List.append_nil];rfl⟩ ?_
 rintro⟨⟨qs,r⟩,hi,hb,hr,hw⟩
 simp only at hi hb hr hw ⊢
 by_cases hlt:qs.length<xs.length
 ·have hlt':(qs.length:Int)<xs.length:=by omega
  obtain⟨m,hm⟩:∃m,xs.length-qs.length=m+1:=⟨xs.length-qs.length-1,by omega⟩
  have hml:m<xs.length:=by omega
  have hj0:0+(((xs.length:Int)-1-qs.length)).toNat=m:=by omega
  have hxm:=ok.getD m
  have hstep:=by_step (B:=B32) (d:=xs.getD m 0) hw
  rw[hm,←val_drop_succ]at hstep
  have hqB:(r*B32+xs.getD m 0)/d<B32:=Nat.div_lt_of_lt_mul (by
   have h1:(r+1)*B32≤d*B32:=Nat.mul_le_mul_right _ hr
   rw[Nat.add_mul,Nat.one_mul]at h1
   omega)
  have hlen:(xs.take (m+1)++qs).length=xs.length:=by rw[List.length_append,List.length_take];omega
  have hget:=top_get (qs:=qs) hml
  have E0:IntKind.u64.wrap (((xs.take (m+1)++qs).getD (0+(((xs.length:Int)-1-qs.length)).toNat) 0:Nat):Int)=(xs.getD m 0:Nat):=by rw[hj0,hget];exact w64 _ (Nat.lt_trans hxm (by decide))
  have E1:Go.Ab.bits .or .u64 (IntKind.u64.wrap ((r:Int)*2^(min ((32:Int)).toNat IntKind.u64.bits))) (IntKind.u64.wrap (((xs.take (m+1)++qs).getD (0+(((xs.length:Int)-1-qs.length)).toNat) 0:Nat):Int))=((r*B32+xs.getD m 0:Nat):Int):=by rw[E0];exact or32 (Nat.lt_trans hr hd) hxm
  have D1:IntKind.u64.wrap (d:Int)=(d:Nat):=w64 _ (Nat.lt_trans hd (by decide))
  have hbig:r*B32+xs.getD m 0<18446744073709551616:=by
   have:r<B32:=Nat.lt_trans hr hd
   rw[hB]at this hxm ⊢
   omega
  rw[hm]
  unfold rowN rowM
  repeat(first|refine wDB ?_|refine awp_seq_k fun K hK=>?_|refine wN fun bx=>?_|(refine wH ?_;clear hK))
  refine⟨⟨((r*B32+xs.getD m 0)/d::qs,(r*B32+xs.getD m 0)%d),by simp only[List.length_cons];omega,fun z hz=>?_,Nat.mod_lt _ hd0,?_⟩,?_,⟨0,?_⟩,by simp only[List.length_cons];omega⟩
  ·rcases List.mem_cons.1 hz with rfl|hz
   ·exact hqB
   ·exact hb z hz
  ·simp only[List.length_cons,valB]
   rw[show xs.length-(qs.length+1)=m by omega]
   exact hstep
  ·rw[E1,D1,←Int.natCast_emod]
   simp only[List.length_cons]
   exact wk
  ·simp only[List.length_cons]
   rw[E1,D1,←Int.natCast_ediv,w32,Nat.mod_eq_of_lt hqB,hj0,show xs.length-(qs.length+1)=m by omega,←top_set hml]
   exact congrArg (fun e=>[e]) (rowN_set (by omega))
 ·have hge:¬(qs.length:Int)<xs.length:=by omega
  have hql:qs.length=xs.length:=by omega
  rw[hql,Nat.sub_self,List.drop_zero,hva]at hw
  have hdl:=div_law (a:=va) (b:=d) (q:=valB B32 qs) (r:=r) (by rw[hw,Nat.mul_comm];omega) hr
  have sx:=trimV_c qs ⟨hb,by omega⟩
  rw[hdl.1]at sx
  rw[hql,Nat.sub_self,List.take_zero,List.nil_append]
  have hr32:r%B32=va%d:=by rw[Nat.mod_eq_of_lt (Nat.lt_trans hr hd)];exact hdl.2
  unfold rowN
  refine awp_freezeM [] (s:=0) rfl (rowN_all hql) ?_
  repeat(first|refine wDB ?_|refine awp_seq_k fun K hK=>?_|refine wN fun bx=>?_|refine wC sx ?_|(refine wH ?_;clear hK))
  refine r3 ?_ ?_ ?_
  ·exact Sub.refl _
  ·exact Sub.of_eq (by rw[w32,hr32])
  ·exact Sub.refl _
end Go.Proofs.YtamgilppehibeaaGreatDoor
namespace Go.Proofs.YtamgilppehibeaaGreatDoor
open Go.Ab
theorem orS {hi x s:Nat} (hs:s<32) (hh:hi<2^s):Go.Ab.bits .or .u32 (hi:Int) (((x*2^s)%B32:Nat):Int)=((hi+(x*2^s)%B32:Nat):Int)∧hi+(x*2^s)%B32<B32:=by
 have hB:B32=2^(32-s)*2^s:=by rw[←Nat.pow_add,Nat.sub_add_cancel (by omega)];rfl
 have ht:(x*2^s)%B32=(x%2^(32-s))*2^s:=by rw[hB,Nat.mul_mod_mul_right]
 have hlt:=Nat.mod_lt x (show 0<2^(32-s) from Nat.pow_pos (by decide))
 rw[ht]
 generalize x%2^(32-s)=t at hlt
 have h1:(t+1)*2^s≤2^(32-s)*2^s:=Nat.mul_le_mul_right _ hlt
 rw[←hB,Nat.add_mul,Nat.one_mul]at h1
 have hsum:hi+t*2^s<B32:=by omega
 refine⟨?_,hsum⟩
 have hb:B32=4294967296:=rfl
 have e:(BitVec.ofInt IntKind.u32.bits (hi:Int) |||BitVec.ofInt IntKind.u32.bits ((t*2^s:Nat):Int)).toNat=hi+t*2^s:=by
  have h2:(BitVec.ofInt IntKind.u32.bits (hi:Int)).toNat=hi:=by
   show(BitVec.ofInt 32 (hi:Int)).toNat=_
   rw[BitVec.toNat_ofInt]
   omega
  have h3:(BitVec.ofInt IntKind.u32.bits ((t*2^s:Nat):Int)).toNat=2^s*t:=by
   show(BitVec.ofInt 32 ((t*2^s:Nat):Int)).toNat=_
   rw[BitVec.toNat_ofInt,Nat.mul_comm (2^s)]
   omega
  rw[BitVec.toNat_or,h2,h3,Nat.or_comm,←Nat.two_pow_add_eq_or_of_lt hh,Nat.mul_comm t,Nat.add_comm]
 unfold Go.Ab.bits
 simp only
 rw[e,wu32]
 omega
theorem rowN_set2 {k:IntKind} {g:Nat} {t:TypeId} {xs:List Nat} {j1 j2 v1 v2:Nat} (h1:j1<xs.length) (h2:j2<xs.length):Ent.box g t (.vec xs.length fun i=>.int k (if i=j2 then(v2:Int) else if i=j1 then(v1:Int) else(xs.getD i 0:Nat)))=Ent.box g t (.vec ((xs.set j1 v1).set j2 v2).length fun i=>.int k (((xs.set j1 v1).set j2 v2).getD i 0:Nat)):=by
 rw[List.length_set,List.length_set]
 congr 2
 funext i
 simp only[List.getD_eq_getElem?_getD,List.getElem?_set,List.length_set]
 by_cases e2:i=j2
 ·subst e2
  simp[h2]
 ·have e2':¬j2=i:=fun h=>e2 h.symm
  by_cases e1:i=j1
  ·subst e1
   simp[e2,e2',h1]
  ·have e1':¬j1=i:=fun h=>e1 h.symm
   simp[e2,e2',e1,e1']
def shC (ps:List Nat) (hi la:Nat):List Nat:=ps++hi::List.replicate (la-ps.length) 0
theorem shC_len {ps:List Nat} {hi la:Nat} (h:ps.length≤la):(shC ps hi la).length=la+1:=by
 unfold shC
 rw[List.length_append,List.length_cons,List.length_replicate]
 omega
theorem shC_get (ps:List Nat) (hi la:Nat):(shC ps hi la).getD ps.length 0=hi:=by
 unfold shC
 rw[List.getD_eq_getElem?_getD,List.getElem?_append_right (Nat.le_refl _),Nat.sub_self]
 rfl
theorem shC_set {ps:List Nat} {hi la d h':Nat} (h:ps.length<la):((shC ps hi la).set ps.length d).set (ps.length+1) h'=shC (ps++[d]) h' la:=by
 obtain⟨m,hm⟩:∃m,la-ps.length=m+1:=⟨la-ps.length-1,by omega⟩
 have hm2:la-(ps.length+1)=m:=by omega
 unfold shC
 rw[hm,List.replicate_succ,List.set_append_right _ _ (Nat.le_refl _),Nat.sub_self,List.set_cons_zero,List.set_append_right _ _ (by omega),Nat.add_sub_cancel_left,List.set_cons_succ,List.set_cons_zero,List.length_append,List.length_singleton,hm2,List.append_assoc,List.singleton_append]
theorem sh_step {V h P A x d h' B S:Nat} (e:V+h*P=A*S) (hd:d+B*h'=h+x*S):V+d*P+h'*(P*B)=(A+x*P)*S:=by
 grind
theorem cbShl:Callable Tryz.prog 194:=fun _ _=>by kernel_rfl
theorem shl_c (a:List Nat) (s:Nat) (h:LimOk 100000000 a) (hs:s<32):ACalls Tryz.prog 194 [lims a,.int .i64 s] [] fun r H'=>
  ∃x:Nat×{xs:List Nat//xs.length=(digs B32 (valB B32 a)).length+1∧(∀z∈xs,z<B32)∧valB B32 xs=valB B32 a*2^s},
   r=.ret (.tuple [.mslice x.1 0 (digs B32 (valB B32 a*2^s)).length ((digs B32 (valB B32 a)).length+1),.int .i64 0])∧H'=[rowN .u32 x.1 164 x.2.1]:=by
 refine acalls_of_awp tyok cbShl Tryz.func194 rfl rfl ?_
 have gm:=may1_c s (by omega)
 have g1:=short_c a (h.mono (by decide))
 have ok:=h.trim
 have hva:=val_digs B32_two (valB B32 a)
 generalize digs B32 (valB B32 a)=x at g1 ok hva ⊢
 generalize valB B32 a=va at hva ⊢
 have xl:=ok.len
 have es32:(s:Int)/32=0:=by omega
 have hB:B32=4294967296:=rfl
 repeat(first|refine wDB ?_|refine awp_seq_k fun K hK=>?_|refine wN fun bx=>?_|refine wC gm ?_|refine wC g1 ?_|(refine wH ?_;clear hK))
 rw[es32,Int.add_zero]
 refine qmakeN tyok (m:=x.length+1) (k:=.u32) (fun g=>?_) ?_
 rotate_left
 ·simp only
  omega
 unfold rowN rowM
 repeat(first|refine wDB ?_|refine awp_seq_k fun K hK=>?_|refine wN fun bx=>?_|(refine wH ?_;clear hK))
 refine awp_loop0 (ι:={t:List Nat×Nat//t.1.length≤x.length∧(∀z∈t.1,z<B32)∧t.2<2^s∧valB B32 t.1+t.2*B32^t.1.length=valB B32 (x.take t.1.length)*2^s})
  (fun t=>[(0,lims x),(1,.int .i64 s),(6,.mslice g 0 (x.length+1) (x.length+1)),(22,lims x),(23,.int .i64 x.length),(24,.int .i64 t.1.1.length)])
  (fun t=>[rowN .u32 g 164 (shC t.1.1 t.1.2 x.length)]) (fun t=>x.length-t.1.1.length) ⟨([],0),Nat.zero_le _,fun z hz=>absurd hz List.not_mem_nil,Nat.pow_pos (by decide),by simp[valB]⟩ wk ⟨0,rfl⟩ ?_
 rintro⟨⟨ps,hi⟩,hp,hb,hh,hw⟩
 simp only at hp hb hh hw ⊢
 have hcl:=shC_len (hi:=hi) hp
 have h2s:2^s≤2^31:=Nat.pow_le_pow_right (by decide) (by omega)
 by_cases hlt:ps.length<x.length
 ·have hlt':(ps.length:Int)<x.length:=by omega
  have hxi:=ok.getD ps.length
  obtain⟨o1,o2⟩:=orS (x:=x.getD ps.length 0) hs hh
  have hwide:x.getD ps.length 0*2^s<18446744073709551616:=by
   have h1:x.getD ps.length 0*2^s≤4294967295*2^31:=Nat.mul_le_mul (by omega) h2s
   omega
  have hh':x.getD ps.length 0*2^s/B32<2^s:=Nat.div_lt_of_lt_mul (Nat.mul_lt_mul_of_pos_right hxi (Nat.pow_pos (by decide)))
  have hstep:=sh_step (x:=x.getD ps.length 0) (d:=hi+x.getD ps.length 0*2^s%B32) (h':=x.getD ps.length 0*2^s/B32) (B:=B32) hw (by have:=Nat.mod_add_div (x.getD ps.length 0*2^s) B32;omega)
  rw[←Nat.pow_succ,←val_snoc,←val_take_succ]at hstep
  have es:min (((s:Int)%32)).toNat IntKind.u64.bits=s:=by
   show min _ 64=s
   omega
  have hj1:0+((ps.length:Int)+(s:Int)/32).toNat=ps.length:=by omega
  have hj2:0+((ps.length:Int)+(s:Int)/32+1).toNat=ps.length+1:=by omega
  have E0:IntKind.u64.wrap (IntKind.u64.wrap ((x.getD ((ps.length:Int)).toNat default:Nat):Int)*2^(min (((s:Int)%32)).toNat IntKind.u64.bits))=((x.getD ps.length 0*2^s:Nat):Int):=by
   rw[es,show IntKind.u64.wrap ((x.getD ((ps.length:Int)).toNat default:Nat):Int)=(x.getD ps.length 0:Nat) from w64 _ (show x.getD ps.length 0<_ by omega),show((x.getD ps.length 0:Nat):Int)*2^s=((x.getD ps.length 0*2^s:Nat):Int) by rw[Int.natCast_mul,Int.natCast_pow];rfl]
   exact w64 _ hwide
  have E1:Go.Ab.bits .or .u32 (((shC ps hi x.length).getD (0+((ps.length:Int)+(s:Int)/32).toNat) 0:Nat):Int) (IntKind.u32.wrap (IntKind.u64.wrap (IntKind.u64.wrap ((x.getD ((ps.length:Int)).toNat default:Nat):Int)*2^(min (((s:Int)%32)).toNat IntKind.u64.bits))))=((hi+x.getD ps.length 0*2^s%B32:Nat):Int):=by
   rw[hj1,shC_get,E0,w32]
   exact o1
  have hd32:x.getD ps.length 0*2^s/B32%B32=x.getD ps.length 0*2^s/B32:=Nat.mod_eq_of_lt (by omega)
  have hset:=shC_set (d:=hi+x.getD ps.length 0*2^s%B32) (h':=x.getD ps.length 0*2^s/B32) (hi:=hi) hlt
  unfold rowN rowM
  repeat(first|refine wDB ?_|refine awp_seq_k fun K hK=>?_|refine wN fun bx=>?_|(refine wH ?_;clear hK))
  refine⟨⟨(ps++[hi+x.getD ps.length 0*2^s%B32],x.getD ps.length 0*2^s/B32),by rw[List.length_append];exact hlt,all_snoc hb o2,hh',by simp only[List.length_append,List.length_singleton];exact hstep⟩,?_,⟨0,?_⟩,by simp only[List.length_append,List.length_singleton];omega⟩
  ·simp only[List.length_append,List.length_singleton]
   exact wk
  ·simp only
   rw[E1,E0,shr32,w32,hd32,hj1,hj2,←hset]
   exact congrArg (fun e=>[e]) (rowN_set2 (by omega) (by omega))
 ·have hge:¬(ps.length:Int)<x.length:=by omega
  have hpl:ps.length=x.length:=by omega
  have hcs:shC ps hi x.length=ps++[hi]:=by unfold shC;rw[hpl,Nat.sub_self];rfl
  have hcb:∀z∈ps++[hi],z<B32:=all_snoc hb (by omega)
  have hcv:valB B32 (ps++[hi])=va*2^s:=by rw[val_snoc,hw,hpl,List.take_length,hva]
  rw[hcs]at hcl ⊢
  have gs:=shortM_c g (x.length+1) (x.length+1) (ps++[hi]) ⟨hcb,by omega⟩ (by omega) (Nat.le_refl _)
  rw[List.take_of_length_le (by omega),hcv]at gs
  repeat(first|refine wDB ?_|refine awp_seq_k fun K hK=>?_|refine wN fun bx=>?_|(refine wH ?_;clear hK))
  refine qcallH (G:=[]) gs ?_
  repeat(first|refine wDB ?_|refine awp_seq_k fun K hK=>?_|refine wN fun bx=>?_|(refine wH ?_;clear hK))
  exact fnQ_ret 0 rfl (.tmp rfl (.tmp rfl .nil)) (Sub.refl _) ⟨⟨g,⟨ps++[hi],hcl,hcb,hcv⟩⟩,rfl,rfl⟩
theorem take_digs {xs:List Nat} (h:∀z∈xs,z<B32):xs.take (digs B32 (valB B32 xs)).length=digs B32 (valB B32 xs):=by
 have hl:(digs B32 (valB B32 xs)).length≤xs.length:=(digs_len B32_two).2 (val_lt h)
 have e1:=padd_val h
 have e2:padd B32 xs.length (valB B32 xs)=digs B32 (valB B32 xs)++List.replicate (xs.length-(digs B32 (valB B32 xs)).length) 0:=by
  refine(padd_eq (fun z hz=>?_) ?_ ?_).symm
  ·rcases List.mem_append.1 hz with hz|hz
   ·exact digs_lt B32_two _ z hz
   ·exact all_zero (by decide) _ z hz
  ·rw[List.length_append,List.length_replicate]
   omega
  ·rw[val_append,val_zeros,Nat.mul_zero,Nat.add_zero,val_digs B32_two]
 have e3:=e1.symm.trans e2
 generalize digs B32 (valB B32 xs)=d at hl e3 ⊢
 rw[e3,List.take_left']
 rfl
theorem frozenX {P:Program} {ι:Type} {f:FuncId} {vs:List AV} {u:ι→AV} {u':AV} {gg:ι→Nat} {t:TypeId} {m:ι→Nat} {el:ι→Nat→AV} (h:ACalls P f vs [] fun r H'=>∃i,r=.ret (u i)∧H'=[rowM (gg i) t (m i) (el i)]) (hs:∀i,SubH (gg i) (m i) (el i) (u i) u'):PCalls P f vs u':=by
 refine⟨h.1,fun st w xs hc hx hg=>(h.2 st w xs hc hx hg).mono fun e w' hp=>?_⟩
 cases e with
 |outgrown=>exact hp.elim
 |returned v=>
  obtain⟨st',r,H2,h1,h2,i,rfl,rfl⟩:=hp
  obtain⟨st2,c1,k1,hh⟩:=Conc.freezeM (G1:=[]) (G2:=[]) h1
  exact⟨st2,.ret u',[],c1,hs i st2 w' hh _ (Rep.mono k1 h2),rfl,rfl⟩
 |panicked v=>
  obtain⟨st',r,H2,h1,h2,i,rfl,rfl⟩:=hp
  exact h2.elim
theorem shlV_c (a:List Nat) (s:Nat) (h:LimOk 100000000 a) (hs:s<32):PCalls Tryz.prog 194 [lims a,.int .i64 s] (.tuple [lims (digs B32 (valB B32 a*2^s)),.int .i64 0]):=by
 refine frozenX (shl_c a s h hs) fun x=>?_
 obtain⟨g,xs,hl,hb,hv⟩:=x
 have hd:(digs B32 (valB B32 a*2^s)).length≤xs.length:=by rw[←hv];exact(digs_len B32_two).2 (val_lt hb)
 have hw:=rowN_view (k:=.u32) (g:=g) (off:=0) (xs:=xs) (n:=(digs B32 (valB B32 a*2^s)).length) (cap:=(digs B32 (valB B32 a)).length+1) (by omega) (by omega)
 have ht:=take_digs hb
 rw[hv]at ht
 rw[List.drop_zero,ht]at hw
 refine SubH.tuple rfl fun j v v' h1 h2=>?_
 match j,h1,h2 with
 |0,h1,h2=>cases h1;cases h2;exact hw
 |1,h1,h2=>cases h1;cases h2;exact SubH.rfl' _
 |j+2,h1,_=>cases h1
end Go.Proofs.YtamgilppehibeaaGreatDoor
namespace Go.Proofs.YtamgilppehibeaaGreatDoor
open Go.Ab
theorem shr_digit {s a b R:Nat} (hs:s<32):(a+B32*(b+B32*R))/2^s%B32=(a+B32*b)/2^s%B32:=by
 have hB:B32=2^s*2^(32-s):=by rw[←Nat.pow_add,Nat.add_sub_cancel' (by omega)];rfl
 have e:a+B32*(b+B32*R)=(a+B32*b)+2^s*(B32*(2^(32-s)*R)):=by
  have:B32*(B32*R)=2^s*(B32*(2^(32-s)*R)):=by
   conv=>lhs;arg 1;rw[hB]
   grind
  rw[←this]
  grind
 rw[e,Nat.add_mul_div_left _ _ (Nat.pow_pos (by decide)),Nat.add_mul_mod_self_left]
theorem shr_step {x ps:List Nat} {s i:Nat} (hs:s<32) (hx:∀z∈x,z<B32) (hl:ps.length=i) (h:valB B32 ps=valB B32 x/2^s%B32^i):
  valB B32 (ps++[(x.getD i 0+B32*x.getD (i+1) 0)/2^s%B32])=valB B32 x/2^s%B32^(i+1):=by
 have e1:valB B32 x/2^s/B32^i=valB B32 (x.drop i)/2^s:=by
  rw[Nat.div_div_eq_div_mul,Nat.mul_comm,←Nat.div_div_eq_div_mul,val_div i hx]
 rw[val_snoc,h,hl,Nat.pow_succ,Nat.mod_mul,e1,val_drop_succ,val_drop_succ,shr_digit hs,Nat.mul_comm (B32^i)]
theorem or_comm64 (x y:Int):Go.Ab.bits .or .u64 x y=Go.Ab.bits .or .u64 y x:=by
 unfold Go.Ab.bits
 simp only
 rw[BitVec.or_comm]
theorem pad_set {ps:List Nat} {n d:Nat} (h:ps.length<n):(ps++List.replicate (n-ps.length) 0).set ps.length d=(ps++[d])++List.replicate (n-(ps.length+1)) 0:=by
 obtain⟨m,hm⟩:∃m,n-ps.length=m+1:=⟨n-ps.length-1,by omega⟩
 rw[hm,show n-(ps.length+1)=m by omega,List.replicate_succ,List.set_append_right _ _ (Nat.le_refl _),Nat.sub_self,List.set_cons_zero,List.append_assoc,List.singleton_append]
theorem cbShr:Callable Tryz.prog 198:=fun _ _=>by kernel_rfl
theorem shr_c (a:List Nat) (s:Nat) (h:LimOk 100000000 a) (hs:s<32):PCalls Tryz.prog 198 [lims a,.int .i64 s] (.tuple [lims (digs B32 (valB B32 a/2^s)),.int .i64 0]):=by
 refine pcalls_of_awp tyok cbShr Tryz.func198 rfl rfl ?_
 have gm:=may1_c s (by omega)
 have g1:=short_c a (h.mono (by decide))
 have ok:=h.trim
 have hva:=val_digs B32_two (valB B32 a)
 generalize digs B32 (valB B32 a)=x at g1 ok hva ⊢
 generalize valB B32 a=va at hva ⊢
 have xl:=ok.len
 have es32:(s:Int)/32=0:=by omega
 have hB:B32=4294967296:=rfl
 have hmin:(if((x.length:Int))<(s:Int)/32 then((x.length:Int)) else(s:Int)/32)=0:=by rw[es32];split<;>omega
 repeat(first|refine wDB ?_|refine awp_seq_k fun K hK=>?_|refine wN fun bx=>?_|refine wC gm ?_|refine wC g1 ?_|(refine wH ?_;clear hK))
 have hvw:AV.slice 1 (x.length-(if((x.length:Int))<(s:Int)/32 then((x.length:Int)) else(s:Int)/32).toNat) (fun i=>(fun i=>limE (x.getD i default)) ((if((x.length:Int))<(s:Int)/32 then((x.length:Int)) else(s:Int)/32).toNat+i)) .view=lims x:=by
  rw[hmin]
  show _=AV.slice 1 x.length (fun i=>limE (x.getD i default)) .view
  congr 1
  funext i
  show limE (x.getD (0+i) default)=_
  rw[Nat.zero_add]
 rw[hvw,hmin]
 refine qmakeN tyok (m:=x.length) (k:=.u32) (fun g=>?_) ?_
 rotate_left
 ·simp only
  omega
 unfold rowN rowM
 repeat(first|refine wDB ?_|refine awp_seq_k fun K hK=>?_|refine wN fun bx=>?_|(refine wH ?_;clear hK))
 refine awp_loop0 (ι:={ps:List Nat//ps.length≤x.length∧(∀z∈ps,z<B32)∧valB B32 ps=valB B32 x/2^s%B32^ps.length})
  (fun t=>[(0,lims x),(1,.int .i64 s),(6,.mslice g 0 x.length x.length),(25,.int .i64 x.length),(26,.int .i64 t.1.length)])
  (fun t=>[rowN .u32 g 164 (t.1++List.replicate (x.length-t.1.length) 0)]) (fun t=>x.length-t.1.length) ⟨[],Nat.zero_le _,fun z hz=>absurd hz List.not_mem_nil,by simp[valB,Nat.mod_one]⟩ wk ⟨0,rfl⟩ ?_
 rintro⟨ps,hp,hb,hw⟩
 simp only at hp hb hw ⊢
 have hcl:(ps++List.replicate (x.length-ps.length) 0).length=x.length:=by rw[List.length_append,List.length_replicate];omega
 by_cases hlt:ps.length<x.length
 ·have hlt':(ps.length:Int)<x.length:=by omega
  have hxi:=ok.getD ps.length
  have hxj:=ok.getD (ps.length+1)
  have hstep:=shr_step hs ok.lt rfl hw
  have hj0:0+((ps.length:Int)).toNat=ps.length:=by omega
  have es:min (((s:Int)%32)).toNat IntKind.u64.bits=s:=by
   show min _ 64=s
   omega
  have hfd:∀w:Nat,(w:Int).fdiv (2^(min (((s:Int)%32)).toNat IntKind.u64.bits))=((w/2^s:Nat):Int):=fun w=>by
   rw[es,Int.fdiv_eq_ediv_of_nonneg _ (Int.le_of_lt (Int.pow_pos (by decide))),Int.natCast_ediv,Int.natCast_pow]
   rfl
  have E0:IntKind.u64.wrap ((x.getD ((ps.length:Int)).toNat default:Nat):Int)=(x.getD ps.length 0:Nat):=w64 _ (show x.getD ps.length 0<_ by omega)
  have hset:=pad_set (d:=(x.getD ps.length 0+B32*x.getD (ps.length+1) 0)/2^s%B32) hlt
  by_cases c1:ps.length+1<x.length
  ·have c1':(ps.length:Int)+1<x.length:=by omega
   have E1:IntKind.u64.wrap ((x.getD (((ps.length:Int)+1)).toNat default:Nat):Int)=(x.getD (ps.length+1) 0:Nat):=w64 _ (show x.getD (ps.length+1) 0<_ by omega)
   have E2:Go.Ab.bits .or .u64 (IntKind.u64.wrap ((x.getD ((ps.length:Int)).toNat default:Nat):Int)) (IntKind.u64.wrap (IntKind.u64.wrap ((x.getD (((ps.length:Int)+1)).toNat default:Nat):Int)*2^(min ((32:Int)).toNat IntKind.u64.bits)))=((x.getD ps.length 0+B32*x.getD (ps.length+1) 0:Nat):Int):=by
    rw[E0,E1,or_comm64,or32 hxj hxi,Nat.add_comm,Nat.mul_comm]
   unfold rowN rowM
   repeat(first|refine wDB ?_|refine awp_seq_k fun K hK=>?_|refine wN fun bx=>?_|(refine wH ?_;clear hK))
   refine⟨⟨ps++[(x.getD ps.length 0+B32*x.getD (ps.length+1) 0)/2^s%B32],by rw[List.length_append];exact hlt,all_snoc hb (Nat.mod_lt _ (by decide)),by simp only[List.length_append,List.length_singleton];exact hstep⟩,?_,⟨0,?_⟩,by simp only[List.length_append,List.length_singleton];omega⟩
   ·simp only[List.length_append,List.length_singleton]
    exact wk
   ·have hset':(ps++List.replicate (x.length-ps.length) 0).set ps.length ((x.getD ps.length 0+B32*x.getD (ps.length+1) 0)/2^s%B32)=(ps++[(x.getD ps.length 0+B32*x.getD (ps.length+1) 0)/2^s%B32])++List.replicate (x.length-(ps++[(x.getD ps.length 0+B32*x.getD (ps.length+1) 0)/2^s%B32]).length) 0:=by rw[hset,List.length_append,List.length_singleton]
    rw[E2,hfd,w32,hj0]
    exact(congrArg (fun e=>[e]) (rowN_set (show ps.length<(ps++List.replicate (x.length-ps.length) 0).length by omega))).trans (by rw[hset'])
  ·have c1':¬(ps.length:Int)+1<x.length:=by omega
   have x0:x.getD (ps.length+1) 0=0:=by rw[List.getD_eq_getElem?_getD,List.getElem?_eq_none (by omega)];rfl
   rw[x0,Nat.mul_zero,Nat.add_zero]at hstep hset
   unfold rowN rowM
   repeat(first|refine wDB ?_|refine awp_seq_k fun K hK=>?_|refine wN fun bx=>?_|(refine wH ?_;clear hK))
   refine⟨⟨ps++[x.getD ps.length 0/2^s%B32],by rw[List.length_append];exact hlt,all_snoc hb (Nat.mod_lt _ (by decide)),by simp only[List.length_append,List.length_singleton];exact hstep⟩,?_,⟨0,?_⟩,by simp only[List.length_append,List.length_singleton];omega⟩
   ·simp only[List.length_append,List.length_singleton]
    exact wk
   ·have hset':(ps++List.replicate (x.length-ps.length) 0).set ps.length (x.getD ps.length 0/2^s%B32)=(ps++[x.getD ps.length 0/2^s%B32])++List.replicate (x.length-(ps++[x.getD ps.length 0/2^s%B32]).length) 0:=by rw[hset,List.length_append,List.length_singleton]
    rw[E0,hfd,w32,hj0]
    exact(congrArg (fun e=>[e]) (rowN_set (show ps.length<(ps++List.replicate (x.length-ps.length) 0).length by omega))).trans (by rw[hset'])
 ·have hge:¬(ps.length:Int)<x.length:=by omega
  have hpl:ps.length=x.length:=by omega
  have hq:valB B32 x/2^s<B32^ps.length:=by rw[hpl];exact Nat.lt_of_le_of_lt (Nat.div_le_self _ _) (val_lt ok.lt)
  rw[Nat.mod_eq_of_lt hq,hva]at hw
  rw[hpl,Nat.sub_self,List.replicate_zero,List.append_nil]
  have sx:=short_c ps ⟨hb,by omega⟩
  rw[hw]at sx
  unfold rowN
  refine awp_freezeM [] (s:=6) rfl (rowN_all hpl) ?_
  repeat(first|refine wDB ?_|refine awp_seq_k fun K hK=>?_|refine wN fun bx=>?_|refine wC sx ?_|(refine wH ?_;clear hK))
  refine r2 ?_ ?_
  ·exact Sub.refl _
  ·exact Sub.refl _
end Go.Proofs.YtamgilppehibeaaGreatDoor
