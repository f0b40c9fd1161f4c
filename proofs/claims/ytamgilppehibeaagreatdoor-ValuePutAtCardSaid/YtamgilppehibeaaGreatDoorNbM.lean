/-
  Bits: how many a number has; a divisor that is moved up until its highest bit is set (plain law).
-/
import Derived.Test.YtamgilppehibeaaGreatDoorDc0
import Derived.Lib.BitFns
import Derived.Test.YtamgilppehibeaaGreatDoorNaM
import Derived.Test.YtamgilppehibeaaGreatDoorLb
set_option maxRecDepth 100000
set_option maxHeartbeats 1600000
namespace Go.Ab
theorem blAux_spec:∀(f x:Nat),x<2^f→x<2^Lib.bitLenAux f x∧Lib.bitLenAux f x≤f∧(x≠0→1≤Lib.bitLenAux f x∧2^(Lib.bitLenAux f x-1)≤x)
 |0,x,h=>by
  simp only[Lib.bitLenAux]
  exact⟨h,Nat.le_refl _,fun h0=>by simp at h;omega⟩
 |f+1,x,h=>by
  simp only[Lib.bitLenAux]
  by_cases h0:x=0
  ·rw[if_pos h0]
   exact⟨by simp[h0],Nat.zero_le _,fun h1=>absurd h0 h1⟩
  ·rw[if_neg h0]
   obtain⟨h1,h2,h3⟩:=blAux_spec f (x/2) (by rw[Nat.pow_succ]at h;omega)
   refine⟨?_,by omega,fun _=>⟨by omega,?_⟩⟩
   ·rw[Nat.add_comm,Nat.pow_succ]
    omega
   ·rw[Nat.add_sub_cancel_left]
    by_cases h4:x/2=0
    ·have h5:Lib.bitLenAux f (x/2)=0:=by
      rw[h4]
      cases f<;>simp[Lib.bitLenAux]
     rw[h5,Nat.pow_zero]
     omega
    ·obtain⟨h5,h6⟩:=h3 h4
     obtain⟨k,hk⟩:∃k,Lib.bitLenAux f (x/2)=k+1:=⟨Lib.bitLenAux f (x/2)-1,by omega⟩
     rw[hk,Nat.add_sub_cancel]at h6
     rw[hk,Nat.pow_succ]
     omega
theorem bl_spec {x:Nat} (h:x≠0) (hx:x<B32):1≤Lib.bitLen x∧Lib.bitLen x≤32∧2^(Lib.bitLen x-1)≤x∧x<2^Lib.bitLen x:=by
 have hb:Lib.bitLen x≤32:=by
  obtain⟨h1,h2,h3⟩:=blAux_spec 64 x (Nat.lt_trans hx (by decide))
  obtain⟨h4,h5⟩:=h3 h
  rcases Nat.lt_or_ge 32 (Lib.bitLenAux 64 x)with z|z
  ·have:2^32≤2^(Lib.bitLenAux 64 x-1):=Nat.pow_le_pow_right (by decide) (by omega)
   have hB:B32=2^32:=rfl
   omega
  ·exact z
 obtain⟨h1,h2,h3⟩:=blAux_spec 64 x (Nat.lt_trans hx (by decide))
 exact⟨(h3 h).1,hb,(h3 h).2,h1⟩
def bitsD (d:List Nat):Nat:=match d with
 |[]=>0
 |_=>32*(d.length-1)+Lib.bitLen (d.getD (d.length-1) 0)
theorem bitsD_zero {n:Nat}:bitsD (digs B32 n)=0↔n=0:=by
 constructor
 ·intro h
  rcases Nat.eq_zero_or_pos n with h0|h0
  ·exact h0
  ·have hne:digs B32 n≠[]:=fun e=>by rw[digs_nil B32_two]at e;omega
   have hl:=digs_last B32_two n hne
   have hlt:=digs_lt B32_two n
   generalize digs B32 n=d at h hne hl hlt
   cases d with
   |nil=>exact absurd rfl hne
   |cons a l=>
    have e:(a::l).getD ((a::l).length-1) 0=(a::l).getLast hne:=by
     rw[List.getLast_eq_getElem,List.getD_eq_getElem?_getD,List.getElem?_eq_getElem]
     rfl
    simp only[bitsD]at h
    have:=bl_spec (x:=(a::l).getD ((a::l).length-1) 0) (by rw[e];exact hl) (by rw[e];exact hlt _ (List.getLast_mem hne))
    omega
 ·rintro rfl
  rfl
structure NormR (b n s:Nat):Prop where
 le:s≤31
 lo:2147483648*B32^(n-1)≤b*2^s
 hi:b*2^s<B32^n
 len:(digs B32 (b*2^s)).length=n
 top:2147483648≤(digs B32 (b*2^s)).getD (n-1) 0
theorem norm_ok {b n:Nat} (hn:(digs B32 b).length=n) (h1:1≤n):bitsD (digs B32 b)≤32*n∧NormR b n (32*n-bitsD (digs B32 b)):=by
 have hne:digs B32 b≠[]:=fun e=>by rw[e]at hn;simp at hn;omega
 have hl:=digs_last B32_two b hne
 have hlt:=digs_lt B32_two b
 have hv:=val_digs B32_two b
 have ht0:(digs B32 b).getD (n-1) 0≠0:=by
  rw[List.getLast_eq_getElem]at hl
  rw[List.getD_eq_getElem?_getD,List.getElem?_eq_getElem (by omega)]
  simp only[hn]at hl
  exact hl
 have hts:=val_take_succ B32 (digs B32 b) (n-1)
 rw[Nat.sub_add_cancel h1,List.take_of_length_le (by omega),hv]at hts
 have hlow:valB B32 ((digs B32 b).take (n-1))<B32^(n-1):=Nat.lt_of_lt_of_le (val_lt (all_take hlt _)) (Nat.pow_le_pow_right (by decide) (by rw[List.length_take];omega))
 have htl:(digs B32 b).getD (n-1) 0<B32:=getD_lt (by decide) hlt _
 have hbits:bitsD (digs B32 b)=32*(n-1)+Lib.bitLen ((digs B32 b).getD (n-1) 0):=by
  rw[←hn]
  generalize digs B32 b=d at hne ⊢
  cases d with
  |nil=>exact absurd rfl hne
  |cons a l=>rfl
 rw[hbits]
 generalize (digs B32 b).getD (n-1) 0=t at ht0 hts htl
 obtain⟨c1,c2,c3,c4⟩:=bl_spec ht0 htl
 generalize Lib.bitLen t=bl at c1 c2 c3 c4
 have hs:32*n-(32*(n-1)+bl)=32-bl:=by omega
 rw[hs]
 obtain⟨s,hse⟩:∃s,s=32-bl:=⟨_,rfl⟩
 rw[←hse]
 have e31:2^(bl-1)*2^s=2147483648:=by rw[←Nat.pow_add,show bl-1+s=31 by omega]
 have e32:2^bl*2^s=B32:=by rw[←Nat.pow_add,show bl+s=32 by omega];rfl
 have t1:2147483648≤t*2^s:=by rw[←e31];exact Nat.mul_le_mul_right _ c3
 have t2:(t+1)*2^s≤B32:=by rw[←e32];exact Nat.mul_le_mul_right _ c4
 have lo:2147483648*B32^(n-1)≤b*2^s:=by
  have h2:=Nat.mul_le_mul_right (B32^(n-1)) t1
  have h3:t*B32^(n-1)≤b:=by omega
  have h4:=Nat.mul_le_mul_right (2^s) h3
  have h5:t*B32^(n-1)*2^s=t*2^s*B32^(n-1):=by rw[Nat.mul_assoc,Nat.mul_comm (B32^(n-1)),←Nat.mul_assoc]
  omega
 have hi:b*2^s<B32^n:=by
  have h2:b<(t+1)*B32^(n-1):=by rw[Nat.add_mul,Nat.one_mul];omega
  have h3:=Nat.mul_lt_mul_of_pos_right h2 (show 0<2^s from Nat.pow_pos (by decide))
  have h4:(t+1)*B32^(n-1)*2^s=(t+1)*2^s*B32^(n-1):=by rw[Nat.mul_assoc,Nat.mul_comm (B32^(n-1)),←Nat.mul_assoc]
  have h5:=Nat.mul_le_mul_right (B32^(n-1)) t2
  have h6:B32*B32^(n-1)=B32^n:=by rw[Nat.mul_comm,←Nat.pow_succ];congr 1;omega
  omega
 have hlen:(digs B32 (b*2^s)).length=n:=by
  refine Nat.le_antisymm ((digs_len B32_two).2 hi) ?_
  rcases Nat.lt_or_ge (digs B32 (b*2^s)).length n with z|z
  ·have h2:=(digs_len B32_two (k:=n-1)).1 (show(digs B32 (b*2^s)).length≤n-1 by omega)
   omega
  ·exact z
 refine⟨by omega,⟨by omega,lo,hi,hlen,?_⟩⟩
 have hts2:=val_take_succ B32 (digs B32 (b*2^s)) (n-1)
 rw[Nat.sub_add_cancel h1,List.take_of_length_le (by omega),val_digs B32_two]at hts2
 have hlow2:valB B32 ((digs B32 (b*2^s)).take (n-1))<B32^(n-1):=Nat.lt_of_lt_of_le (val_lt (all_take (digs_lt B32_two _) _)) (Nat.pow_le_pow_right (by decide) (by rw[List.length_take];omega))
 generalize (digs B32 (b*2^s)).getD (n-1) 0=t3 at hts2 ⊢
 rcases Nat.lt_or_ge t3 2147483648 with z|z
 ·have h2:(t3+1)*B32^(n-1)≤2147483648*B32^(n-1):=Nat.mul_le_mul_right _ z
  rw[Nat.add_mul,Nat.one_mul]at h2
  omega
 ·exact z
theorem dm_round {B V U0 Q k n S:Nat} {us p:List Nat} (hB:0<B) (hus:∀x∈us,x<B) (hk:k+(n+1)≤us.length) (hVn:V<B^n) (h:valB B us+Q*B^(k+1)*V=U0) (hlt:valB B us<V*B^(k+1))
  (hS:S=valB B ((us.drop k).take (n+1))):
  S<V*B∧(p.length=n+1→valB B p=S%V→∀x,x=S/V→valB B (us.take k++p++us.drop (k+p.length))+(x+B*Q)*B^k*V=U0∧valB B (us.take k++p++us.drop (k+p.length))<V*B^k):=by
 have hz:valB B (us.drop (k+(n+1)))=0:=drop_zero hus (by
  have h1:V*B^(k+1)<B^n*B^(k+1):=Nat.mul_lt_mul_of_pos_right hVn (Nat.pow_pos hB)
  rw[←Nat.pow_add]at h1
  rw[show k+(n+1)=n+(k+1) by omega]
  omega)
 have hp:=val_part B us k (n+1) hk
 rw[hz,Nat.mul_zero,Nat.add_zero,←hS]at hp
 have hlow:valB B (us.take k)<B^k:=Nat.lt_of_lt_of_le (val_lt (all_take hus k)) (Nat.pow_le_pow_right hB (by rw[List.length_take];omega))
 have hSV:S<V*B:=by
  have h1:B^k*S<V*B^(k+1):=by omega
  rw[Nat.pow_succ,←Nat.mul_assoc,Nat.mul_comm V,Nat.mul_assoc]at h1
  exact Nat.lt_of_mul_lt_mul_left h1
 have hV0:0<V:=by
  rcases Nat.eq_zero_or_pos V with z|z
  ·rw[z,Nat.zero_mul]at hSV
   omega
  ·exact z
 refine⟨hSV,fun hpl hpv x hx=>?_⟩
 have ho:=val_over B us p k (by rw[hpl];exact hk)
 rw[hpl,hz,hpv]at ho
 simp only[Nat.mul_zero,Nat.add_zero]at ho
 rw[hpl]
 have hm:=Nat.mod_lt S hV0
 have hd:=Nat.div_add_mod S V
 rw[←hx]at hd
 refine⟨div_round h ?_,?_⟩
 ·rw[hp,ho]
  generalize S%V=m at hd ⊢
  rw[←hd,Nat.mul_add]
  have e1:B^k*(V*x)=x*V*B^k:=by rw[Nat.mul_comm,Nat.mul_comm V]
  rw[e1]
  generalize B^k=P
  omega
 ·rw[ho]
  have h1:B^k*(S%V+1)≤B^k*V:=Nat.mul_le_mul_left _ hm
  rw[Nat.mul_add,Nat.mul_one]at h1
  rw[Nat.mul_comm V]
  omega
end Go.Ab
namespace Go.Proofs.YtamgilppehibeaaGreatDoor
open Go.Ab Go.RowKit
theorem len32_c (x:Nat) (hx:x<B32):PCalls Tryz.prog 160 [.int .u32 x] (.int .i64 (Lib.bitLen x)):=
 pcalls_of_below (fun _ _=>by kernel_rfl) fun st w xs hx2 _=>by
  obtain⟨y,rfl,h1⟩:=repL1 hx2
  rw[h1.int_eq]
  refine(Tryz.bits_Len32 (x:Int) w (by omega) (by unfold B32 at hx;omega)).mono ?_
  rintro e w' ⟨rfl,rfl⟩
  exact⟨_,rfl,fun _ _=>.int _ _,Below.refl _ _⟩
theorem cbBits1:Callable Tryz.prog 109:=fun _ _=>by kernel_rfl
theorem bits_c (a:List Nat) (h:LimOk 100000000 a):PCalls Tryz.prog 109 [lims a] (.int .i64 (bitsD (digs B32 (valB B32 a)))):=by
 refine pcalls_of_awp tyok cbBits1 Tryz.func109 rfl rfl ?_
 have g:=short_c a (h.mono (by decide))
 have ok:=h.trim
 have ol:=ok.len
 have hlast:=fun hne=>digs_last (B:=B32) (n:=valB B32 a) B32_two hne
 generalize digs B32 (valB B32 a)=d at g ok ol hlast ⊢
 cases d with
 |nil=>
  have h0:((([]:List Nat).length:Nat):Int)=0:=rfl
  repeat(first|refine wDB ?_|refine awp_seq_k fun K hK=>?_|refine wN fun bx=>?_|refine wC g ?_|(refine wH ?_;clear hK))
  refine r1 ?_
  exact Sub.refl _
 |cons x l=>
  have h0:¬(((x::l).length:Nat):Int)=0:=by rw[List.length_cons];omega
  have hi:((((x::l).length:Nat):Int)-1).toNat=(x::l).length-1:=by rw[List.length_cons];omega
  have hg:(x::l).getD ((((x::l).length:Nat):Int)-1).toNat default=(x::l).getD ((x::l).length-1) 0:=by rw[hi];rfl
  have hb:bitsD (x::l)=32*((x::l).length-1)+Lib.bitLen ((x::l).getD ((x::l).length-1) 0):=rfl
  have ht:=ok.getD ((x::l).length-1)
  have htn:(x::l).getD ((x::l).length-1) 0≠0:=by
   have:=hlast (by simp)
   rw[List.getLast_eq_getElem]at this
   rw[List.getD_eq_getElem?_getD,List.getElem?_eq_getElem (by rw[List.length_cons];omega)]
   exact this
  have g2:=len32_c ((x::l).getD ((x::l).length-1) 0) ht
  obtain⟨b1,b2,_,_⟩:=bl_spec htn ht
  rw[←hg]at g2 b1 b2 hb
  have hlen:1≤(x::l).length:=by rw[List.length_cons];omega
  generalize x::l=d at*
  repeat(first|refine wDB ?_|refine awp_seq_k fun K hK=>?_|refine wN fun bx=>?_|refine wC g ?_|refine wC g2 ?_|(refine wH ?_;clear hK))
  refine r1 ?_
  refine Sub.of_eq ?_
  rw[hb]
  congr 1
  omega
end Go.Proofs.YtamgilppehibeaaGreatDoor
