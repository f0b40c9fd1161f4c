/-
  The document's numbers (porismref01): trim, times, Small, by.
-/
import Derived.Test.YtamgilppehibeaaGreatDoorNaM
import Derived.Test.YtamgilppehibeaaGreatDoorDc0
set_option maxRecDepth 100000
set_option maxHeartbeats 3200000
namespace Go.Proofs.YtamgilppehibeaaGreatDoor
open Go.Ab
def decE (x:Nat):List AV:=Go.Ab.numE .i64 x
abbrev decs (d:List Nat):AV:=sl decE 1 d .view
theorem rowD_all {g n:Nat} {xs:List Nat} (h:xs.length=n):SubH g xs.length (fun j=>.int .i64 (xs.getD j 0:Nat)) (.mslice g 0 n n) (decs xs):=by
 have:=rowN_view (k:=.i64) (g:=g) (off:=0) (xs:=xs) (n:=n) (cap:=n) (by omega) (Nat.le_refl _)
 rw[List.drop_zero,List.take_of_length_le (by omega)]at this
 exact this
theorem snocD {ps:List Nat} {d:Nat} (h:∀z∈ps,z<10) (hd:d<10):∀z∈ps++[d],z<10:=fun z hz=>by
 rcases List.mem_append.1 hz with hz|hz
 ·exact h z hz
 ·rw[List.mem_singleton.1 hz];exact hd
theorem cbDtrim:Callable Tryz.prog 156:=fun _ _=>by kernel_rfl
theorem dtrim_c (a:List Nat) (h:DecOk 1000000000 a):PCalls Tryz.prog 156 [decs a] (decs (digs 10 (valB 10 a))):=by
 refine pcalls_of_awp tyok cbDtrim Tryz.func156 rfl rfl ?_
 have hlen:=h.len
 repeat(first|refine wD ?_|refine awp_seq_k fun K hK=>?_|refine wN fun bx=>?_|(refine wH ?_;clear hK))
 refine awp_loop0 (ι:={m:Nat//m≤a.length∧valB 10 (a.take m)=valB 10 a}) (fun m=>[(0,decs (a.take m.1))]) (fun _=>[]) (fun m=>m.1) ⟨a.length,Nat.le_refl _,by rw[List.take_length]⟩ ⟨⟨_,rfl,Sub.of_eq (by rw[List.take_length])⟩,True.intro⟩ dp ?_
 rintro⟨m,hm,hv⟩
 simp only at hm hv ⊢
 have hl:(a.take m).length=m:=by rw[List.length_take];omega
 cases m with
 |zero=>
  have e:=trim_done ten_two h.lt hm hv (.inl rfl)
  generalize a.take 0=b at hl e ⊢
  have h0:¬(b.length:Int)>0:=by omega
  repeat(first|refine wDB ?_|refine awp_seq_k fun K hK=>?_|refine wN fun bx=>?_|(refine wH ?_;clear hK))
  refine r1 ?_
  exact Sub.of_eq (by rw[e])
 |succ k=>
  have hg:(a.take (k+1)).getD k 0=a.getD k 0:=by rw[List.getD_eq_getElem?_getD,List.getElem?_take,if_pos (Nat.lt_succ_self k),←List.getD_eq_getElem?_getD]
  have ht:(a.take (k+1)).take k=a.take k:=by rw[List.take_take,Nat.min_eq_left (Nat.le_succ k)]
  have hd:=trim_done ten_two h.lt hm hv
  have hs:=trim_step (B:=10) (m:=k) (l:=a) (V:=valB 10 a)
  generalize a.take (k+1)=b at hl hg ht hd hs hv ⊢
  have h0:(b.length:Int)>0:=by omega
  have hi:((b.length:Int)-1).toNat=k:=by omega
  have hgi:b.getD (((b.length:Int)-1)).toNat default=a.getD k 0:=by rw[hi];exact hg
  by_cases hz:a.getD k 0=0
  ·have hz':((b.getD (((b.length:Int)-1)).toNat default:Nat):Int)=0:=by rw[hgi,hz];rfl
   repeat(first|refine wDB ?_|refine awp_seq_k fun K hK=>?_|refine wN fun bx=>?_|(refine wH ?_;clear hK))
   exact⟨⟨k,by omega,hs hz hv⟩,⟨⟨_,rfl,(sl_take decE 1 b (by omega)).trans (Sub.of_eq (by rw[hi,ht]))⟩,True.intro⟩,dp,Nat.lt_succ_self k⟩
  ·have hz':¬((b.getD (((b.length:Int)-1)).toNat default:Nat):Int)=0:=by rw[hgi];omega
   have e:=hd (.inr hz)
   repeat(first|refine wDB ?_|refine awp_seq_k fun K hK=>?_|refine wN fun bx=>?_|(refine wH ?_;clear hK))
   refine r1 ?_
   exact Sub.of_eq (by rw[e])
theorem dtrimO_c (a:List Nat) (h:DecOk 1000000000 a) (ad:Option Addr) (cap:Nat):PCalls Tryz.prog 156 [sl decE 1 a (.own ad cap)] (decs (digs 10 (valB 10 a))):=PCalls.sub (dtrim_c a h) (.cons (Sub.view _ _ _ _) .nil)
theorem cbDsmall:Callable Tryz.prog 105:=fun _ _=>by kernel_rfl
theorem dsmall_c (n:Nat) (hn:n<18446744073709551616):PCalls Tryz.prog 105 [.int .u64 n] (decs (digs 10 n)):=by
 refine pcalls_of_awp tyok cbDsmall Tryz.func105 rfl rfl ?_
 have hN:DecOk 20 (digs 10 n):=.digs (by omega)
 have hNl:=hN.len
 repeat(first|refine wD ?_|refine awp_seq_k fun K hK=>?_|refine wN fun bx=>?_|(refine wH ?_;clear hK))
 refine awp_tok0 1 3 ?_
 refine awp_loop0 (ι:={s:List Nat×Nat×Option Addr×Nat//s.2.1≤n∧s.1++digs 10 s.2.1=digs 10 n})
  (fun s=>[(0,.int .u64 (s.1.2.1:Nat)),(3,sl decE 1 s.1.1 (.own s.1.2.2.1 s.1.2.2.2))])
  (fun s=>[.tok s.1.2.2.1 s.1.2.2.2 s.1.1.length 1 3]) (fun s=>s.1.2.1) ⟨([],n,none,0),Nat.le_refl _,rfl⟩ wk dp ?_
 rintro⟨⟨ps,m,a,cap⟩,hmn,hw⟩
 simp only at hmn hw ⊢
 have hpl:=congrArg List.length hw
 rw[List.length_append]at hpl
 by_cases h0:m=0
 ·subst h0
  have h0':¬((0:Nat):Int)>0:=by omega
  rw[digs_zero,List.append_nil]at hw
  repeat(first|refine wDB ?_|refine awp_seq_k fun K hK=>?_|refine wN fun bx=>?_|(refine wH ?_;clear hK))
  refine r1 ?_
  rw[hw]
  exact Sub.view _ _ _ _
 ·have h0':(m:Int)>0:=by omega
  have hs:=digs_snoc ten_two hw h0
  have e:IntKind.i64.wrap ((m:Int)%10)=((m%10:Nat):Int):=by
   rw[wrap_inK (by simp only[inK];omega)]
   omega
  repeat(first|refine wDB ?_|refine awp_seq_k fun K hK=>?_|refine wN fun bx=>?_|(refine wH ?_;clear hK))
  refine qapp tyok decE ps (m%10) ?_ ?_ fun ad cp=>?_
  ·rw[e]
   exact SubL.refl _
  ·simp only
   omega
  repeat(first|refine wDB ?_|refine awp_seq_k fun K hK=>?_|refine wN fun bx=>?_|(refine wH ?_;clear hK))
  exact⟨⟨(ps++[m%10],m/10,ad,cp),by simp only;omega,hs⟩,wk,⟨0,rfl⟩,by simp only;omega⟩
theorem cbDby:Callable Tryz.prog 158:=fun _ _=>by kernel_rfl
theorem dby_c (d:List Nat) (n:Nat) (h:DecOk 100000000 d) (hn0:0<n) (hn:n≤65536):PCalls Tryz.prog 158 [decs d,.int .i64 n] (.tuple [decs (digs 10 (valB 10 d/n)),.int .i64 (valB 10 d%n:Nat)]):=by
 refine pcalls_of_awp tyok cbDby Tryz.func158 rfl rfl ?_
 have dl:=h.len
 repeat(first|refine wDB ?_|refine awp_seq_k fun K hK=>?_|refine wN fun bx=>?_|(refine wH ?_;clear hK))
 refine qmakeN tyok (m:=d.length) (k:=.i64) (fun g=>?_) ?_
 rotate_left
 ·simp only
  omega
 unfold rowN rowM
 repeat(first|refine wDB ?_|refine awp_seq_k fun K hK=>?_|refine wN fun bx=>?_|(refine wH ?_;clear hK))
 refine awp_loop0 (ι:={s:List Nat×Nat//s.1.length≤d.length∧(∀z∈s.1,z<10)∧s.2<n∧valB 10 (d.drop (d.length-s.1.length))=n*valB 10 s.1+s.2})
  (fun s=>[(0,decs d),(1,.int .i64 n),(6,.mslice g 0 d.length d.length),(7,.int .i64 (s.1.2:Nat)),(8,.int .i64 ((d.length:Int)-1-s.1.1.length))])
  (fun s=>[rowN .i64 g 3 ((List.replicate d.length 0).take (d.length-s.1.1.length)++s.1.1)]) (fun s=>d.length-s.1.1.length) ⟨([],0),Nat.zero_le _,fun z hz=>absurd hz List.not_mem_nil,hn0,by simp[valB]⟩ wk ⟨0,by simp only[List.length_nil,Nat.sub_zero,List.take_replicate,Nat.min_self,List.append_nil];rfl⟩ ?_
 rintro⟨⟨qs,r⟩,hi,hb,hr,hw⟩
 simp only at hi hb hr hw ⊢
 by_cases hlt:qs.length<d.length
 ·have hlt':(d.length:Int)-1-qs.length≥0:=by omega
  obtain⟨m,hm⟩:∃m,d.length-qs.length=m+1:=⟨d.length-qs.length-1,by omega⟩
  have hml:m<(List.replicate d.length 0).length:=by rw[List.length_replicate];omega
  have hm1:(((d.length:Int)-1-qs.length)).toNat=m:=by omega
  have hj0:0+(((d.length:Int)-1-qs.length)).toNat=m:=by omega
  have hdm:=h.getD m
  have hgm:d.getD (((d.length:Int)-1-qs.length)).toNat default=d.getD m 0:=by rw[hm1];rfl
  have hstep:=by_step (B:=10) (d:=d.getD m 0) hw
  rw[hm,←val_drop_succ]at hstep
  have hqB:(r*10+d.getD m 0)/n<10:=Nat.div_lt_of_lt_mul (by
   have h1:(r+1)*10≤n*10:=Nat.mul_le_mul_right _ hr
   omega)
  have hlen:((List.replicate d.length 0).take (m+1)++qs).length=d.length:=by rw[List.length_append,List.length_take,List.length_replicate];omega
  have E:(r:Int)*10+((d.getD (((d.length:Int)-1-qs.length)).toNat default:Nat):Int)=((r*10+d.getD m 0:Nat):Int):=by rw[hgm];omega
  rw[hm]
  unfold rowN rowM
  repeat(first|refine wDB ?_|refine awp_seq_k fun K hK=>?_|refine wN fun bx=>?_|(refine wH ?_;clear hK))
  refine⟨⟨((r*10+d.getD m 0)/n::qs,(r*10+d.getD m 0)%n),by simp only[List.length_cons];omega,fun z hz=>?_,Nat.mod_lt _ hn0,?_⟩,?_,⟨0,?_⟩,by simp only[List.length_cons];omega⟩
  ·rcases List.mem_cons.1 hz with rfl|hz
   ·exact hqB
   ·exact hb z hz
  ·simp only[List.length_cons,valB]
   rw[show d.length-(qs.length+1)=m by omega]
   exact hstep
  ·rw[E,←Int.natCast_emod]
   simp only[List.length_cons]
   exact wk
  ·simp only[List.length_cons]
   rw[E,←Int.natCast_ediv,hj0,show d.length-(qs.length+1)=m by omega,←topB_set hml]
   exact congrArg (fun e=>[e]) (rowN_set (by omega))
 ·have hge:¬(d.length:Int)-1-qs.length≥0:=by omega
  have hql:qs.length=d.length:=by omega
  rw[hql,Nat.sub_self,List.drop_zero]at hw
  have hdl:=div_law (a:=valB 10 d) (b:=n) (q:=valB 10 qs) (r:=r) (by rw[hw,Nat.mul_comm];omega) hr
  have sx:=dtrim_c qs ⟨hb,by omega⟩
  rw[hdl.1]at sx
  rw[hql,Nat.sub_self,List.take_zero,List.nil_append]
  unfold rowN
  refine awp_freezeM [] (s:=6) rfl (rowD_all hql) ?_
  repeat(first|refine wDB ?_|refine awp_seq_k fun K hK=>?_|refine wN fun bx=>?_|refine wC sx ?_|(refine wH ?_;clear hK))
  refine r2 ?_ ?_
  ·exact Sub.refl _
  ·exact Sub.of_eq (by rw[hdl.2])
end Go.Proofs.YtamgilppehibeaaGreatDoor
namespace Go.Proofs.YtamgilppehibeaaGreatDoor
open Go.Ab
theorem dbyN_c {V k n:Nat} (hV:V<10^k) (hk:k≤100000000) (hn0:0<n) (hn:n≤65536):PCalls Tryz.prog 158 [decs (digs 10 V),.int .i64 n] (.tuple [decs (digs 10 (V/n)),.int .i64 (V%n:Nat)]):=by
 have:=dby_c (digs 10 V) n ((DecOk.digs hV).mono hk) hn0 hn
 rw[val_digs ten_two]at this
 exact this
theorem cbDlimbs:Callable Tryz.prog 108:=fun _ _=>by kernel_rfl
theorem dlimbs_c (n k:Nat) (hn:n<B32^k) (hk:k≤1000000):PCalls Tryz.prog 108 [decs (digs 10 n)] (lims (digs B32 n)):=by
 refine pcalls_of_awp tyok cbDlimbs Tryz.func108 rfl rfl ?_
 have hN:=(digs_len B32_two (n:=n) (k:=k)).2 hn
 repeat(first|refine wD ?_|refine awp_seq_k fun K hK=>?_|refine wN fun bx=>?_|(refine wH ?_;clear hK))
 refine awp_tok0 1 164 ?_
 refine awp_loop0 (ι:={s:List Nat×Nat×Option Addr×Nat//s.2.1≤n∧s.1++digs B32 s.2.1=digs B32 n})
  (fun s=>[(0,decs (digs 10 s.1.2.1)),(3,sl limE 1 s.1.1 (.own s.1.2.2.1 s.1.2.2.2))])
  (fun s=>[.tok s.1.2.2.1 s.1.2.2.2 s.1.1.length 1 164]) (fun s=>s.1.2.1) ⟨([],n,none,0),Nat.le_refl _,rfl⟩ wk dp ?_
 rintro⟨⟨ps,m,a,cap⟩,hmn,hw⟩
 simp only at hmn hw ⊢
 have hpl:=congrArg List.length hw
 rw[List.length_append]at hpl
 by_cases h0:m=0
 ·subst h0
  rw[digs_zero,List.append_nil]at hw
  rw[digs_zero]
  have h0':¬((([]:List Nat).length:Nat):Int)>0:=by simp
  repeat(first|refine wDB ?_|refine awp_seq_k fun K hK=>?_|refine wN fun bx=>?_|(refine wH ?_;clear hK))
  refine r1 ?_
  rw[hw]
  exact Sub.view _ _ _ _
 ·have hd0:(digs 10 m).length≠0:=fun e=>h0 ((digs_nil ten_two).1 (List.eq_nil_of_length_eq_zero e))
  have h0':(((digs 10 m).length:Nat):Int)>0:=by omega
  have hm10:m<10^(10*k):=b32_dec (Nat.lt_of_le_of_lt hmn hn)
  have g1:=dbyN_c (n:=65536) hm10 (by omega) (by decide) (by decide)
  have g2:=dbyN_c (n:=65536) (V:=m/65536) (Nat.lt_of_le_of_lt (Nat.div_le_self _ _) hm10) (by omega) (by decide) (by decide)
  obtain⟨c1,c2⟩:=limb_cut m
  rw[c2]at g2
  have hs:=digs_snoc B32_two hw h0
  have E:IntKind.u32.wrap (IntKind.u32.wrap (IntKind.u32.wrap ((m/65536%65536:Nat):Int)*65536)+IntKind.u32.wrap ((m%65536:Nat):Int))=((m%B32:Nat):Int):=by
   rw[←c1]
   simp only[wu32]
   omega
  have hlt:m/B32<m:=Nat.div_lt_self (by omega) (by decide)
  repeat(first|refine wDB ?_|refine awp_seq_k fun K hK=>?_|refine wN fun bx=>?_|refine wC g1 ?_|refine wC g2 ?_|(refine wH ?_;clear hK))
  refine qapp tyok limE ps (m%B32) ?_ ?_ fun ad cp=>?_
  ·rw[E]
   exact SubL.refl _
  ·simp only
   omega
  repeat(first|refine wDB ?_|refine awp_seq_k fun K hK=>?_|refine wN fun bx=>?_|(refine wH ?_;clear hK))
  exact⟨⟨(ps++[m%B32],m/B32,ad,cp),by simp only;omega,hs⟩,wk,⟨0,rfl⟩,by simp only;omega⟩
theorem cbDcmp:Callable Tryz.prog 153:=fun _ _=>by kernel_rfl
theorem dcmp_c {x y k m:Nat} (hx:x<10^k) (hy:y<10^m) (hk:k≤1000000000) (hm:m≤1000000000):PCalls Tryz.prog 153 [decs (digs 10 x),decs (digs 10 y)] (.int .i64 (cmpN x y)):=by
 refine pcalls_of_awp tyok cbDcmp Tryz.func153 rfl rfl ?_
 have o1:=(DecOk.digs hx).mono hk
 have o2:=(DecOk.digs hy).mono hm
 have l1:=o1.len
 have l2:=o2.len
 have v1:=val_digs ten_two x
 have v2:=val_digs ten_two y
 have q1:=lt_of_len (B:=10) (a:=x) (b:=y) ten_two
 have q2:=lt_of_len (B:=10) (a:=y) (b:=x) ten_two
 generalize digs 10 x=d at o1 l1 v1 q1 q2
 generalize digs 10 y=e at o2 l2 v2 q1 q2
 by_cases c1:d.length<e.length
 ·have c0':¬(d.length:Int)=e.length:=by omega
  have c1':(d.length:Int)<e.length:=by omega
  have hr:cmpN x y= -1:=by unfold cmpN;rw[if_pos (q1 c1)]
  repeat(first|refine wDB ?_|refine awp_seq_k fun K hK=>?_|refine wN fun bx=>?_|(refine wH ?_;clear hK))
  refine r1 ?_
  exact Sub.of_eq (by rw[hr])
 have c1':¬(d.length:Int)<e.length:=by omega
 by_cases c2:e.length<d.length
 ·have c0':¬(d.length:Int)=e.length:=by omega
  have hr:cmpN x y=1:=by unfold cmpN;have:=q2 c2;rw[if_neg (by omega),if_pos this]
  repeat(first|refine wDB ?_|refine awp_seq_k fun K hK=>?_|refine wN fun bx=>?_|(refine wH ?_;clear hK))
  refine r1 ?_
  exact Sub.of_eq (by rw[hr])
 have hle:d.length=e.length:=by omega
 have c0':(d.length:Int)=e.length:=by omega
 repeat(first|refine wDB ?_|refine awp_seq_k fun K hK=>?_|refine wN fun bx=>?_|(refine wH ?_;clear hK))
 refine awp_loop0 (ι:={i:Nat//i≤d.length∧d.drop (d.length-i)=e.drop (d.length-i)}) (fun i=>[(0,decs d),(1,decs e),(5,.int .i64 ((d.length:Int)-1-i.1))]) (fun _=>[]) (fun i=>d.length-i.1)
  ⟨0,Nat.zero_le _,by rw[Nat.sub_zero,List.drop_eq_nil_of_le (Nat.le_refl _),List.drop_eq_nil_of_le (by omega)]⟩ wk dp ?_
 rintro⟨i,hi,hd⟩
 simp only at hi hd ⊢
 by_cases hlt:i<d.length
 ·have hlt':(d.length:Int)-1-i≥0:=by omega
  have hk:(((d.length:Int)-1-i)).toNat=d.length-1-i:=by omega
  have hdd:d.drop (d.length-1-i+1)=e.drop (d.length-1-i+1):=by rw[show d.length-1-i+1=d.length-i by omega];exact hd
  have g1:d.getD (((d.length:Int)-1-i)).toNat default=d.getD (d.length-1-i) 0:=by rw[hk];rfl
  have g2:e.getD (((d.length:Int)-1-i)).toNat default=e.getD (d.length-1-i) 0:=by rw[hk];rfl
  by_cases p1:d.getD (d.length-1-i) 0<e.getD (d.length-1-i) 0
  ·have p1':((d.getD (((d.length:Int)-1-i)).toNat default:Nat):Int)<(e.getD (((d.length:Int)-1-i)).toNat default:Nat):=by rw[g1,g2];omega
   have:=val_lt_at o1.lt hle (by omega) hdd p1
   have hr:cmpN x y= -1:=by unfold cmpN;rw[if_pos (by omega)]
   repeat(first|refine wDB ?_|refine awp_seq_k fun K hK=>?_|refine wN fun bx=>?_|(refine wH ?_;clear hK))
   refine r1 ?_
   exact Sub.of_eq (by rw[hr])
  have p1':¬((d.getD (((d.length:Int)-1-i)).toNat default:Nat):Int)<(e.getD (((d.length:Int)-1-i)).toNat default:Nat):=by rw[g1,g2];omega
  by_cases p2:e.getD (d.length-1-i) 0<d.getD (d.length-1-i) 0
  ·have p2':((d.getD (((d.length:Int)-1-i)).toNat default:Nat):Int)>(e.getD (((d.length:Int)-1-i)).toNat default:Nat):=by rw[g1,g2];omega
   have:=val_lt_at o2.lt hle.symm (by omega) hdd.symm p2
   have hr:cmpN x y=1:=by unfold cmpN;rw[if_neg (by omega),if_pos (by omega)]
   repeat(first|refine wDB ?_|refine awp_seq_k fun K hK=>?_|refine wN fun bx=>?_|(refine wH ?_;clear hK))
   refine r1 ?_
   exact Sub.of_eq (by rw[hr])
  have p2':¬((d.getD (((d.length:Int)-1-i)).toNat default:Nat):Int)>(e.getD (((d.length:Int)-1-i)).toNat default:Nat):=by rw[g1,g2];omega
  repeat(first|refine wDB ?_|refine awp_seq_k fun K hK=>?_|refine wN fun bx=>?_|(refine wH ?_;clear hK))
  refine⟨⟨i+1,hlt,?_⟩,wk,dp,by simp only;omega⟩
  have e1:d.length-(i+1)=d.length-1-i:=by omega
  have h1:d.length-1-i<d.length:=by omega
  have h2:d.length-1-i<e.length:=by omega
  have e3:d.getD (d.length-1-i) 0=e.getD (d.length-1-i) 0:=by omega
  rw[e1,List.drop_eq_getElem_cons h1,List.drop_eq_getElem_cons h2,hdd]
  congr 1
  rw[List.getD_eq_getElem?_getD,List.getElem?_eq_getElem h1,List.getD_eq_getElem?_getD,List.getElem?_eq_getElem h2]at e3
  exact e3
 ·have hge:¬(d.length:Int)-1-i≥0:=by omega
  obtain rfl:i=d.length:=by omega
  rw[Nat.sub_self,List.drop_zero,List.drop_zero]at hd
  subst hd
  have hr:cmpN x y=0:=by unfold cmpN;rw[if_neg (by omega),if_neg (by omega)]
  repeat(first|refine wDB ?_|refine awp_seq_k fun K hK=>?_|refine wN fun bx=>?_|(refine wH ?_;clear hK))
  refine r1 ?_
  exact Sub.of_eq (by rw[hr])
theorem getD_none {l:List Nat} {i:Nat} (h:l.length≤i):l.getD i 0=0:=by
 rw[List.getD_eq_getElem?_getD,List.getElem?_eq_none h]
 rfl
theorem cbDadd:Callable Tryz.prog 106:=fun _ _=>by kernel_rfl
theorem dadd_c (d e:List Nat) (h:DecOk 100000000 d) (k:DecOk 100000000 e):PCalls Tryz.prog 106 [decs d,decs e] (decs (digs 10 (valB 10 d+valB 10 e))):=by
 refine pcalls_of_awp tyok cbDadd Tryz.func106 rfl rfl ?_
 have dl:=h.len
 have el:=k.len
 obtain⟨M,hM1,hM2,hM3⟩:∃M,d.length≤M∧e.length≤M∧M≤100000000:=⟨max d.length e.length,by omega,by omega,by omega⟩
 repeat(first|refine wD ?_|refine awp_seq_k fun K hK=>?_|refine wN fun bx=>?_|(refine wH ?_;clear hK))
 refine awp_tok0 1 3 ?_
 refine awp_loop0 (ι:={s:List Nat×Nat×Option Addr×Nat//s.1.length≤M+1∧(s.1.length=M+1→s.2.1=0)∧(∀z∈s.1,z<10)∧s.2.1≤1∧valB 10 s.1+s.2.1*10^s.1.length=valB 10 (d.take s.1.length)+valB 10 (e.take s.1.length)})
  (fun s=>[(0,decs d),(1,decs e),(5,sl decE 1 s.1.1 (.own s.1.2.2.1 s.1.2.2.2)),(6,.int .i64 (s.1.2.1:Nat)),(7,.int .i64 s.1.1.length)])
  (fun s=>[.tok s.1.2.2.1 s.1.2.2.2 s.1.1.length 1 3]) (fun s=>M+1-s.1.1.length) ⟨([],0,none,0),Nat.zero_le _,fun _=>rfl,fun z hz=>absurd hz List.not_mem_nil,Nat.zero_le _,by simp[valB]⟩ wk dp ?_
 rintro⟨⟨ps,c,a,cap⟩,hi,hz,hb,hc,hw⟩
 simp only at hi hz hb hc hw ⊢
 have hdi:=h.getD ps.length
 have hei:=k.getD ps.length
 have hstep:=add_step (B:=10) (a:=d.getD ps.length 0) (b:=e.getD ps.length 0) hw
 rw[←Nat.pow_succ,←val_snoc,←val_take_succ,←val_take_succ]at hstep
 have next:∀(q:Nat) (ad:Option Addr) (cp:Nat),ps.length≤M→q=c+d.getD ps.length 0+e.getD ps.length 0→∃i':{s:List Nat×Nat×Option Addr×Nat//s.1.length≤M+1∧(s.1.length=M+1→s.2.1=0)∧(∀z∈s.1,z<10)∧s.2.1≤1∧valB 10 s.1+s.2.1*10^s.1.length=valB 10 (d.take s.1.length)+valB 10 (e.take s.1.length)},i'.1=(ps++[q%10],q/10,ad,cp):=fun q ad cp hp hq=>by
  subst hq
  refine⟨⟨(ps++[(c+d.getD ps.length 0+e.getD ps.length 0)%10],(c+d.getD ps.length 0+e.getD ps.length 0)/10,ad,cp),?_,?_,snocD hb (Nat.mod_lt _ (by decide)),?_,?_⟩,rfl⟩
  ·simp only[List.length_append,List.length_singleton]
   omega
  ·simp only[List.length_append,List.length_singleton]
   intro hp2
   have x0:=getD_none (l:=d) (i:=ps.length) (by omega)
   have y0:=getD_none (l:=e) (i:=ps.length) (by omega)
   rw[x0,y0]
   omega
  ·simp only
   omega
  ·simp only[List.length_append,List.length_singleton]
   exact hstep
 have E1:(c:Int)+((d.getD ((ps.length:Int)).toNat default:Nat):Int)=((c+d.getD ps.length 0:Nat):Int):=by
  rw[Int.natCast_add]
  rfl
 have E2:(c:Int)+((e.getD ((ps.length:Int)).toNat default:Nat):Int)=((c+e.getD ps.length 0:Nat):Int):=by
  rw[Int.natCast_add]
  rfl
 have E3:(c:Int)+((d.getD ((ps.length:Int)).toNat default:Nat):Int)+((e.getD ((ps.length:Int)).toNat default:Nat):Int)=((c+d.getD ps.length 0+e.getD ps.length 0:Nat):Int):=by
  rw[E1,Int.natCast_add _ (e.getD ps.length 0)]
  rfl
 by_cases c1:ps.length<d.length
 ·have c1':(ps.length:Int)<d.length:=by omega
  by_cases c2:ps.length<e.length
  ·have c2':(ps.length:Int)<e.length:=by omega
   obtain⟨q,hq⟩:∃q,q=c+d.getD ps.length 0+e.getD ps.length 0:=⟨_,rfl⟩
   rw[←hq]at E3
   repeat(first|refine wDB ?_|refine awp_seq_k fun K hK=>?_|refine wN fun bx=>?_|(refine wH ?_;clear hK))
   refine qapp tyok decE ps (q%10) ?_ ?_ fun ad cp=>?_
   ·rw[E3]
    exact SubL.refl _
   ·simp only
    omega
   repeat(first|refine wDB ?_|refine awp_seq_k fun K hK=>?_|refine wN fun bx=>?_|(refine wH ?_;clear hK))
   obtain⟨i',hi'⟩:=next q ad cp (by omega) hq
   refine⟨i',?_,⟨0,by rw[hi'];rfl⟩,by rw[hi'];simp only[List.length_append,List.length_singleton];omega⟩
   rw[hi']
   simp only[List.length_append,List.length_singleton]
   rw[E3]
   exact wk
  ·have c2':¬(ps.length:Int)<e.length:=by omega
   have y0:=getD_none (l:=e) (i:=ps.length) (by omega)
   obtain⟨q,hq⟩:∃q,q=c+d.getD ps.length 0:=⟨_,rfl⟩
   rw[←hq]at E1
   repeat(first|refine wDB ?_|refine awp_seq_k fun K hK=>?_|refine wN fun bx=>?_|(refine wH ?_;clear hK))
   refine qapp tyok decE ps (q%10) ?_ ?_ fun ad cp=>?_
   ·rw[E1]
    exact SubL.refl _
   ·simp only
    omega
   repeat(first|refine wDB ?_|refine awp_seq_k fun K hK=>?_|refine wN fun bx=>?_|(refine wH ?_;clear hK))
   obtain⟨i',hi'⟩:=next q ad cp (by omega) (by omega)
   refine⟨i',?_,⟨0,by rw[hi'];rfl⟩,by rw[hi'];simp only[List.length_append,List.length_singleton];omega⟩
   rw[hi']
   simp only[List.length_append,List.length_singleton]
   rw[E1]
   exact wk
 have c1':¬(ps.length:Int)<d.length:=by omega
 have x0:=getD_none (l:=d) (i:=ps.length) (by omega)
 by_cases c2:ps.length<e.length
 ·have c2':(ps.length:Int)<e.length:=by omega
  obtain⟨q,hq⟩:∃q,q=c+e.getD ps.length 0:=⟨_,rfl⟩
  rw[←hq]at E2
  repeat(first|refine wDB ?_|refine awp_seq_k fun K hK=>?_|refine wN fun bx=>?_|(refine wH ?_;clear hK))
  refine qapp tyok decE ps (q%10) ?_ ?_ fun ad cp=>?_
  ·rw[E2]
   exact SubL.refl _
  ·simp only
   omega
  repeat(first|refine wDB ?_|refine awp_seq_k fun K hK=>?_|refine wN fun bx=>?_|(refine wH ?_;clear hK))
  obtain⟨i',hi'⟩:=next q ad cp (by omega) (by omega)
  refine⟨i',?_,⟨0,by rw[hi'];rfl⟩,by rw[hi'];simp only[List.length_append,List.length_singleton];omega⟩
  rw[hi']
  simp only[List.length_append,List.length_singleton]
  rw[E2]
  exact wk
 have c2':¬(ps.length:Int)<e.length:=by omega
 have y0:=getD_none (l:=e) (i:=ps.length) (by omega)
 by_cases c3:c=0
 ·subst c3
  have c3':¬((0:Nat):Int)>0:=by omega
  rw[Nat.zero_mul,Nat.add_zero,List.take_of_length_le (by omega),List.take_of_length_le (by omega)]at hw
  have sx:=dtrimO_c ps ⟨hb,by omega⟩ a cap
  rw[hw]at sx
  repeat(first|refine wDB ?_|refine awp_seq_k fun K hK=>?_|refine wN fun bx=>?_|refine wC sx ?_|(refine wH ?_;clear hK))
  refine r1 ?_
  exact Sub.refl _
 ·have c3':(c:Int)>0:=by omega
  repeat(first|refine wDB ?_|refine awp_seq_k fun K hK=>?_|refine wN fun bx=>?_|(refine wH ?_;clear hK))
  refine qapp tyok decE ps (c%10) ?_ ?_ fun ad cp=>?_
  ·exact SubL.refl _
  ·simp only
   omega
  repeat(first|refine wDB ?_|refine awp_seq_k fun K hK=>?_|refine wN fun bx=>?_|(refine wH ?_;clear hK))
  obtain⟨i',hi'⟩:=next c ad cp (by omega) (by omega)
  refine⟨i',?_,⟨0,by rw[hi'];rfl⟩,by rw[hi'];simp only[List.length_append,List.length_singleton];omega⟩
  rw[hi']
  simp only[List.length_append,List.length_singleton]
  exact wk
end Go.Proofs.YtamgilppehibeaaGreatDoor
namespace Go.Proofs.YtamgilppehibeaaGreatDoor
open Go.Ab
theorem subD_digit (a b c:Nat) (ha:a<10) (hb:b<10) (hc:c≤1):∃d c',d<10∧c'≤1∧d+b+c=a+c'*10:=by
 by_cases h:c+b≤a
 ·exact⟨a-(c+b),0,by omega,by omega,by omega⟩
 ·exact⟨a+10-(c+b),1,by omega,by omega,by omega⟩
theorem subD_step {V E A c P d b a c' B:Nat} (h:V+E=A+c*P) (hd:d+b+c=a+c'*B):(V+d*P)+(E+b*P)=(A+a*P)+c'*(P*B):=by
 grind
theorem cbDsub:Callable Tryz.prog 154:=fun _ _=>by kernel_rfl
theorem dsub_c (d e:List Nat) (h:DecOk 100000000 d) (k:DecOk 100000000 e) (hle:valB 10 e≤valB 10 d) (hlen:e.length≤d.length):PCalls Tryz.prog 154 [decs d,decs e] (decs (digs 10 (valB 10 d-valB 10 e))):=by
 refine pcalls_of_awp tyok cbDsub Tryz.func154 rfl rfl ?_
 have dl:=h.len
 have el:=k.len
 repeat(first|refine wD ?_|refine awp_seq_k fun K hK=>?_|refine wN fun bx=>?_|(refine wH ?_;clear hK))
 refine awp_tok0 1 3 ?_
 refine awp_loop0 (ι:={s:List Nat×Nat×Option Addr×Nat//s.1.length≤d.length∧(∀z∈s.1,z<10)∧s.2.1≤1∧valB 10 s.1+valB 10 (e.take s.1.length)=valB 10 (d.take s.1.length)+s.2.1*10^s.1.length})
  (fun s=>[(0,decs d),(1,decs e),(5,sl decE 1 s.1.1 (.own s.1.2.2.1 s.1.2.2.2)),(6,.int .i64 (s.1.2.1:Nat)),(7,.int .i64 s.1.1.length)])
  (fun s=>[.tok s.1.2.2.1 s.1.2.2.2 s.1.1.length 1 3]) (fun s=>d.length-s.1.1.length) ⟨([],0,none,0),Nat.zero_le _,fun z hz=>absurd hz List.not_mem_nil,Nat.zero_le _,by simp[valB]⟩ wk dp ?_
 rintro⟨⟨ps,c,a,cap⟩,hi,hb,hc,hw⟩
 simp only at hi hb hc hw ⊢
 by_cases hlt:ps.length<d.length
 ·have hlt':(ps.length:Int)<d.length:=by omega
  have hdi:=h.getD ps.length
  have hei:=k.getD ps.length
  obtain⟨q,c',hq,hc',hqq⟩:=subD_digit (d.getD ps.length 0) (e.getD ps.length 0) c hdi hei hc
  have hstep:=subD_step hw hqq
  rw[←Nat.pow_succ,←val_snoc,←val_take_succ,←val_take_succ]at hstep
  have ed:((d.getD ((ps.length:Int)).toNat default:Nat):Int)=(d.getD ps.length 0:Nat):=rfl
  have ee:((e.getD ((ps.length:Int)).toNat default:Nat):Int)=(e.getD ps.length 0:Nat):=rfl
  have next:∀(ad:Option Addr) (cp:Nat),∃i':{s:List Nat×Nat×Option Addr×Nat//s.1.length≤d.length∧(∀z∈s.1,z<10)∧s.2.1≤1∧valB 10 s.1+valB 10 (e.take s.1.length)=valB 10 (d.take s.1.length)+s.2.1*10^s.1.length},i'.1=(ps++[q],c',ad,cp):=fun ad cp=>
   ⟨⟨(ps++[q],c',ad,cp),by simp only[List.length_append,List.length_singleton];omega,snocD hb hq,hc',by simp only[List.length_append,List.length_singleton];exact hstep⟩,rfl⟩
  by_cases c1:ps.length<e.length
  ·have c1':(ps.length:Int)<e.length:=by omega
   rcases(show c'=0∨c'=1 by omega)with rfl|rfl
   ·have hn:¬((d.getD ((ps.length:Int)).toNat default:Nat):Int)-(c:Int)-((e.getD ((ps.length:Int)).toNat default:Nat):Int)<0:=by rw[ed,ee];omega
    have E:((d.getD ((ps.length:Int)).toNat default:Nat):Int)-(c:Int)-((e.getD ((ps.length:Int)).toNat default:Nat):Int)=(q:Nat):=by rw[ed,ee];omega
    repeat(first|refine wDB ?_|refine awp_seq_k fun K hK=>?_|refine wN fun bx=>?_|(refine wH ?_;clear hK))
    refine qapp tyok decE ps q ?_ ?_ fun ad cp=>?_
    ·rw[E]
     exact SubL.refl _
    ·simp only
     omega
    repeat(first|refine wDB ?_|refine awp_seq_k fun K hK=>?_|refine wN fun bx=>?_|(refine wH ?_;clear hK))
    obtain⟨i',hi'⟩:=next ad cp
    refine⟨i',?_,⟨0,by rw[hi'];rfl⟩,by rw[hi'];simp only[List.length_append,List.length_singleton];omega⟩
    rw[hi']
    simp only[List.length_append,List.length_singleton]
    exact wk
   ·have hn:((d.getD ((ps.length:Int)).toNat default:Nat):Int)-(c:Int)-((e.getD ((ps.length:Int)).toNat default:Nat):Int)<0:=by rw[ed,ee];omega
    have E:((d.getD ((ps.length:Int)).toNat default:Nat):Int)-(c:Int)-((e.getD ((ps.length:Int)).toNat default:Nat):Int)+10=(q:Nat):=by rw[ed,ee];omega
    repeat(first|refine wDB ?_|refine awp_seq_k fun K hK=>?_|refine wN fun bx=>?_|(refine wH ?_;clear hK))
    refine qapp tyok decE ps q ?_ ?_ fun ad cp=>?_
    ·rw[E]
     exact SubL.refl _
    ·simp only
     omega
    repeat(first|refine wDB ?_|refine awp_seq_k fun K hK=>?_|refine wN fun bx=>?_|(refine wH ?_;clear hK))
    obtain⟨i',hi'⟩:=next ad cp
    refine⟨i',?_,⟨0,by rw[hi'];rfl⟩,by rw[hi'];simp only[List.length_append,List.length_singleton];omega⟩
    rw[hi']
    simp only[List.length_append,List.length_singleton]
    exact wk
  ·have c1':¬(ps.length:Int)<e.length:=by omega
   have y0:=getD_none (l:=e) (i:=ps.length) (by omega)
   rw[y0,Nat.add_zero]at hqq
   rcases(show c'=0∨c'=1 by omega)with rfl|rfl
   ·have hn:¬((d.getD ((ps.length:Int)).toNat default:Nat):Int)-(c:Int)<0:=by rw[ed];omega
    have E:((d.getD ((ps.length:Int)).toNat default:Nat):Int)-(c:Int)=(q:Nat):=by rw[ed];omega
    repeat(first|refine wDB ?_|refine awp_seq_k fun K hK=>?_|refine wN fun bx=>?_|(refine wH ?_;clear hK))
    refine qapp tyok decE ps q ?_ ?_ fun ad cp=>?_
    ·rw[E]
     exact SubL.refl _
    ·simp only
     omega
    repeat(first|refine wDB ?_|refine awp_seq_k fun K hK=>?_|refine wN fun bx=>?_|(refine wH ?_;clear hK))
    obtain⟨i',hi'⟩:=next ad cp
    refine⟨i',?_,⟨0,by rw[hi'];rfl⟩,by rw[hi'];simp only[List.length_append,List.length_singleton];omega⟩
    rw[hi']
    simp only[List.length_append,List.length_singleton]
    exact wk
   ·have hn:((d.getD ((ps.length:Int)).toNat default:Nat):Int)-(c:Int)<0:=by rw[ed];omega
    have E:((d.getD ((ps.length:Int)).toNat default:Nat):Int)-(c:Int)+10=(q:Nat):=by rw[ed];omega
    repeat(first|refine wDB ?_|refine awp_seq_k fun K hK=>?_|refine wN fun bx=>?_|(refine wH ?_;clear hK))
    refine qapp tyok decE ps q ?_ ?_ fun ad cp=>?_
    ·rw[E]
     exact SubL.refl _
    ·simp only
     omega
    repeat(first|refine wDB ?_|refine awp_seq_k fun K hK=>?_|refine wN fun bx=>?_|(refine wH ?_;clear hK))
    obtain⟨i',hi'⟩:=next ad cp
    refine⟨i',?_,⟨0,by rw[hi'];rfl⟩,by rw[hi'];simp only[List.length_append,List.length_singleton];omega⟩
    rw[hi']
    simp only[List.length_append,List.length_singleton]
    exact wk
 ·have hge:¬(ps.length:Int)<d.length:=by omega
  have hpl:ps.length=d.length:=by omega
  rw[hpl,List.take_of_length_le (by omega),List.take_of_length_le (by omega)]at hw
  have hlt2:=val_lt hb
  rw[hpl]at hlt2
  have hc0:c=0:=by
   rcases Nat.eq_zero_or_pos c with h0|h0
   ·exact h0
   ·have:=Nat.mul_le_mul_right (10^d.length) h0
    omega
  have hvv:valB 10 ps=valB 10 d-valB 10 e:=by
   rw[hc0,Nat.zero_mul]at hw
   omega
  have sx:=dtrimO_c ps ⟨hb,by omega⟩ a cap
  rw[hvv]at sx
  repeat(first|refine wDB ?_|refine awp_seq_k fun K hK=>?_|refine wN fun bx=>?_|refine wC sx ?_|(refine wH ?_;clear hK))
  refine r1 ?_
  exact Sub.refl _
theorem cbDsame:Callable Tryz.prog 104:=fun _ _=>by kernel_rfl
theorem dsame_c (a b:List Nat) (ha:a.length≤1000000000) (hb:b.length≤1000000000):PCalls Tryz.prog 104 [lims a,lims b] (.bool (decide (a=b))):=by
 refine pcalls_of_awp tyok cbDsame Tryz.func104 rfl rfl ?_
 by_cases hl:a.length=b.length
 rotate_left
 ·have hl':¬(a.length:Int)=b.length:=by omega
  have hr:decide (a=b)=false:=decide_eq_false fun e=>hl (by rw[e])
  repeat(first|refine wDB ?_|refine awp_seq_k fun K hK=>?_|refine wN fun bx=>?_|(refine wH ?_;clear hK))
  refine r1 ?_
  exact Sub.of_eq (by rw[hr])
 have hl':(a.length:Int)=b.length:=by omega
 repeat(first|refine wDB ?_|refine awp_seq_k fun K hK=>?_|refine wN fun bx=>?_|(refine wH ?_;clear hK))
 refine awp_loop0 (ι:={i:Nat//i≤a.length∧a.take i=b.take i}) (fun i=>[(0,lims a),(1,lims b),(5,.int .i64 i.1)]) (fun _=>[]) (fun i=>a.length-i.1) ⟨0,Nat.zero_le _,rfl⟩ wk dp ?_
 rintro⟨i,hi,he⟩
 simp only at hi he ⊢
 by_cases hlt:i<a.length
 ·have hlt':(i:Int)<a.length:=by omega
  have hlb:i<b.length:=by omega
  have ga:((a.getD ((i:Int)).toNat default:Nat):Int)=(a[i]:Nat):=by
   show((a.getD i 0:Nat):Int)=_
   rw[List.getD_eq_getElem?_getD,List.getElem?_eq_getElem hlt]
   rfl
  have gb:((b.getD ((i:Int)).toNat default:Nat):Int)=(b[i]:Nat):=by
   show((b.getD i 0:Nat):Int)=_
   rw[List.getD_eq_getElem?_getD,List.getElem?_eq_getElem hlb]
   rfl
  by_cases hx:a[i]=b[i]
  ·have hx':((a.getD ((i:Int)).toNat default:Nat):Int)=(b.getD ((i:Int)).toNat default:Nat):=by rw[ga,gb];omega
   repeat(first|refine wDB ?_|refine awp_seq_k fun K hK=>?_|refine wN fun bx=>?_|(refine wH ?_;clear hK))
   exact⟨⟨i+1,hlt,by rw[List.take_succ_eq_append_getElem hlt,List.take_succ_eq_append_getElem hlb,he,hx]⟩,wk,dp,by simp only;omega⟩
  ·have hx':¬((a.getD ((i:Int)).toNat default:Nat):Int)=(b.getD ((i:Int)).toNat default:Nat):=by rw[ga,gb];omega
   have hr:decide (a=b)=false:=decide_eq_false fun e=>by
    subst e
    exact hx rfl
   repeat(first|refine wDB ?_|refine awp_seq_k fun K hK=>?_|refine wN fun bx=>?_|(refine wH ?_;clear hK))
   refine r1 ?_
   exact Sub.of_eq (by rw[hr])
 ·have hge:¬(i:Int)<a.length:=by omega
  have hr:decide (a=b)=true:=decide_eq_true (by
   rw[List.take_of_length_le (by omega),List.take_of_length_le (by omega)]at he
   exact he)
  repeat(first|refine wDB ?_|refine awp_seq_k fun K hK=>?_|refine wN fun bx=>?_|(refine wH ?_;clear hK))
  refine r1 ?_
  exact Sub.of_eq (by rw[hr])
end Go.Proofs.YtamgilppehibeaaGreatDoor
namespace Go.Proofs.YtamgilppehibeaaGreatDoor
open Go.Ab
theorem putD {xs:List Nat} {i d:Nat} (h:∀z∈xs,z<10) (hd:d<10):∀z∈xs.set i d,z<10:=fun z hz=>by
 rcases List.mem_or_eq_of_mem_set hz with hz|rfl
 ·exact h z hz
 ·exact hd
theorem cbDmul:Callable Tryz.prog 157:=fun _ _=>by kernel_rfl
theorem dmul_c (d e:List Nat) (h:DecOk 100000000 d) (k:DecOk 100000000 e):PCalls Tryz.prog 157 [decs d,decs e] (decs (digs 10 (valB 10 d*valB 10 e))):=by
 refine pcalls_of_awp tyok cbDmul Tryz.func157 rfl rfl ?_
 have dl:=h.len
 have el:=k.len
 repeat(first|refine wDB ?_|refine awp_seq_k fun K hK=>?_|refine wN fun bx=>?_|(refine wH ?_;clear hK))
 refine qmakeN tyok (m:=d.length+e.length+1) (k:=.i64) (fun g=>?_) ?_
 rotate_left
 ·simp only
  omega
 unfold rowN rowM
 repeat(first|refine wDB ?_|refine awp_seq_k fun K hK=>?_|refine wN fun bx=>?_|(refine wH ?_;clear hK))
 refine awp_loop0 (ι:={s:Nat×List Nat//s.1≤d.length∧s.2.length=d.length+e.length+1∧(∀z∈s.2,z<10)∧(∀j,s.1+e.length≤j→s.2.getD j 0=0)∧valB 10 s.2=valB 10 (d.take s.1)*valB 10 e})
  (fun s=>[(0,decs d),(1,decs e),(5,.mslice g 0 (d.length+e.length+1) (d.length+e.length+1)),(6,.int .i64 s.1.1)])
  (fun s=>[rowN .i64 g 3 s.1.2]) (fun s=>d.length-s.1.1) ⟨(0,List.replicate (d.length+e.length+1) 0),Nat.zero_le _,List.length_replicate,fun z hz=>by rw[(List.mem_replicate.1 hz).2];decide,fun j _=>?_,?_⟩ wk ⟨0,rfl⟩ ?_
 ·simp only
  rw[List.getD_eq_getElem?_getD,List.getElem?_replicate]
  split<;>rfl
 ·simp only[List.take_zero]
  rw[val_zeros,valB,Nat.zero_mul]
 rintro⟨⟨i,xs⟩,hi,hxl,hxb,hz,hv⟩
 simp only at hi hxl hxb hz hv ⊢
 by_cases hlt:i<d.length
 ·have hlt':(i:Int)<d.length:=by omega
  have hdi:=h.getD i
  have hbig:valB 10 (d.take i)*valB 10 e+d.getD i 0*valB 10 e*10^i<10^(i+1+e.length):=by
   have h1:valB 10 (d.take (i+1))<10^(i+1):=Nat.lt_of_lt_of_le (val_lt (all_take h.lt (i+1))) (Nat.pow_le_pow_right (by decide) (by rw[List.length_take];omega))
   have h2:=val_lt k.lt
   have h3:=Nat.mul_lt_mul'' h1 h2
   rw[←Nat.pow_add,val_take_succ,Nat.add_mul]at h3
   have h4:d.getD i 0*valB 10 e*10^i=d.getD i 0*10^i*valB 10 e:=by rw[Nat.mul_assoc,Nat.mul_comm (valB 10 e),←Nat.mul_assoc]
   omega
  unfold rowN rowM
  repeat(first|refine wDB ?_|refine awp_seq_k fun K hK=>?_|refine wN fun bx=>?_|(refine wH ?_;clear hK))
  refine awp_loop0 (ι:={s:Nat×List Nat×Nat//s.1≤e.length+1∧s.2.1.length=d.length+e.length+1∧(∀z∈s.2.1,z<10)∧(∀j,i+e.length≤j→i+s.1≤j→s.2.1.getD j 0=0)∧s.2.2≤9∧valB 10 s.2.1+s.2.2*10^(i+s.1)=valB 10 (d.take i)*valB 10 e+d.getD i 0*valB 10 (e.take s.1)*10^i})
   (fun s=>[(0,decs d),(1,decs e),(5,.mslice g 0 (d.length+e.length+1) (d.length+e.length+1)),(6,.int .i64 i),(7,.int .i64 (s.1.2.2:Nat)),(8,.int .i64 s.1.1)])
   (fun s=>[rowN .i64 g 3 s.1.2.1]) (fun s=>e.length+1-s.1.1) ⟨(0,xs,0),Nat.zero_le _,hxl,hxb,fun j h1 _=>hz j h1,Nat.zero_le _,?_⟩ wk ⟨0,?_⟩ ?_
  ·simp only[List.take_zero,valB,Nat.mul_zero,Nat.zero_mul,Nat.add_zero]
   exact hv
  ·unfold rowN rowM
   rfl
  rintro⟨⟨k2,ys,c⟩,hk,hyl,hyb,hyz,hc,hw⟩
  simp only at hk hyl hyb hyz hc hw ⊢
  have hok:c=0∨k2≤e.length:=by
   rcases Nat.eq_zero_or_pos c with h0|h0
   ·exact .inl h0
   ·right
    have h1:valB 10 (e.take k2)≤valB 10 e:=by
     have:=val_take_drop 10 e (min k2 e.length) (Nat.min_le_right _ _)
     have e1:e.take (min k2 e.length)=e.take k2:=by
      rcases Nat.le_total k2 e.length with z|z
      ·rw[Nat.min_eq_left z]
      ·rw[Nat.min_eq_right z,List.take_length,List.take_of_length_le z]
     rw[e1]at this
     omega
    have h2:d.getD i 0*valB 10 (e.take k2)*10^i≤d.getD i 0*valB 10 e*10^i:=Nat.mul_le_mul_right _ (Nat.mul_le_mul_left _ h1)
    have h3:1*10^(i+k2)≤c*10^(i+k2):=Nat.mul_le_mul_right _ h0
    have h4:10^(i+k2)<10^(i+1+e.length):=by omega
    have:=(Nat.pow_lt_pow_iff_right (show 1<10 by decide)).1 h4
    omega
  have hoi:=getD_lt (show 0<10 by decide) hyb (i+k2)
  have hbi:=k.getD k2
  have next:∀(q:Nat),i+k2<d.length+e.length+1→k2≤e.length→q=c+(d.getD i 0*e.getD k2 0+ys.getD (i+k2) 0)→∃s:{s:Nat×List Nat×Nat//s.1≤e.length+1∧s.2.1.length=d.length+e.length+1∧(∀z∈s.2.1,z<10)∧(∀j,i+e.length≤j→i+s.1≤j→s.2.1.getD j 0=0)∧s.2.2≤9∧valB 10 s.2.1+s.2.2*10^(i+s.1)=valB 10 (d.take i)*valB 10 e+d.getD i 0*valB 10 (e.take s.1)*10^i},s.1=(k2+1,ys.set (i+k2) (q%10),q/10):=fun q hin hk2 hq=>by
   have hxy:d.getD i 0*e.getD k2 0≤9*9:=Nat.mul_le_mul (by omega) (by omega)
   have hset:=val_set 10 ys (i+k2) (q%10) (by omega)
   have hstep:=mul_inner hw hset (show q%10+10*(q/10)=c+(d.getD i 0*e.getD k2 0+ys.getD (i+k2) 0) by omega) (show 10^(i+k2)=10^i*10^k2 by rw[Nat.pow_add])
   rw[←Nat.pow_succ,←val_take_succ]at hstep
   refine⟨⟨(k2+1,ys.set (i+k2) (q%10),q/10),by simp only;omega,by rw[List.length_set];exact hyl,putD hyb (Nat.mod_lt _ (by decide)),fun j h1 h2=>?_,by simp only;omega,hstep⟩,rfl⟩
   simp only at h1 h2 ⊢
   rw[getD_set_ne (by omega)]
   exact hyz j h1 (by omega)
  have hj0:0+((i:Int)+(k2:Int)).toNat=i+k2:=by omega
  have eo:((ys.getD (0+((i:Int)+(k2:Int)).toNat) 0:Nat):Int)=(ys.getD (i+k2) 0:Nat):=by rw[hj0]
  by_cases c1:k2<e.length
  ·have c1':(k2:Int)<e.length:=by omega
   have hxy:d.getD i 0*e.getD k2 0≤9*9:=Nat.mul_le_mul (by omega) (by omega)
   have exy:((d.getD ((i:Int)).toNat default:Nat):Int)*((e.getD ((k2:Int)).toNat default:Nat):Int)=((d.getD i 0*e.getD k2 0:Nat):Int):=by
    rw[Int.natCast_mul]
    rfl
   obtain⟨q,hq⟩:∃q,q=c+(d.getD i 0*e.getD k2 0+ys.getD (i+k2) 0):=⟨_,rfl⟩
   have E:(c:Int)+((ys.getD (0+((i:Int)+(k2:Int)).toNat) 0:Nat):Int)+((d.getD ((i:Int)).toNat default:Nat):Int)*((e.getD ((k2:Int)).toNat default:Nat):Int)=(q:Nat):=by
    rw[eo,exy]
    omega
   obtain⟨s,hs⟩:=next q (by omega) (by omega) hq
   unfold rowN rowM
   repeat(first|refine wDB ?_|refine awp_seq_k fun K hK=>?_|refine wN fun bx=>?_|(refine wH ?_;clear hK))
   refine⟨s,?_,⟨0,?_⟩,by rw[hs];simp only;omega⟩
   ·rw[hs,E]
    exact wk
   ·rw[hs,E,hj0,show(q:Int)%10=((q%10:Nat):Int) by omega]
    exact congrArg (fun e=>[e]) (rowN_set (by omega))
  have c1':¬(k2:Int)<e.length:=by omega
  have y0:=getD_none (l:=e) (i:=k2) (by omega)
  by_cases c2:c=0
  ·subst c2
   have c2':¬((0:Nat):Int)>0:=by omega
   rw[Nat.zero_mul,Nat.add_zero,List.take_of_length_le (l:=e) (by omega)]at hw
   unfold rowN rowM
   repeat(first|refine wDB ?_|refine awp_seq_k fun K hK=>?_|refine wN fun bx=>?_|(refine wH ?_;clear hK))
   refine⟨⟨(i+1,ys),hlt,hyl,hyb,fun j hj=>hyz j (by simp only at hj;omega) (by simp only at hj;omega),?_⟩,wk,⟨0,rfl⟩,by simp only;omega⟩
   simp only
   rw[hw,val_take_succ,Nat.add_mul]
   congr 1
   rw[Nat.mul_assoc,Nat.mul_comm (valB 10 e),←Nat.mul_assoc]
  ·have c2':(c:Int)>0:=by omega
   obtain⟨q,hq⟩:∃q,q=c+ys.getD (i+k2) 0:=⟨_,rfl⟩
   have E:(c:Int)+((ys.getD (0+((i:Int)+(k2:Int)).toNat) 0:Nat):Int)=(q:Nat):=by
    rw[eo]
    omega
   have hkk:k2≤e.length:=by omega
   obtain⟨s,hs⟩:=next q (by omega) hkk (by rw[y0];omega)
   unfold rowN rowM
   repeat(first|refine wDB ?_|refine awp_seq_k fun K hK=>?_|refine wN fun bx=>?_|(refine wH ?_;clear hK))
   refine⟨s,?_,⟨0,?_⟩,by rw[hs];simp only;omega⟩
   ·rw[hs,E]
    exact wk
   ·rw[hs,E,hj0,show(q:Int)%10=((q%10:Nat):Int) by omega]
    exact congrArg (fun e=>[e]) (rowN_set (by omega))
 ·have hge:¬(i:Int)<d.length:=by omega
  obtain rfl:i=d.length:=by omega
  rw[List.take_length]at hv
  have sx:=dtrim_c xs ⟨hxb,by omega⟩
  rw[hv]at sx
  unfold rowN
  refine awp_freezeM [] (s:=5) rfl (rowD_all hxl) ?_
  repeat(first|refine wDB ?_|refine awp_seq_k fun K hK=>?_|refine wN fun bx=>?_|refine wC sx ?_|(refine wH ?_;clear hK))
  refine r1 ?_
  exact Sub.refl _
theorem cons_sub {x:Nat} {r:List Nat} {o:Go.Ab.Own} {el1 el2:Nat→List AV} (h:SubL (el1 0) (decE x)) (h2:el2=fun i=>decE (r.getD i default)):Sub (.slice 1 (1+r.length) (glue 1 el1 el2) o) (sl decE 1 (x::r) o):=by
 subst h2
 unfold sl
 rw[List.length_cons,Nat.add_comm]
 refine Sub.els fun i _=>?_
 unfold glue
 cases i with
 |zero=>exact h
 |succ i=>
  rw[if_neg (by omega)]
  exact SubL.refl _
theorem topB_cons {L m:Nat} {qs:List Nat} (h:m<L):(List.replicate L 0).take (m+1)++qs=(List.replicate L 0).take m++0::qs:=by
 rw[List.take_succ_eq_append_getElem (by rw[List.length_replicate];exact h),List.getElem_replicate,List.append_assoc]
 rfl
theorem top_at {L m c:Nat} {qs:List Nat} (h:m≤L):((List.replicate L 0).take m++c::qs).getD m 0=c:=by
 have hl:((List.replicate L 0).take m).length=m:=by rw[List.length_take,List.length_replicate];omega
 rw[List.getD_eq_getElem?_getD,List.getElem?_append_right (by omega),hl,Nat.sub_self]
 rfl
theorem top_put {L m c v:Nat} {qs:List Nat} (h:m≤L):((List.replicate L 0).take m++c::qs).set m v=(List.replicate L 0).take m++v::qs:=by
 have hl:((List.replicate L 0).take m).length=m:=by rw[List.length_take,List.length_replicate];omega
 rw[List.set_append_right _ _ (by omega),hl,Nat.sub_self,List.set_cons_zero]
theorem cbDdm:Callable Tryz.prog 114:=fun _ _=>by kernel_rfl
theorem ddm_c {a y k m:Nat} (ha:a<10^k) (hy:y<10^m) (hk:k≤10000000) (hm:m≤10000000) (hy0:0<y):PCalls Tryz.prog 114 [decs (digs 10 a),decs (digs 10 y)] (.tuple [decs (digs 10 (a/y)),decs (digs 10 (a%y))]):=by
 refine pcalls_of_awp tyok cbDdm Tryz.func114 rfl rfl ?_
 have h:=(DecOk.digs ha).mono hk
 have ea:=val_digs ten_two a
 generalize digs 10 a=d at h ea ⊢
 have dl:=h.len
 have hpm:∀r,r<y→r<10^m:=fun r hr=>by omega
 have hpm1:∀r,r<10*y→r<10^(m+1):=fun r hr=>by rw[Nat.pow_succ];omega
 repeat(first|refine wDB ?_|refine awp_seq_k fun K hK=>?_|refine wN fun bx=>?_|(refine wH ?_;clear hK))
 refine qmakeN tyok (m:=d.length) (k:=.i64) (fun g=>?_) ?_
 rotate_left
 ·simp only
  omega
 unfold rowN rowM
 repeat(first|refine wDB ?_|refine awp_seq_k fun K hK=>?_|refine wN fun bx=>?_|(refine wH ?_;clear hK))
 refine awp_loop0 (ι:={s:List Nat×Nat//s.1.length≤d.length∧(∀z∈s.1,z<10)∧s.2<y∧valB 10 (d.drop (d.length-s.1.length))=y*valB 10 s.1+s.2})
  (fun s=>[(0,decs d),(1,decs (digs 10 y)),(6,.mslice g 0 d.length d.length),(7,decs (digs 10 s.1.2)),(8,.int .i64 ((d.length:Int)-1-s.1.1.length))])
  (fun s=>[rowN .i64 g 3 ((List.replicate d.length 0).take (d.length-s.1.1.length)++s.1.1)]) (fun s=>d.length-s.1.1.length) ⟨([],0),Nat.zero_le _,fun z hz=>absurd hz List.not_mem_nil,hy0,by simp[valB]⟩ ⟨⟨_,rfl,Sub.refl _⟩,⟨_,rfl,Sub.refl _⟩,⟨_,rfl,Sub.refl _⟩,⟨_,rfl,Sub.nilsv _ _⟩,⟨_,rfl,Sub.of_eq (by simp)⟩,True.intro⟩ ⟨0,by simp only[List.length_nil,Nat.sub_zero,List.take_replicate,Nat.min_self,List.append_nil];rfl⟩ ?_
 rintro⟨⟨qs,r⟩,hi,hb,hr,hw⟩
 simp only at hi hb hr hw ⊢
 by_cases hlt:qs.length<d.length
 ·have hlt':(d.length:Int)-1-qs.length≥0:=by omega
  obtain⟨p,hp⟩:∃p,d.length-qs.length=p+1:=⟨d.length-qs.length-1,by omega⟩
  have hpl:p<d.length:=by omega
  have hm1:(((d.length:Int)-1-qs.length)).toNat=p:=by omega
  have hj0:0+(((d.length:Int)-1-qs.length)).toNat=p:=by omega
  have hdm:=h.getD p
  have hgm:d.getD (((d.length:Int)-1-qs.length)).toNat default=d.getD p 0:=by rw[hm1];rfl
  have rl:=(DecOk.digs (hpm r hr)).len
  have hx0:d.getD p 0+10*r<10*y:=by omega
  rw[hp,topB_cons hpl]
  unfold rowN rowM
  repeat(first|refine wDB ?_|refine awp_seq_k fun K hK=>?_|refine wN fun bx=>?_|(refine wH ?_;clear hK))
  refine TR.appendF tyok (fun ad cp=>sl decE 1 (d.getD p 0::digs 10 r) (.own ad cp)) rfl rfl rfl rfl True.intro rfl rfl rfl rfl rfl rfl rfl rfl rfl ?_ (fun ad cp=>?_) fun ad cp=>?_
  ·simp only
   omega
  ·rw[hgm]
   exact cons_sub (SubL.refl _) rfl
  have sx:=dtrimO_c (d.getD p 0::digs 10 r) ⟨fun z hz=>by
   rcases List.mem_cons.1 hz with rfl|hz
   ·exact hdm
   ·exact digs_lt ten_two r z hz,by rw[List.length_cons];omega⟩ ad cp
  rw[show valB 10 (d.getD p 0::digs 10 r)=d.getD p 0+10*r by simp only[valB];rw[val_digs ten_two]]at sx
  repeat(first|refine wDB ?_|refine awp_seq_k fun K hK=>?_|refine wN fun bx=>?_|refine wC sx ?_|(refine wH ?_;clear hK))
  refine awp_loop0 (ι:={s:Nat×Nat//s.1+s.2*y=d.getD p 0+10*r})
   (fun s=>[(0,decs d),(1,decs (digs 10 y)),(6,.mslice g 0 d.length d.length),(7,decs (digs 10 s.1.1)),(8,.int .i64 ((d.length:Int)-1-qs.length))])
   (fun s=>[rowN .i64 g 3 ((List.replicate d.length 0).take p++s.1.2::qs)]) (fun s=>s.1.1) ⟨(d.getD p 0+10*r,0),by simp only;omega⟩ wk ⟨1,by unfold rowN rowM;rfl⟩ ?_
  rintro⟨⟨s,c⟩,hs⟩
  simp only at hs ⊢
  have hc9:c≤9:=by
   rcases Nat.lt_or_ge 9 c with z|z
   ·have:=Nat.mul_le_mul_right y z
    omega
   ·exact z
  have hlen:((List.replicate d.length 0).take p++c::qs).length=d.length:=by rw[List.length_append,List.length_take,List.length_replicate,List.length_cons];omega
  have hget:=top_at (c:=c) (qs:=qs) (show p≤d.length by omega)
  have hput:=fun v=>top_put (c:=c) (v:=v) (qs:=qs) (show p≤d.length by omega)
  have g1:=dcmp_c (x:=s) (y:=y) (hpm1 s (by omega)) hy (by omega) (by omega)
  by_cases hsy:s<y
  ·have hr1:cmpN s y= -1:=by unfold cmpN;rw[if_pos hsy]
   rw[hr1]at g1
   unfold rowN rowM
   repeat(first|refine wDB ?_|refine awp_seq_k fun K hK=>?_|refine wN fun bx=>?_|refine wC g1 ?_|(refine wH ?_;clear hK))
   refine⟨⟨(c::qs,s),by simp only[List.length_cons];omega,fun z hz=>?_,hsy,?_⟩,?_,⟨0,?_⟩,by simp only[List.length_cons];omega⟩
   ·rcases List.mem_cons.1 hz with rfl|hz
    ·omega
    ·exact hb z hz
   ·simp only[List.length_cons,valB]
    rw[show d.length-(qs.length+1)=p by omega,val_drop_succ]
    rw[hp]at hw
    exact dm_step hw hs
   ·simp only[List.length_cons]
    exact wk
   ·simp only[List.length_cons]
    rw[show d.length-(qs.length+1)=p by omega]
    rfl
  ·have hr1:¬cmpN s y<0:=by unfold cmpN;rw[if_neg hsy];split<;>decide
   have hr2:cmpN s y≥0:=by omega
   have os:=(DecOk.digs (hpm1 s (by omega))).mono (show m+1≤100000000 by omega)
   have oy:=(DecOk.digs hy).mono (show m≤100000000 by omega)
   have g2:=dsub_c (digs 10 s) (digs 10 y) os oy (by rw[val_digs ten_two,val_digs ten_two];omega) (by
    rcases Nat.lt_or_ge (digs 10 s).length (digs 10 y).length with z|z
    ·have:=lt_of_len ten_two z
     omega
    ·exact z)
   rw[val_digs ten_two,val_digs ten_two]at g2
   have hc1:(s-y)+(c+1)*y=d.getD p 0+10*r:=by
    rw[Nat.add_mul,Nat.one_mul]
    omega
   have E:(((((List.replicate d.length 0).take p++c::qs).getD (0+(((d.length:Int)-1-qs.length)).toNat) 0:Nat):Int))+1=((c+1:Nat):Int):=by
    rw[hj0,hget]
    rfl
   unfold rowN rowM
   repeat(first|refine wDB ?_|refine awp_seq_k fun K hK=>?_|refine wN fun bx=>?_|refine wC g1 ?_|refine wC g2 ?_|(refine wH ?_;clear hK))
   refine⟨⟨(s-y,c+1),hc1⟩,wk,⟨0,?_⟩,by simp only;omega⟩
   rw[E,hj0]
   exact(congrArg (fun e=>[e]) (rowN_set (by omega))).trans (by rw[hput (c+1)])
 ·have hge:¬(d.length:Int)-1-qs.length≥0:=by omega
  have hql:qs.length=d.length:=by omega
  rw[hql,Nat.sub_self,List.drop_zero,ea]at hw
  have hdl:=div_law (a:=a) (b:=y) (q:=valB 10 qs) (r:=r) (by rw[hw,Nat.mul_comm];omega) hr
  have sx:=dtrim_c qs ⟨hb,by omega⟩
  rw[hdl.1]at sx
  rw[hql,Nat.sub_self,List.take_zero,List.nil_append]
  unfold rowN
  refine awp_freezeM [] (s:=6) rfl (rowD_all hql) ?_
  repeat(first|refine wDB ?_|refine awp_seq_k fun K hK=>?_|refine wN fun bx=>?_|refine wC sx ?_|(refine wH ?_;clear hK))
  refine r2 ?_ ?_
  ·exact Sub.refl _
  ·exact Sub.of_eq (by rw[hdl.2])
end Go.Proofs.YtamgilppehibeaaGreatDoor
