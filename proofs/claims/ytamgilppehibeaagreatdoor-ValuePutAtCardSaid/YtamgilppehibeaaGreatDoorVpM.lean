/-
  Package value: must, small, until.
-/
import Derived.Test.YtamgilppehibeaaGreatDoorTxM
import Derived.Test.YtamgilppehibeaaGreatDoorCaM
import Derived.Test.YtamgilppehibeaaGreatDoorAbF
import Derived.Lib.AtoiAllCases
import Derived.Test.YtamgilppehibeaaGreatDoorDtM
import Derived.Test.YtamgilppehibeaaGreatDoorPoM
import Derived.Test.YtamgilppehibeaaGreatDoorNwM
set_option maxRecDepth 100000
set_option maxHeartbeats 12800000
namespace Go.Proofs.YtamgilppehibeaaGreatDoor
open Go.Ab Go.Lib
def wrongV:AV:=.iface 91 (.agg [])
theorem cbMust:Callable Tryz.prog 48:=fun _ _=>by kernel_rfl
theorem must_ok:PCalls Tryz.prog 48 [.bool true] (.tuple []):=by
 refine pcalls_of_awp tyok cbMust Tryz.func48 rfl rfl ?_
 repeat(first|refine wDB ?_|refine awp_seq_k fun K hK=>?_|refine wN fun bx=>?_|(refine wH ?_;clear hK))
 exact fnQ_ret 0 rfl .nil (Sub.refl _) ⟨rfl,rfl⟩
theorem must_no:NCalls Tryz.prog 48 [.bool false] wrongV:=by
 refine acalls_of_awp tyok cbMust Tryz.func48 rfl rfl ?_
 repeat(first|refine wDB ?_|refine awp_seq_k fun K hK=>?_|refine wN fun bx=>?_|(refine wH ?_;clear hK))
 refine TR.panic rfl rfl rfl True.intro rfl ?_
 repeat(first|refine wD ?_|refine awp_seq_k fun K hK=>?_|refine wN fun bx=>?_|(refine wH ?_;clear hK))
 exact⟨0,rfl,rfl⟩
theorem cbSmall:Callable Tryz.prog 151:=fun _ _=>by kernel_rfl
theorem small_some {s:List UInt8} {n:Int} (h:smallF s=some n) (hs:s.length≤1000000):PCalls Tryz.prog 151 [.str s] (.int .i64 n):=by
 refine pcalls_of_awp tyok cbSmall Tryz.func151 rfl rfl ?_
 have g1:=atoi_c s (by omega)
 have g3:=must_ok
 unfold smallF at h
 unfold atoiV at g1
 cases ha:Lib.atoiAll s with
 |ok v=>
  rw[ha]at h g1
  simp only at h g1
  split at h
  ·rename_i hi
   cases h
   have hb:=atoiAll_bounds ha
   have g2:=itoa_c n hb.1 hb.2
   rw[hi]at g2
   repeat(first|refine wDE ?_|refine awp_seq_k fun K hK=>?_|refine wN fun bx=>?_|refine wC g1 ?_|refine wC g2 ?_|refine wC g3 ?_|(refine wH ?_;clear hK))
   refine r1 ?_
   exact Sub.refl _
  ·cases h
 |_=>
  rw[ha]at h
  cases h
theorem small_none {s:List UInt8} (h:smallF s=none) (hs:s.length≤1000000):NCalls Tryz.prog 151 [.str s] wrongV:=by
 refine acalls_of_awp tyok cbSmall Tryz.func151 rfl rfl ?_
 have g1:=atoi_c s (by omega)
 unfold smallF at h
 unfold atoiV at g1
 cases ha:Lib.atoiAll s with
 |ok v=>
  rw[ha]at h g1
  simp only at h g1
  split at h
  ·cases h
  ·rename_i hi
   have hb:=atoiAll_bounds ha
   have g2:=itoa_c v hb.1 hb.2
   repeat(first|refine wDB ?_|refine awp_seq_k fun K hK=>?_|refine wN fun bx=>?_|refine wC g1 ?_|refine wC g2 ?_|(refine wH ?_;clear hK))
   refine qpan must_no ?_
   repeat(first|refine wD ?_|refine awp_seq_k fun K hK=>?_|refine wN fun bx=>?_|(refine wH ?_;clear hK))
   exact⟨0,rfl,rfl⟩
 |_=>
  rw[ha]at g1
  simp only at g1
  repeat(first|refine wDB ?_|refine awp_seq_k fun K hK=>?_|refine wN fun bx=>?_|refine wC g1 ?_|(refine wH ?_;clear hK))
  refine qpan must_no ?_
  repeat(first|refine wD ?_|refine awp_seq_k fun K hK=>?_|refine wN fun bx=>?_|(refine wH ?_;clear hK))
  exact⟨0,rfl,rfl⟩
abbrev rdrB (b:Nat) (s:List UInt8):Ent:=.box b 96 (.agg [.str s])
theorem cbUntil:Callable Tryz.prog 99:=fun _ _=>by kernel_rfl
theorem until_c (b:Nat) (s:List UInt8) (hs:s.length≤1000000):ACalls Tryz.prog 99 [.ptr b 0,.str [43,45]] [rdrB b s] (fun r H'=>r=.ret (.str (s.take (untilF s)))∧H'=[rdrB b (s.drop (untilF s))]):=by
 refine acalls_of_awp tyok cbUntil Tryz.func99 rfl rfl ?_
 have g:=indexAny3_c s (by omega)
 have hlt:=indexAny_lt [43,45] s
 unfold untilF
 generalize indexAny s [43,45]=i at*
 by_cases hi:i<0
 ·rw[if_pos hi]
  repeat(first|refine wDB ?_|refine awp_seq_k fun K hK=>?_|refine wN fun bx=>?_|refine wC g ?_|(refine wH ?_;clear hK))
  refine fnQ_ret 0 rfl (.tmp rfl .nil) (Sub.refl _) ⟨rfl,rfl⟩
 ·rw[if_neg hi]
  have hlt:=hlt (by omega)
  repeat(first|refine wDB ?_|refine awp_seq_k fun K hK=>?_|refine wN fun bx=>?_|refine wC g ?_|(refine wH ?_;clear hK))
  exact fnQ_ret 0 rfl (.tmp rfl .nil) (Sub.refl _) ⟨rfl,rfl⟩
end Go.Proofs.YtamgilppehibeaaGreatDoor
namespace Go.Proofs.YtamgilppehibeaaGreatDoor
open Go.Ab Go.Lib
theorem cut_len (s sep:List UInt8):(Lib.cut s sep).1.length≤s.length∧(Lib.cut s sep).2.1.length≤s.length:=by
 unfold Lib.cut
 split
 ·simp only[List.length_take,List.length_drop]
  omega
 ·exact⟨Nat.le_refl _,Nat.zero_le _⟩
theorem splitK_len (sep:List UInt8):∀(k:Nat) (s:List UInt8),(∀x∈splitK sep 0 k s,x.length≤s.length)∧(splitK sep 0 k s).length≤k+1
 |0,s=>⟨fun x hx=>by rw[splitK]at hx;rw[List.mem_singleton.1 hx];exact Nat.le_refl _,by rw[splitK];exact Nat.le_refl _⟩
 |k+1,s=>by
  rw[splitK]
  split
  ·exact⟨fun x hx=>by rw[List.mem_singleton.1 hx];exact Nat.le_refl _,by simp⟩
  ·obtain⟨h1,h2⟩:=splitK_len sep k (s.drop ((index s sep).toNat+sep.length))
   refine⟨fun x hx=>?_,by rw[List.length_cons];omega⟩
   rcases List.mem_cons.1 hx with rfl|hx
   ·rw[List.length_take]
    omega
   ·have:=h1 x hx
    rw[List.length_drop]at this
    omega
theorem countFrom_le (sub:List UInt8):∀(f:Nat) (s:List UInt8),countFrom sub f s≤f
 |0,_=>Nat.le_refl _
 |f+1,s=>by
  rw[countFrom]
  split
  ·exact Nat.zero_le _
  ·have:=countFrom_le sub f (s.drop ((index s sub).toNat+sub.length))
   omega
theorem split_len (s:List UInt8) (c:UInt8):(∀x∈Lib.split s [c],x.length≤s.length)∧(Lib.split s [c]).length≤s.length+2:=by
 obtain⟨h1,h2⟩:=splitK_len [c] (count s [c]) s
 exact⟨h1,Nat.le_trans h2 (Nat.succ_le_succ (countFrom_le [c] (s.length+1) s))⟩
def tmH (b:Nat) (c:IntR) (m:List Pw) (a:Option Addr) (cp:Nat):AHeap:=[.box b 70 (.agg (intEs c++[sl encP 2 m (.own a cp)])),.tok a cp m.length 2 103]
theorem cbPowers:Callable Tryz.prog 100:=fun _ _=>by kernel_rfl
theorem powers_some {s:List UInt8} {w:Pw} (h:powersF s=some w) (hs:s.length≤100000) (b0 b2:Nat) (c:IntR) (m:List Pw) (a:Option Addr) (cp:Nat) (hm:m.length≤1000000):
  ACalls Tryz.prog 100 [.ptr b0 0,.ptr b2 0,.str s] (tmH b2 c m a cp) (fun r H'=>r=.ret (.tuple [])∧∃q:Option Addr×Nat,H'=tmH b2 c (m++[w]) q.1 q.2):=by
 refine acalls_of_awp tyok cbPowers Tryz.func100 rfl rfl ?_
 unfold tmH
 match s,h,hs with
 |[],h,_=>cases h
 |x::r,h,hs=>
 unfold powersF at h
 split at h
 ·rename_i hx
  have hx:x=120:=Option.some.inj hx
  subst hx
  have hrl:((120::r:List UInt8).length:Int)=(r.length:Int)+1:=by rw[List.length_cons];omega
  have hrl':r.length≤100000:=Nat.le_of_succ_le hs
  rw[show(120::r:List UInt8).drop 1=r from rfl]at h
  have gM:=must_ok
  have gC:=cut_c r [94] (by omega)
  obtain⟨k1,k2⟩:=cut_len r [94]
  generalize Lib.cut r [94]=z at*
  obtain⟨v,e,has⟩:=z
  simp only at h gC k1 k2
  cases hv:smallF v with
  |none=>rw[hv]at h;cases h
  |some va=>
   rw[hv,Option.bind_some]at h
   have g1:=small_some hv (by omega)
   cases has with
   |false=>
    simp only[Bool.false_eq_true,if_false]at h
    cases h
    ((repeat(first|refine wDB ?_|refine awp_seq_k fun K hK=>?_|refine wC gM ?_|refine wC gC ?_|refine wC g1 ?_|(refine wH ?_;clear hK)));refine wN fun b9=>?_;(repeat(first|refine wDB ?_|refine awp_seq_k fun K hK=>?_|refine wN fun bx=>?_|refine wC gM ?_|refine wC gC ?_|refine wC g1 ?_|(refine wH ?_;clear hK))))
    refine qapp tyok encP m (va,1) (SubL.refl _) ?_ fun ad cp2=>?_
    ·simp only
     omega
    repeat(first|refine wDB ?_|refine awp_seq_k fun K hK=>?_|refine wN fun bx=>?_|(refine wH ?_;clear hK))
    exact fnQ_ret 1 rfl .nil (Sub.refl _) ⟨rfl,(ad,cp2),rfl⟩
   |true=>
    simp only[if_true]at h
    cases he:smallF e with
    |none=>rw[he]at h;cases h
    |some eb=>
     rw[he]at h
     cases h
     have g2:=small_some he (by omega)
     ((repeat(first|refine wDB ?_|refine awp_seq_k fun K hK=>?_|refine wC gM ?_|refine wC gC ?_|refine wC g1 ?_|refine wC g2 ?_|(refine wH ?_;clear hK)));refine wN fun b9=>?_;(repeat(first|refine wDB ?_|refine awp_seq_k fun K hK=>?_|refine wN fun bx=>?_|refine wC gM ?_|refine wC gC ?_|refine wC g1 ?_|refine wC g2 ?_|(refine wH ?_;clear hK))))
     refine qapp tyok encP m (va,eb) (SubL.refl _) ?_ fun ad cp2=>?_
     ·simp only
      omega
     repeat(first|refine wDB ?_|refine awp_seq_k fun K hK=>?_|refine wN fun bx=>?_|(refine wH ?_;clear hK))
     exact fnQ_ret 1 rfl .nil (Sub.refl _) ⟨rfl,(ad,cp2),rfl⟩
 ·cases h
theorem powers_none {s:List UInt8} (h:powersF s=none) (hs:s.length≤100000) (b0 b2:Nat) (c:IntR) (m:List Pw) (a:Option Addr) (cp:Nat):
  ACalls Tryz.prog 100 [.ptr b0 0,.ptr b2 0,.str s] (tmH b2 c m a cp) (fun r H'=>r=.panic wrongV∧H'=[]):=by
 refine acalls_of_awp tyok cbPowers Tryz.func100 rfl rfl ?_
 unfold tmH
 match s,h,hs with
 |[],_,_=>
  repeat(first|refine wDB ?_|refine awp_seq_k fun K hK=>?_|refine wN fun bx=>?_|(refine wH ?_;clear hK))
  refine qpan must_no ?_
  repeat(first|refine wD ?_|refine awp_seq_k fun K hK=>?_|refine wN fun bx=>?_|(refine wH ?_;clear hK))
  exact⟨2,rfl,rfl⟩
 |x::r,h,hs=>
 have hrl:((x::r:List UInt8).length:Int)=(r.length:Int)+1:=by rw[List.length_cons];omega
 unfold powersF at h
 split at h
 ·rename_i hx
  have hx:x=120:=Option.some.inj hx
  subst hx
  have hrl':r.length≤100000:=Nat.le_of_succ_le hs
  rw[show(120::r:List UInt8).drop 1=r from rfl]at h
  have gM:=must_ok
  have gC:=cut_c r [94] (by omega)
  obtain⟨k1,k2⟩:=cut_len r [94]
  generalize Lib.cut r [94]=z at*
  obtain⟨v,e,has⟩:=z
  simp only at h gC k1 k2
  cases hv:smallF v with
  |none=>
   repeat(first|refine wDB ?_|refine awp_seq_k fun K hK=>?_|refine wN fun bx=>?_|refine wC gM ?_|refine wC gC ?_|(refine wH ?_;clear hK))
   refine qpan (small_none hv (by omega)) ?_
   repeat(first|refine wD ?_|refine awp_seq_k fun K hK=>?_|refine wN fun bx=>?_|(refine wH ?_;clear hK))
   exact⟨2,rfl,rfl⟩
  |some va=>
   rw[hv,Option.bind_some]at h
   have g1:=small_some hv (by omega)
   cases has with
   |false=>
    simp only[Bool.false_eq_true,if_false]at h
    cases h
   |true=>
    simp only[if_true]at h
    cases he:smallF e with
    |some eb=>rw[he]at h;cases h
    |none=>
     ((repeat(first|refine wDB ?_|refine awp_seq_k fun K hK=>?_|refine wC gM ?_|refine wC gC ?_|refine wC g1 ?_|(refine wH ?_;clear hK)));refine wN fun b9=>?_;(repeat(first|refine wDB ?_|refine awp_seq_k fun K hK=>?_|refine wN fun bx=>?_|refine wC gM ?_|refine wC gC ?_|refine wC g1 ?_|(refine wH ?_;clear hK))))
     refine qpan (small_none he (by omega)) ?_
     repeat(first|refine wD ?_|refine awp_seq_k fun K hK=>?_|refine wN fun bx=>?_|(refine wH ?_;clear hK))
     exact⟨3,rfl,rfl⟩
 ·rename_i hx
  have hx':¬(x.toNat:Int)=120:=fun e=>hx (congrArg some (UInt8.toNat_inj.1 (show x.toNat=120 by omega)))
  repeat(first|refine wDB ?_|refine awp_seq_k fun K hK=>?_|refine wN fun bx=>?_|(refine wH ?_;clear hK))
  refine qpan must_no ?_
  repeat(first|refine wD ?_|refine awp_seq_k fun K hK=>?_|refine wN fun bx=>?_|(refine wH ?_;clear hK))
  exact⟨2,rfl,rfl⟩
end Go.Proofs.YtamgilppehibeaaGreatDoor
namespace Go.Proofs.YtamgilppehibeaaGreatDoor
open Go.Ab Go.Lib
theorem hp_take1 (s:List UInt8):(trimLeftS (s.take 1) [43,45]).length≤1:=by
 have h1:(trimLeftS (s.take 1) [43,45]).length≤(s.take 1).length:=by
  unfold trimLeftS
  exact(List.dropWhile_sublist _).length_le
 rw[List.length_take]at h1
 omega
theorem cbTerm:Callable Tryz.prog 49:=fun _ _=>by kernel_rfl
theorem term_c (s:List UInt8) (h0:s≠[]) (hs:s.length≤20000) (b:Nat):ACalls Tryz.prog 49 [.ptr b 0] [rdrB b s] (fun r H'=>match termF s with
  |some x=>r=.ret (.agg (termE x.1))∧H'=[rdrB b x.2]
  |none=>r=.panic wrongV∧H'=[]):=by
 refine acalls_of_awp tyok cbTerm Tryz.func49 rfl rfl ?_
 have hpos:(s.length:Int)≥1:=by
  have:=List.length_pos_iff.2 h0
  omega
 have gH:=hasPrefix_c s [45]
 have gT:=trimLeft3_c (s.take 1)
 have gO:=of1_c 1 (by decide) (by decide)
 have htl:=hp_take1 s
 have hhl:=frontF_le s
 have hul:=untilF_le (frontF s)
 have hT:termF s=(partF true (⟨false,digs B32 1⟩,[]) (Lib.split ((frontF s).take (untilF (frontF s))) [42])).map fun x=>(⟨⟨Lib.hasPrefix s [45],x.1.mag⟩,x.2⟩,(frontF s).drop (untilF (frontF s))):=rfl
 have hhd:frontF s=trimLeftS (s.take 1) [43,45]++s.drop 1:=rfl
 have gU:=until_c b (frontF s) (by omega)
 generalize frontF s=hd at*
 generalize trimLeftS (s.take 1) [43,45]=tl at*
 generalize Lib.hasPrefix s [45]=neg at*
 subst hhd
 ((repeat(first|refine wKB ?_|refine awp_seq_k fun K hK=>?_|refine wC gH ?_|(refine wH ?_;clear hK)));refine wN fun b2=>?_;(repeat(first|refine wKB ?_|refine awp_seq_k fun K hK=>?_|refine wN fun bx=>?_|refine wC gH ?_|(refine wH ?_;clear hK))))
 refine areg_soft mixed tyok [6] [(15,[96])] [0,1,2,3,4,5,7,8,9,10,11,6,12,13,14,15] (by decide +kernel) ?_
 repeat(first|refine wDB ?_|refine awp_seq_k fun K hK=>?_|refine wN fun bx=>?_|refine wC gT ?_|refine wC gO ?_|(refine wH ?_;clear hK))
 refine qcallH (G:=[_]) gU ?_
 generalize tl++s.drop 1=hd at*
 have hcl:(hd.take (untilF hd)).length≤20000:=by rw[List.length_take];omega
 have gS:=split_c (hd.take (untilF hd)) 42 (by omega)
 obtain⟨p1,p2⟩:=split_len (hd.take (untilF hd)) 42
 generalize hd.take (untilF hd)=chunk at*
 generalize hd.drop (untilF hd)=rest at*
 generalize Lib.split chunk [42]=parts at*
 repeat(first|refine wDB ?_|refine awp_seq_k fun K hK=>?_|refine wN fun bx=>?_|refine wC gS ?_|(refine wH ?_;clear hK))
 refine awp_boxSub [] (v':=.agg (intEs (intC 1)++[sl encP 2 [] (.own none 0)])) (subAgg (.cons (Sub.refl _) (.cons (Sub.refl _) (.cons (Sub.nilso _ _) .nil)))) ?_
 refine awp_tok0 2 103 ?_
 refine awp_loopP (ι:={y:Nat×(IntR×List Pw)×Option Addr×Nat//y.1≤parts.length∧y.2.1.2.length≤y.1∧partF (decide (y.1=0)) y.2.1 (parts.drop y.1)=partF true (⟨false,digs B32 1⟩,[]) parts})
  (fun y=>[(0,.ptr b 0),(2,.ptr b2 0),(3,.bool neg),(32,sl txtE 1 parts .view),(33,.int .i64 parts.length),(34,.int .i64 y.1.1)])
  (fun y=>[rdrB b rest,.box b2 70 (.agg (intEs y.1.2.1.1++[sl encP 2 y.1.2.1.2 (.own y.1.2.2.1 y.1.2.2.2)])),.tok y.1.2.2.1 y.1.2.2.2 y.1.2.1.2.length 2 103]) (fun y=>parts.length-y.1.1)
  ⟨(0,(intC 1,[]),none,0),Nat.zero_le _,Nat.le_refl _,rfl⟩ wk qpm ?_
 rintro⟨⟨i,⟨c,m⟩,a,cp⟩,hi,hml,hp⟩
 simp only at hi hml hp ⊢
 by_cases hlt:i<parts.length
 rotate_left
 ·have hge:¬(i:Int)<parts.length:=by omega
  obtain rfl:i=parts.length:=by omega
  rw[List.drop_length,partF]at hp
  rw[←hp]at hT
  refine awp_permS (List.perm_append_comm (l₁:=[_]) (l₂:=[_,_])) ?_
  repeat(first|refine wDB ?_|refine awp_seq_k fun K hK=>?_|refine wN fun bx=>?_|(refine wH ?_;clear hK))
  refine fnQ_ret 2 rfl (.cell rfl rfl (List.Mem.head _) rfl trivial .nil) (subAgg (.cons (Sub.refl _) (.cons (Sub.refl _) (.cons (Sub.view _ _ _ _) .nil)))) ?_
  rw[hT]
  exact⟨rfl,rfl⟩
 have hlt':(i:Int)<parts.length:=by omega
 have hx:parts.getD i default∈parts:=getD_mem hlt
 have hxl:=p1 _ hx
 have hdr:parts.drop i=parts.getD i default::parts.drop (i+1):=by
  rw[List.drop_eq_getElem_cons hlt,List.getD_eq_getElem?_getD,List.getElem?_eq_getElem hlt]
  rfl
 rw[hdr,partF]at hp
 have gP:=hasPrefix_c (parts.getD i default) [120]
 have gM:=must_ok
 by_cases hb:decide (i=0)=false∨Lib.hasPrefix (parts.getD i default) [120]=true
 ·rw[if_pos hb]at hp
  cases hw:powersF (parts.getD i default)with
  |none=>
   rw[hw]at hp
   rw[←hp]at hT
   have gW:=powers_none hw (by omega) b b2 c m a cp
   unfold tmH at gW
   by_cases hi0:(i:Int)>0
   ·repeat(first|refine wDB ?_|refine awp_seq_k fun K hK=>?_|refine wN fun bx=>?_|(refine wH ?_;clear hK))
    refine qpanH (G:=[_]) gW ?_
    repeat(first|refine wD ?_|refine awp_seq_k fun K hK=>?_|refine wN fun bx=>?_|(refine wH ?_;clear hK))
    refine⟨1,?_⟩
    rw[hT]
    exact⟨rfl,rfl⟩
   ·rw[hb.resolve_left (by rw[decide_eq_true (by omega)];decide)]at gP
    repeat(first|refine wDB ?_|refine awp_seq_k fun K hK=>?_|refine wN fun bx=>?_|refine wC gP ?_|(refine wH ?_;clear hK))
    refine qpanH (G:=[_]) gW ?_
    repeat(first|refine wD ?_|refine awp_seq_k fun K hK=>?_|refine wN fun bx=>?_|(refine wH ?_;clear hK))
    refine⟨1,?_⟩
    rw[hT]
    exact⟨rfl,rfl⟩
  |some w=>
   rw[hw,Option.bind_some]at hp
   have gW:=powers_some hw (by omega) b b2 c m a cp (by omega)
   unfold tmH at gW
   by_cases hi0:(i:Int)>0
   ·repeat(first|refine wDB ?_|refine awp_seq_k fun K hK=>?_|refine wN fun bx=>?_|(refine wH ?_;clear hK))
    refine qcallX (G:=[rdrB b rest]) (H2:=fun q=>[rdrB b rest,.box b2 70 (.agg (intEs c++[sl encP 2 (m++[w]) (.own q.1 q.2)])),.tok q.1 q.2 (m++[w]).length 2 103]) gW ?_
    rintro⟨a2,c2⟩
    repeat(first|refine wDB ?_|refine awp_seq_k fun K hK=>?_|refine wN fun bx=>?_|(refine wH ?_;clear hK))
    exact⟨⟨(i+1,(c,m++[w]),a2,c2),hlt,by rw[List.length_append];exact Nat.succ_le_succ hml,by rw[←hp];rfl⟩,wk,qpm,by simp only;omega⟩
   ·rw[hb.resolve_left (by rw[decide_eq_true (by omega)];decide)]at gP
    repeat(first|refine wDB ?_|refine awp_seq_k fun K hK=>?_|refine wN fun bx=>?_|refine wC gP ?_|(refine wH ?_;clear hK))
    refine qcallX (G:=[rdrB b rest]) (H2:=fun q=>[rdrB b rest,.box b2 70 (.agg (intEs c++[sl encP 2 (m++[w]) (.own q.1 q.2)])),.tok q.1 q.2 (m++[w]).length 2 103]) gW ?_
    rintro⟨a2,c2⟩
    repeat(first|refine wDB ?_|refine awp_seq_k fun K hK=>?_|refine wN fun bx=>?_|(refine wH ?_;clear hK))
    exact⟨⟨(i+1,(c,m++[w]),a2,c2),hlt,by rw[List.length_append];exact Nat.succ_le_succ hml,by rw[←hp];rfl⟩,wk,qpm,by simp only;omega⟩
 ·rw[if_neg hb]at hp
  have hi0:i=0:=by
   by_cases e:i=0
   ·exact e
   ·exact absurd (.inl (decide_eq_false e)) hb
  have hpf:Lib.hasPrefix (parts.getD i default) [120]=false:=by
   rw[Bool.eq_false_iff]
   exact fun e=>hb (.inr e)
  rw[hpf]at gP
  have hgt:¬(i:Int)>0:=by omega
  have gD:=dparse_c (parts.getD i default) (by omega)
  cases hd:parseD (parts.getD i default)with
  |none=>
   rw[hd]at hp gD
   rw[←hp]at hT
   simp only[outR]at gD
   ((repeat(first|refine wDB ?_|refine awp_seq_k fun K hK=>?_|refine wC gP ?_|refine wC gD ?_|(refine wH ?_;clear hK)));refine wN fun b6=>?_;(repeat(first|refine wDB ?_|refine awp_seq_k fun K hK=>?_|refine wN fun bx=>?_|refine wC gP ?_|refine wC gD ?_|(refine wH ?_;clear hK))))
   refine qpan must_no ?_
   repeat(first|refine wD ?_|refine awp_seq_k fun K hK=>?_|refine wN fun bx=>?_|(refine wH ?_;clear hK))
   refine⟨4,?_⟩
   rw[hT]
   exact⟨rfl,rfl⟩
  |some y=>
   rw[hd,Option.bind_some]at hp
   rw[hd]at gD
   simp only[outR]at gD
   ((repeat(first|refine wDB ?_|refine awp_seq_k fun K hK=>?_|refine wC gP ?_|refine wC gD ?_|refine wC gM ?_|(refine wH ?_;clear hK)));refine wN fun b6=>?_;(repeat(first|refine wDB ?_|refine awp_seq_k fun K hK=>?_|refine wN fun bx=>?_|refine wC gP ?_|refine wC gD ?_|refine wC gM ?_|(refine wH ?_;clear hK))))
   exact⟨⟨(i+1,(⟨y.1,digs B32 y.2⟩,m),a,cp),hlt,Nat.le_succ_of_le hml,by rw[←hp];rfl⟩,wk,qpm,by simp only;omega⟩
end Go.Proofs.YtamgilppehibeaaGreatDoor
