/-
  Whether statements are more than is looked at (porismref22.Great).
-/
import Derived.Test.YthfglhjdnpoepaaGreatDoorTy
import Derived.Test.YthfglhjdnpoepaaGreatDoorSi
import Derived.Test.YthfglhjdnpoepaaGreatDoorAbC
set_option maxRecDepth 100000
set_option maxHeartbeats 3200000
namespace Go.Proofs.YthfglhjdnpoepaaGreatDoor
open Go.Ab
def grT (n:Int) (t:TokI):Int:=IntKind.i64.wrap (n+(t.w.length:Int)/8)
def grS (n:Int) (x:StI):Int:=x.args.foldl grT (IntKind.i64.wrap (IntKind.i64.wrap (n+1)+x.args.length))
def grL (l:List StI):Int:=l.foldl grS 0
theorem foldl_take {α β:Type} [Inhabited α] (f:β→α→β) (b:β) {l:List α} {i:Nat} (h:i<l.length):(l.take (i+1)).foldl f b=f ((l.take i).foldl f b) (l.getD i default):=by
 rw[List.take_succ_eq_append_getElem h,List.foldl_append,show l.getD i default=l[i] by simp[List.getD,h]]
 rfl
theorem getD_in {α:Type} [Inhabited α] {l:List α} {i:Nat} (h:i<l.length):l.getD i default∈l:=by
 rw[List.getD_eq_getElem?_getD,List.getElem?_eq_getElem h]
 exact List.getElem_mem h
theorem cbGrt:Callable Tryz.prog 26:=fun _ _=>by kernel_rfl
theorem great_c (l:List StI) (hl:l.length≤1000000000000000) (hA:∀x∈l,x.args.length≤1000000000000000) (hT:∀x∈l,∀t∈x.args,t.w.length≤1000000000000000):PCalls Tryz.prog 26 [stmtsI l] (.bool (decide (grL l>1000))):=by
 refine pcalls_of_awp tyok cbGrt Tryz.func26 rfl rfl ?_
 repeat(first|refine wD ?_|refine awp_seq_k fun K hK=>?_|refine wN fun bx=>?_|(refine wH ?_;clear hK))
 refine awp_loop0 (ι:={i:Nat//i≤l.length}) (fun i=>[(0,stmtsI l),(3,.int .i64 ((l.take i.1).foldl grS 0)),(4,.int .i64 i.1)]) (fun _=>[]) (fun i=>l.length-i.1) ⟨0,Nat.zero_le _⟩ wk dp ?_
 rintro⟨i,hi⟩
 simp only at hi ⊢
 by_cases hlt:i<l.length
 ·have hlt':(i:Int)<l.length:=by omega
  have hst:=foldl_take grS 0 hlt
  have hm:=getD_in hlt
  have hx:=hA _ hm
  have hgt:l.getD ((i:Int)).toNat default=l.getD i default:=rfl
  repeat(first|refine wDB ?_|refine awp_seq_k fun K hK=>?_|refine wN fun bx=>?_|(refine wH ?_;clear hK))
  refine qaddw ?_
  repeat(first|refine wDB ?_|refine awp_seq_k fun K hK=>?_|refine wN fun bx=>?_|(refine wH ?_;clear hK))
  refine qaddw ?_
  repeat(first|refine wDB ?_|refine awp_seq_k fun K hK=>?_|refine wN fun bx=>?_|(refine wH ?_;clear hK))
  refine awp_loop0 (ι:={k:Nat//k≤(l.getD i default).args.length})
   (fun k=>[(0,stmtsI l),(3,.int .i64 (((l.getD i default).args.take k.1).foldl grT (IntKind.i64.wrap (IntKind.i64.wrap ((l.take i).foldl grS 0+1)+(l.getD i default).args.length)))),(4,.int .i64 i),(5,.int .i64 k.1)])
   (fun _=>[]) (fun k=>(l.getD i default).args.length-k.1) ⟨0,Nat.zero_le _⟩ wk dp ?_
  rintro⟨k,hk⟩
  simp only at hk ⊢
  by_cases hkl:k<(l.getD i default).args.length
  ·have hkl':(k:Int)<(l.getD i default).args.length:=by omega
   have hw:=hT _ hm _ (getD_in hkl)
   have hk2:(k:Int)<(l.getD ((i:Int)).toNat default).args.length:=hkl'
   have hw':((l.getD ((i:Int)).toNat default).args.getD ((k:Int)).toNat default).w.length≤1000000000000000:=hw
   have hkt:=foldl_take grT (IntKind.i64.wrap (IntKind.i64.wrap ((l.take i).foldl grS 0+1)+(l.getD i default).args.length)) hkl
   repeat(first|refine wDB ?_|refine awp_seq_k fun K hK=>?_|refine wN fun bx=>?_|(refine wH ?_;clear hK))
   refine qaddw ?_
   repeat(first|refine wDB ?_|refine awp_seq_k fun K hK=>?_|refine wN fun bx=>?_|(refine wH ?_;clear hK))
   refine⟨⟨k+1,hkl⟩,⟨⟨_,rfl,Sub.refl _⟩,⟨_,rfl,Sub.of_eq (congrArg _ hkt.symm)⟩,wk⟩,dp,by simp only;omega⟩
  ·have hkg:¬(k:Int)<(l.getD i default).args.length:=by omega
   obtain rfl:k=(l.getD i default).args.length:=by omega
   rw[List.take_length]
   repeat(first|refine wDB ?_|refine awp_seq_k fun K hK=>?_|refine wN fun bx=>?_|(refine wH ?_;clear hK))
   refine⟨⟨i+1,hlt⟩,⟨⟨_,rfl,Sub.refl _⟩,⟨_,rfl,Sub.of_eq (congrArg _ hst.symm)⟩,wk⟩,dp,by simp only;omega⟩
 ·have hge:¬(i:Int)<l.length:=by omega
  obtain rfl:i=l.length:=by omega
  rw[List.take_length]
  repeat(first|refine wDB ?_|refine awp_seq_k fun K hK=>?_|refine wN fun bx=>?_|(refine wH ?_;clear hK))
  refine r1 ?_
  exact Sub.refl _
end Go.Proofs.YthfglhjdnpoepaaGreatDoor
