/-
  Layer 24 (sense): whether all values are 0; where a script's point is.
-/
import Derived.Test.YthfglhjdnpoepaaGreatDoorSy0
import Derived.Test.YthfglhjdnpoepaaGreatDoorShM
set_option maxRecDepth 100000
set_option maxHeartbeats 1600000
namespace Go.Proofs.YthfglhjdnpoepaaGreatDoor
open Go.Ab
theorem cbIxQ:Callable Tryz.prog 121:=fun _ _=>by kernel_rfl
theorem indexQ_c (xs:List Rat) (f:FuncId) (p:Rat→Bool) (hl:xs.length≤1000000000) (hp:∀j,j<xs.length→PCalls Tryz.prog f [.agg (ratEs (ratC (xs.getD j default)))] (.bool (p (xs.getD j default)))):
  PCalls Tryz.prog 121 [ratL xs,.func (.func f) [] []] (.int .i64 (idxP p xs)):=by
 refine pcalls_of_awp tyok cbIxQ Tryz.func121 rfl rfl ?_
 unfold ratL
 repeat(first|refine wD ?_|refine awp_seq_k fun K hK=>?_|refine wN fun bx=>?_|(refine wH ?_;clear hK))
 refine awp_loop0 (ι:={i:Nat//i≤xs.length∧∀j,j<i→p (xs.getD j default)=false})
  (fun i=>[(0,ratL xs),(1,.func (.func f) [] []),(7,.int .i64 xs.length),(8,.int .i64 i.1)]) (fun _=>[]) (fun i=>xs.length-i.1) ⟨0,Nat.zero_le _,fun j hj=>absurd hj (by omega)⟩ wk dp ?_
 rintro⟨i,hi,hn⟩
 simp only at hi hn ⊢
 unfold ratL
 by_cases hlt:i<xs.length
 ·have hlt':(i:Int)<xs.length:=by omega
  have g:PCalls Tryz.prog f ([]++[.agg (ratEs (ratC (xs.getD ((i:Int)).toNat default)))]++[]) (.bool (p (xs.getD i default))):=hp i hlt
  repeat(first|refine wDB ?_|refine awp_seq_k fun K hK=>?_|refine wN fun bx=>?_|refine qpc rfl rfl rfl (g) ?_|refine qpo rfl rfl rfl rfl rfl rfl (fun _=>g) ?_|(refine wH ?_;clear hK))
  cases hb:p (xs.getD i default)with
  |true=>
   repeat(first|refine wD ?_|refine awp_seq_k fun K hK=>?_|refine wN fun bx=>?_|(refine wH ?_;clear hK))
   refine r1 ?_
   exact Sub.of_eq (by rw[idxP_hit p xs i hlt hb hn])
  |false=>
   repeat(first|refine wD ?_|refine awp_seq_k fun K hK=>?_|refine wN fun bx=>?_|(refine wH ?_;clear hK))
   refine⟨⟨i+1,hlt,fun j hj=>?_⟩,wk,dp,?_⟩
   ·by_cases e:j=i
    ·rw[e];exact hb
    ·exact hn j (by omega)
   ·simp only;omega
 ·have hge:¬(i:Int)<xs.length:=by omega
  repeat(first|refine wDB ?_|refine awp_seq_k fun K hK=>?_|refine wN fun bx=>?_|(refine wH ?_;clear hK))
  refine r1 ?_
  exact Sub.of_eq (by rw[idxP_miss p xs fun j hj=>hn j (by omega)])
theorem cbCtQ:Callable Tryz.prog 93:=fun _ _=>by kernel_rfl
theorem containsQ_c (xs:List Rat) (f:FuncId) (p:Rat→Bool) (hl:xs.length≤1000000000) (hp:∀j,j<xs.length→PCalls Tryz.prog f [.agg (ratEs (ratC (xs.getD j default)))] (.bool (p (xs.getD j default)))):
  PCalls Tryz.prog 93 [ratL xs,.func (.func f) [] []] (.bool (xs.any p)):=by
 refine pcalls_of_awp tyok cbCtQ Tryz.func93 rfl rfl ?_
 have g:=indexQ_c xs f p hl hp
 repeat(first|refine wD ?_|refine awp_seq_k fun K hK=>?_|refine wN fun bx=>?_|refine qpc rfl rfl rfl (g) ?_|refine qpo rfl rfl rfl rfl rfl rfl (fun _=>g) ?_|(refine wH ?_;clear hK))
 refine r1 ?_
 exact Sub.of_eq (congrArg AV.bool (idxP_any p xs))
theorem cbNgt1:Callable Tryz.prog 94:=fun _ _=>by kernel_rfl
theorem nought1_c (q:Rat) (h:QOk 10000000 q):PCalls Tryz.prog 94 [.agg (ratEs (ratC q))] (.bool (!decide (q=0))):=by
 refine pcalls_of_awp tyok cbNgt1 Tryz.func94 rfl rfl ?_
 have g:=ratSign_c (ratC q) (ratC_ok h)
 rw[ratC_q]at g
 ((repeat(first|refine wD ?_|refine awp_seq_k fun K hK=>?_|refine qpc rfl rfl rfl (g) ?_|refine qpo rfl rfl rfl rfl rfl rfl (fun _=>g) ?_|(refine wH ?_;clear hK)));refine wN fun b1=>?_;(repeat(first|refine wD ?_|refine awp_seq_k fun K hK=>?_|refine wN fun bx=>?_|refine qpc rfl rfl rfl (g) ?_|refine qpo rfl rfl rfl rfl rfl rfl (fun _=>g) ?_|(refine wH ?_;clear hK))))
 refine r1 ?_
 refine Sub.of_eq (congrArg AV.bool ?_)
 by_cases hz:q=0
 ·have hs:=(signQ_zero q).2 hz
  rw[hs,decide_eq_true hz]
  rfl
 ·have hs:¬signQ q=0:=fun e=>hz ((signQ_zero q).1 e)
  simp[hz,hs]
theorem cbNgt:Callable Tryz.prog 61:=fun _ _=>by kernel_rfl
theorem nought_c (l:List Rat) (hl:l.length≤1000000000) (h:∀q∈l,QOk 10000000 q):PCalls Tryz.prog 61 [ratL l] (.bool (l.all fun q=>decide (q=0))):=by
 refine pcalls_of_awp tyok cbNgt Tryz.func61 rfl rfl ?_
 have g:=containsQ_c l 94 (fun q=> !decide (q=0)) hl fun j hj=>nought1_c _ (h _ (getD_mem hj))
 repeat(first|refine wD ?_|refine awp_seq_k fun K hK=>?_|refine wN fun bx=>?_|refine qpc rfl rfl rfl (g) ?_|refine qpo rfl rfl rfl rfl rfl rfl (fun _=>g) ?_|(refine wH ?_;clear hK))
 refine r1 ?_
 refine Sub.of_eq (congrArg AV.bool ?_)
 induction l with
 |nil=>rfl
 |cons q l ih=>
  rw[List.any_cons,List.all_cons,Bool.not_or,Bool.not_not,ih (by rw[List.length_cons]at hl;omega) (fun x hx=>h x (List.mem_cons_of_mem _ hx)) (containsQ_c l 94 (fun q=> !decide (q=0)) (by rw[List.length_cons]at hl;omega) fun j hj=>nought1_c _ (h _ (List.mem_cons_of_mem _ (getD_mem hj))))]
theorem cbSpt:Callable Tryz.prog 60:=fun _ _=>by kernel_rfl
theorem spot_c (ns:List (List UInt8)) (l:List SpotR) (t:TokI) (hn:ns.length≤1000000000) (hl:l.length=ns.length) (h:t.w∈ns):
  PCalls Tryz.prog 60 [.agg (tokEI t),.rptr [spots l],.rptr [sl txtE 1 ns .view]] (.agg (spE (whP ns l t.w))):=by
 refine pcalls_of_awp tyok cbSpt Tryz.func60 rfl rfl ?_
 have g:=index_c ns t.w hn
 have b:=idxL_mem h
 repeat(first|refine wDB ?_|refine awp_seq_k fun K hK=>?_|refine wN fun bx=>?_|refine qpc rfl rfl rfl (g) ?_|refine qpo rfl rfl rfl rfl rfl rfl (fun _=>g) ?_|(refine wH ?_;clear hK))
 refine rcA ?_
 exact Sub.of_eq rfl
end Go.Proofs.YthfglhjdnpoepaaGreatDoor
