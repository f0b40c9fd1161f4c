/-
  The lexer's tests of letters.
-/
import Derived.Test.YtlnhgdiklfaeeaaDoorLb
import Derived.Test.YtlnhgdiklfaeeaaDoorRn
namespace Go.Proofs.YtlnhgdiklfaeeaaDoor
open Go.Ab
def smallR (r:Int):Bool:=decide (r≥97)&&decide (r≤122)
def namedR (r:Int):Bool:=smallR r || (decide (r≥65)&&decide (r≤90)) || (decide (r≥48)&&decide (r≤57))
theorem cbSmall:Callable Tryd.prog 27:=fun _ _=>by kernel_rfl
theorem small_c (r:Int):PCalls Tryd.prog 27 [.int .i32 r] (.bool (smallR r)):=by
 refine pcalls_of_awp tyok cbSmall Tryd.func27 rfl rfl ?_
 repeat(first|refine wD ?_|refine awp_seq_k fun K hK=>?_|refine wN fun bx=>?_|(refine wH ?_;clear hK))
 refine r1 ?_
 exact Sub.refl _
theorem cbNamed:Callable Tryd.prog 29:=fun _ _=>by kernel_rfl
theorem named_c (r:Int):PCalls Tryd.prog 29 [.int .i32 r] (.bool (namedR r)):=by
 refine pcalls_of_awp tyok cbNamed Tryd.func29 rfl rfl ?_
 repeat(first|refine wD ?_|refine awp_seq_k fun K hK=>?_|refine wN fun bx=>?_|refine qpc rfl rfl rfl (small_c _) ?_|refine qpo rfl rfl rfl rfl rfl rfl (fun _=>small_c _) ?_|(refine wH ?_;clear hK))
 refine r1 ?_
 exact Sub.refl _
def allF (isR:Int→Bool) (s:List UInt8) (least most:Int):Bool:=s.all (fun b=>isR b.toNat)&&(decide ((s.length:Int)≥least)&&decide ((s.length:Int)≤most))
theorem all_false {isR:Int→Bool} {s:List UInt8} {i:Nat} (h:i<s.length) (hb:isR (s.getD i 0).toNat=false) (a b:Int):allF isR s a b=false:=by
 have:s.all (fun b=>isR b.toNat)=false:=by
  rw[List.all_eq_false]
  refine⟨s[i],by simp,?_⟩
  simpa [List.getD,h]using hb
 simp[allF,this]
theorem cbAll:Callable Tryd.prog 26:=fun _ _=>by kernel_rfl
theorem all_c (isR:Int→Bool) (g:FuncId) (hg:∀r:Int,PCalls Tryd.prog g [.int .i32 r] (.bool (isR r))) (hh:∀r:Int,128≤r→isR r=false) (s:List UInt8) (_hs:s.length≤1000000000) (least most:Int):
  PCalls Tryd.prog 26 [.str s,.int .i64 least,.int .i64 most,.func (.func g) [] []] (.bool (allF isR s least most)):=by
 refine pcalls_of_awp tyok cbAll Tryd.func26 rfl rfl ?_
 repeat(first|refine wD ?_|refine awp_seq_k fun K hK=>?_|refine wN fun bx=>?_|(refine wH ?_;clear hK))
 refine TR.range tyok (fun b=>?_)
 repeat(first|refine wD ?_|refine awp_seq_k fun K hK=>?_|refine wN fun bx=>?_|(refine wH ?_;clear hK))
 refine awp_loop0 (ι:={i:Nat//i≤s.length∧∀j,j<i→isR (s.getD j 0).toNat=true})
  (fun _=>[(0,.str s),(1,.int .i64 least),(2,.int .i64 most),(3,.func (.func g) [] []),(12,.ptr b 0)]) (fun i=>[.obj b (.stringIter ⟨s.toArray⟩ i.1)]) (fun i=>s.length-i.1) ⟨0,Nat.zero_le _,fun j hj=>absurd hj (by omega)⟩ ?_ dp ?_
 ·exact wk
 rintro⟨i,hi,hok⟩
 simp only at hi hok ⊢
 repeat(first|refine wD ?_|refine awp_seq_k fun K hK=>?_|refine wN fun bx=>?_|(refine wH ?_;clear hK))
 refine TR.next (List.Perm.refl _) ?_
 by_cases hlt:i<s.length
 ·by_cases ha:(s.getD i 0).toNat<128
  ·obtain⟨e1,e2⟩:=nextV_ascii hlt ha
   rw[e1,e2]
   cases hc:isR (s.getD i 0).toNat
   ·have g1:=hg (s.getD i 0).toNat
    rw[hc]at g1
    repeat(first|refine wD ?_|refine awp_seq_k fun K hK=>?_|refine wN fun bx=>?_|refine qpc rfl rfl rfl (g1) ?_|refine qpo rfl rfl rfl rfl rfl rfl (fun _=>g1) ?_|(refine wH ?_;clear hK))
    refine r1 ?_
    exact Sub.of_eq (by rw[all_false hlt hc])
   ·have g1:=hg (s.getD i 0).toNat
    rw[hc]at g1
    repeat(first|refine wD ?_|refine awp_seq_k fun K hK=>?_|refine wN fun bx=>?_|refine qpc rfl rfl rfl (g1) ?_|refine qpo rfl rfl rfl rfl rfl rfl (fun _=>g1) ?_|(refine wH ?_;clear hK))
    refine⟨⟨i+1,hlt,fun j hj=>?_⟩,?_,dp,?_⟩
    ·by_cases e:j=i
     ·rw[e];exact hc
     ·exact hok j (by omega)
    ·exact wk
    ·simp only;omega
  ·obtain⟨c,k,hc,e1,e2⟩:=nextV_high hlt (by omega)
   rw[e1,e2]
   have g1:=hg c
   rw[hh c (by omega)]at g1
   repeat(first|refine wD ?_|refine awp_seq_k fun K hK=>?_|refine wN fun bx=>?_|refine qpc rfl rfl rfl (g1) ?_|refine qpo rfl rfl rfl rfl rfl rfl (fun _=>g1) ?_|(refine wH ?_;clear hK))
   refine r1 ?_
   exact Sub.of_eq (by rw[all_false hlt (hh _ (by omega))])
 ·obtain⟨e1,e2⟩:=nextV_end hlt
  rw[e1,e2]
  repeat(first|refine wD ?_|refine awp_seq_k fun K hK=>?_|refine wN fun bx=>?_|(refine wH ?_;clear hK))
  refine r1 ?_
  refine Sub.of_eq ?_
  have:s.all (fun b=>isR b.toNat)=true:=by
   rw[List.all_eq_true]
   intro b hb
   obtain⟨j,hj,rfl⟩:=List.getElem_of_mem hb
   have:=hok j (by omega)
   simpa [List.getD,hj]using this
  simp[allF,this]
end Go.Proofs.YtlnhgdiklfaeeaaDoor
