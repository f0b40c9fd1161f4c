/-
  The document's figures (porismref21): the number of a letter, pairs that must be unlike.
-/
import Derived.Test.YtcbdfmmiigpddaaDoorTc
set_option maxRecDepth 100000
set_option maxHeartbeats 3200000
namespace Go.Proofs.YtcbdfmmiigpddaaDoor
open Go.Ab
theorem cbNum22:Callable Tryd.prog 32:=fun _ _=>by kernel_rfl
theorem num22_c (c:UInt8):PCalls Tryd.prog 32 [.int .u8 c.toNat,.int .i64 0] (.int .i64 (numR c)):=by
 refine pcalls_of_awp tyok cbNum22 Tryd.func32 rfl rfl ?_
 have hc:=c.toNat_lt
 by_cases h:c.toNat=80
 ·have h':(c.toNat:Int)=80:=by omega
  repeat(first|refine wDB ?_|refine awp_seq_k fun K hK=>?_|refine wN fun bx=>?_|(refine wH ?_;clear hK))
  refine r1 ?_
  exact Sub.of_eq (by unfold numR;rw[if_pos h])
 ·have h':¬(c.toNat:Int)=80:=by omega
  have e2:IntKind.i64.wrap (c.toNat:Int)=c.toNat:=wrap_inK (by simp only[inK];omega)
  repeat(first|refine wDB ?_|refine awp_seq_k fun K hK=>?_|refine wN fun bx=>?_|(refine wH ?_;clear hK))
  refine r1 ?_
  exact Sub.of_eq (by unfold numR;rw[if_neg h,e2,Int.add_zero])
theorem unlR_two {u:List UInt8} {i:Nat} (h:i+1<u.length):unlR (u.drop i)=(numR (u.getD i 0),numR (u.getD (i+1) 0))::unlR (u.drop (i+3)):=by
 have e1:u.getD i 0=u[i]'(by omega):=by simp[List.getD,show i<u.length by omega]
 have e2:u.getD (i+1) 0=u[i+1]'h:=by simp[List.getD,h]
 rw[e1,e2,List.drop_eq_getElem_cons (show i<u.length by omega),List.drop_eq_getElem_cons h]
 by_cases h2:i+2<u.length
 ·rw[List.drop_eq_getElem_cons h2]
  rfl
 ·rw[List.drop_of_length_le (show u.length≤i+1+1 by omega),List.drop_of_length_le (show u.length≤i+3 by omega)]
  rfl
theorem unlR_end {u:List UInt8} {i:Nat} (h:¬i+1<u.length):unlR (u.drop i)=[]:=by
 have hl:(u.drop i).length≤1:=by rw[List.length_drop];omega
 match hd:u.drop i,hl with
 |[],_=>rfl
 |[_],_=>rfl
 |_::_::_,hl=>simp at hl
theorem unlR_len:∀u:List UInt8,(unlR u).length≤u.length
 |a::b::c::l=>by
  have:=unlR_len l
  simp only[unlR,List.length_cons]
  omega
 |[a,b]=>by simp[unlR]
 |[a]=>by simp[unlR]
 |[]=>by simp[unlR]
theorem cbUnl22:Callable Tryd.prog 21:=fun _ _=>by kernel_rfl
theorem unl22_c (u:List UInt8) (hu:u.length≤1000000):PCalls Tryd.prog 21 [.str u] (sl pairE 2 (unlR u) .view):=by
 refine pcalls_of_awp tyok cbUnl22 Tryd.func21 rfl rfl ?_
 repeat(first|refine wD ?_|refine awp_seq_k fun K hK=>?_|refine wN fun bx=>?_|(refine wH ?_;clear hK))
 refine awp_tok0 2 55 ?_
 refine awp_loop0 (ι:={y:Nat×List (Int×Int)×Option Addr×Nat//y.1≤u.length+2∧y.2.1++unlR (u.drop y.1)=unlR u}) (fun y=>[(0,.str u),(3,sl pairE 2 y.1.2.1 (.own y.1.2.2.1 y.1.2.2.2)),(4,.int .i64 y.1.1)])
  (fun y=>[.tok y.1.2.2.1 y.1.2.2.2 y.1.2.1.length 2 55]) (fun y=>u.length+2-y.1.1) ⟨(0,[],none,0),Nat.zero_le _,rfl⟩ wk ⟨0,rfl⟩ ?_
 rintro⟨⟨i,out,a,cap⟩,hi,ho⟩
 simp only at hi ho ⊢
 have hol:out.length≤1000000:=by
  have:=unlR_len u
  have h2:=congrArg List.length ho
  rw[List.length_append]at h2
  omega
 by_cases hlt:i+1<u.length
 ·have hlt':(i:Int)+1<u.length:=by omega
  have g1:=num22_c (u.getD i 0)
  have g2:=num22_c (u.getD ((i:Int)+1).toNat 0)
  have e3:((i:Int)+1).toNat=i+1:=by omega
  rw[unlR_two hlt]at ho
  repeat(first|refine wKB ?_|refine awp_seq_k fun K hK=>?_|refine wN fun bx=>?_|(refine wH ?_;clear hK))
  refine areg_kept mixed tyok [] [0,1,2,3,5,6,7,8,4,9,10,11,12,13] (by decide +kernel) ?_
  repeat(first|refine wDB ?_|refine awp_seq_k fun K hK=>?_|refine wN fun bx=>?_|refine qpc rfl rfl rfl (g1) ?_|refine qpc rfl rfl rfl (g2) ?_|refine qpo rfl rfl rfl rfl rfl rfl (fun _=>g1) ?_|refine qpo rfl rfl rfl rfl rfl rfl (fun _=>g2) ?_|(refine wH ?_;clear hK))
  refine qarr2 tyok ?_
  repeat(first|refine wDB ?_|refine awp_seq_k fun K hK=>?_|refine wN fun bx=>?_|(refine wH ?_;clear hK))
  refine qapp tyok pairE out (numR (u.getD i 0),numR (u.getD (i+1) 0)) ?_ ?_ fun ad cp=>?_
  ·show SubL [.int .i64 (numR (u.getD i 0)),.int .i64 (numR (u.getD ((i:Int)+1).toNat 0))] _
   rw[e3]
   exact SubL.refl _
  ·simp only
   omega
  repeat(first|refine wDB ?_|refine awp_seq_k fun K hK=>?_|refine wN fun bx=>?_|(refine wH ?_;clear hK))
  exact⟨⟨(i+3,_,ad,cp),by simp only;omega,by simpa using ho⟩,wk,⟨0,rfl⟩,by simp only;omega⟩
 ·have hlt':¬(i:Int)+1<u.length:=by omega
  rw[unlR_end hlt,List.append_nil]at ho
  repeat(first|refine wDB ?_|refine awp_seq_k fun K hK=>?_|refine wN fun bx=>?_|(refine wH ?_;clear hK))
  refine r1 ?_
  rw[←ho]
  exact Sub.view _ _ _ _
end Go.Proofs.YtcbdfmmiigpddaaDoor
