/-
  The document's answer for layer 24: Condition.
-/
import Derived.Test.YthfglhjdnpoepaaGreatDoorSr1
import Derived.Test.YthfglhjdnpoepaaGreatDoorSe4
set_option maxRecDepth 100000
set_option maxHeartbeats 12800000
namespace Go.Proofs.YthfglhjdnpoepaaGreatDoor
open Go.Ab
def ratD (o:Option Rat):Rat:=match o with
 |some q=>q
 |none=>0
theorem cbR24Cond:Callable Tryz.prog 16:=fun _ _=>by kernel_rfl
theorem r24Cond_c (k:Nat) (w:List UInt8) (l:List SQ) (hk:k≤1000) (h:∀s∈l,SQOk k s):
  PCalls Tryz.prog 16 [.str w,spotsQ l] (.tuple [.agg (qE (qrC (ratD (condQ w l.length fun i=>(l.getD i default).p).1))),.int .i64 (condQ w l.length fun i=>(l.getD i default).p).2]):=by
 refine pcalls_of_awp tyok cbR24Cond Tryz.func16 rfl rfl ?_
 have gn:=r24num_c 0 (by decide) (by decide)
 unfold condQ
 by_cases w0:w=[117,110,108,105,107,101]
 ·subst w0
  rw[if_pos rfl]
  by_cases hn:l.length=2
  ·rw[if_pos hn]
   obtain⟨s0,s1,rfl⟩:∃s0 s1,l=[s0,s1]:=by
    match l,hn with
    |[s0,s1],_=>exact⟨s0,s1,rfl⟩
   have hn':((([s0,s1]:List SQ).length:Nat):Int)=2:=rfl
   have g2:=r24dot_c k s0 s1 s0 s1 hk (h s0 (by simp)) (h s1 (by simp)) (h s0 (by simp)) (h s1 (by simp))
   repeat(first|refine wKB ?_|refine awp_seq_k fun K hK=>?_|refine wN fun bx=>?_|refine qpc rfl rfl rfl (gn) ?_|refine qpo rfl rfl rfl rfl rfl rfl (fun _=>gn) ?_|(refine wH ?_;clear hK))
   refine areg_soft mixed tyok [12] [] (List.range 15) (by decide +kernel) ?_
   repeat(first|refine wDB ?_|refine awp_seq_k fun K hK=>?_|refine wN fun bx=>?_|refine qpc rfl rfl rfl (gn) ?_|refine qpc rfl rfl rfl (g2) ?_|refine qpo rfl rfl rfl rfl rfl rfl (fun _=>gn) ?_|refine qpo rfl rfl rfl rfl rfl rfl (fun _=>g2) ?_|(refine wH ?_;clear hK))
   refine rcB ?_ ?_
   ·exact Sub.refl _
   ·exact Sub.refl _
  ·rw[if_neg hn]
   have hn':¬(l.length:Int)=2:=by omega
   repeat(first|refine wDB ?_|refine awp_seq_k fun K hK=>?_|refine wN fun bx=>?_|refine qpc rfl rfl rfl (gn) ?_|refine qpo rfl rfl rfl rfl rfl rfl (fun _=>gn) ?_|(refine wH ?_;clear hK))
   refine rcB ?_ ?_
   ·exact Sub.refl _
   ·exact Sub.refl _
 by_cases w1:w=[97,112,97,114,116]
 ·subst w1
  rw[if_neg (by decide),if_pos rfl]
  by_cases hn:l.length=3
  ·rw[if_pos hn]
   obtain⟨s0,s1,s2,rfl⟩:∃s0 s1 s2,l=[s0,s1,s2]:=by
    match l,hn with
    |[s0,s1,s2],_=>exact⟨s0,s1,s2,rfl⟩
   have hn':((([s0,s1,s2]:List SQ).length:Nat):Int)=3:=rfl
   have g2:=r24cross_c k s0 s1 s0 s2 hk (h s0 (by simp)) (h s1 (by simp)) (h s0 (by simp)) (h s2 (by simp))
   repeat(first|refine wKB ?_|refine awp_seq_k fun K hK=>?_|refine wN fun bx=>?_|refine qpc rfl rfl rfl (gn) ?_|refine qpo rfl rfl rfl rfl rfl rfl (fun _=>gn) ?_|(refine wH ?_;clear hK))
   refine areg_soft mixed tyok [12] [] (List.range 15) (by decide +kernel) ?_
   repeat(first|refine wDB ?_|refine awp_seq_k fun K hK=>?_|refine wN fun bx=>?_|refine qpc rfl rfl rfl (gn) ?_|refine qpc rfl rfl rfl (g2) ?_|refine qpo rfl rfl rfl rfl rfl rfl (fun _=>gn) ?_|refine qpo rfl rfl rfl rfl rfl rfl (fun _=>g2) ?_|(refine wH ?_;clear hK))
   refine rcB ?_ ?_
   ·exact Sub.refl _
   ·exact Sub.refl _
  ·rw[if_neg hn]
   have hn':¬(l.length:Int)=3:=by omega
   repeat(first|refine wDB ?_|refine awp_seq_k fun K hK=>?_|refine wN fun bx=>?_|refine qpc rfl rfl rfl (gn) ?_|refine qpo rfl rfl rfl rfl rfl rfl (fun _=>gn) ?_|(refine wH ?_;clear hK))
   refine rcB ?_ ?_
   ·exact Sub.refl _
   ·exact Sub.refl _
 by_cases w2:w=[99,114,111,115,115]
 ·subst w2
  rw[if_neg (by decide),if_neg (by decide),if_pos rfl]
  by_cases hn:l.length=4
  ·rw[if_pos hn]
   obtain⟨s0,s1,s2,s3,rfl⟩:∃s0 s1 s2 s3,l=[s0,s1,s2,s3]:=by
    match l,hn with
    |[s0,s1,s2,s3],_=>exact⟨s0,s1,s2,s3,rfl⟩
   have hn':((([s0,s1,s2,s3]:List SQ).length:Nat):Int)=4:=rfl
   have g2:=r24cross_c k s0 s1 s2 s3 hk (h s0 (by simp)) (h s1 (by simp)) (h s2 (by simp)) (h s3 (by simp))
   repeat(first|refine wKB ?_|refine awp_seq_k fun K hK=>?_|refine wN fun bx=>?_|refine qpc rfl rfl rfl (gn) ?_|refine qpo rfl rfl rfl rfl rfl rfl (fun _=>gn) ?_|(refine wH ?_;clear hK))
   refine areg_soft mixed tyok [12] [] (List.range 15) (by decide +kernel) ?_
   repeat(first|refine wDB ?_|refine awp_seq_k fun K hK=>?_|refine wN fun bx=>?_|refine qpc rfl rfl rfl (gn) ?_|refine qpc rfl rfl rfl (g2) ?_|refine qpo rfl rfl rfl rfl rfl rfl (fun _=>gn) ?_|refine qpo rfl rfl rfl rfl rfl rfl (fun _=>g2) ?_|(refine wH ?_;clear hK))
   refine rcB ?_ ?_
   ·exact Sub.refl _
   ·exact Sub.refl _
  ·rw[if_neg hn]
   have hn':¬(l.length:Int)=4:=by omega
   repeat(first|refine wDB ?_|refine awp_seq_k fun K hK=>?_|refine wN fun bx=>?_|refine qpc rfl rfl rfl (gn) ?_|refine qpo rfl rfl rfl rfl rfl rfl (fun _=>gn) ?_|(refine wH ?_;clear hK))
   refine rcB ?_ ?_
   ·exact Sub.refl _
   ·exact Sub.refl _
 by_cases w3:w=[100,111,116]
 ·subst w3
  rw[if_neg (by decide),if_neg (by decide),if_neg (by decide),if_pos rfl]
  by_cases hn:l.length=4
  ·rw[if_pos hn]
   obtain⟨s0,s1,s2,s3,rfl⟩:∃s0 s1 s2 s3,l=[s0,s1,s2,s3]:=by
    match l,hn with
    |[s0,s1,s2,s3],_=>exact⟨s0,s1,s2,s3,rfl⟩
   have hn':((([s0,s1,s2,s3]:List SQ).length:Nat):Int)=4:=rfl
   have g2:=r24dot_c k s0 s1 s2 s3 hk (h s0 (by simp)) (h s1 (by simp)) (h s2 (by simp)) (h s3 (by simp))
   repeat(first|refine wKB ?_|refine awp_seq_k fun K hK=>?_|refine wN fun bx=>?_|refine qpc rfl rfl rfl (gn) ?_|refine qpo rfl rfl rfl rfl rfl rfl (fun _=>gn) ?_|(refine wH ?_;clear hK))
   refine areg_soft mixed tyok [12] [] (List.range 15) (by decide +kernel) ?_
   repeat(first|refine wDB ?_|refine awp_seq_k fun K hK=>?_|refine wN fun bx=>?_|refine qpc rfl rfl rfl (gn) ?_|refine qpc rfl rfl rfl (g2) ?_|refine qpo rfl rfl rfl rfl rfl rfl (fun _=>gn) ?_|refine qpo rfl rfl rfl rfl rfl rfl (fun _=>g2) ?_|(refine wH ?_;clear hK))
   refine rcB ?_ ?_
   ·exact Sub.refl _
   ·exact Sub.refl _
  ·rw[if_neg hn]
   have hn':¬(l.length:Int)=4:=by omega
   repeat(first|refine wDB ?_|refine awp_seq_k fun K hK=>?_|refine wN fun bx=>?_|refine qpc rfl rfl rfl (gn) ?_|refine qpo rfl rfl rfl rfl rfl rfl (fun _=>gn) ?_|(refine wH ?_;clear hK))
   refine rcB ?_ ?_
   ·exact Sub.refl _
   ·exact Sub.refl _
 rw[if_neg w0,if_neg w1,if_neg w2,if_neg w3]
 repeat(first|refine wDB ?_|refine awp_seq_k fun K hK=>?_|refine wN fun bx=>?_|refine qpc rfl rfl rfl (gn) ?_|refine qpo rfl rfl rfl rfl rfl rfl (fun _=>gn) ?_|(refine wH ?_;clear hK))
 refine rcB ?_ ?_
 ·exact Sub.refl _
 ·exact Sub.refl _
end Go.Proofs.YthfglhjdnpoepaaGreatDoor
