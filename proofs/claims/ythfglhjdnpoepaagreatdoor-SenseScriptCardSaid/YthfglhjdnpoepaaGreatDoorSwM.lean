/-
  The document's answer for layer 24: Made (printed by gen24.py).
-/
import Derived.Test.YthfglhjdnpoepaaGreatDoorSw1
import Derived.Test.YthfglhjdnpoepaaGreatDoorSw2
import Derived.Test.YthfglhjdnpoepaaGreatDoorSw3
import Derived.Test.YthfglhjdnpoepaaGreatDoorSeM
import Derived.Test.YthfglhjdnpoepaaGreatDoorSe4
import Derived.Test.YthfglhjdnpoepaaGreatDoorTc
import Derived.Test.YthfglhjdnpoepaaGreatDoorSw4
import Derived.Test.YthfglhjdnpoepaaGreatDoorSw5
set_option maxRecDepth 100000
set_option maxHeartbeats 6400000
namespace Go.Proofs.YthfglhjdnpoepaaGreatDoor
open Go.Ab
def sqP (l:List SQ):Nat→Rat×Rat:=fun i=>(l.getD i default).p
theorem cbR24Made:Callable Tryz.prog 10:=fun _ _=>by kernel_rfl
theorem r24Made_core (w:List UInt8) (p:SQ) (l:List SQ) (nums:List Int) (r:RowR) (L1 L2 L3 V:List Rat) (hf:findR made22 w=some r) (hp:(l.length:Int)=r.pts) (hn:(nums.length:Int)=r.nums)
  (g1:PCalls Tryz.prog 34 [.str w,.agg (sqE p),spotsQ l] (ratQ L1)) (g2:L1=[]→PCalls Tryz.prog 35 [.str w,.agg (sqE p),spotsQ l,nums30 nums] (ratQ L2)) (g3:L1=[]→L2=[]→PCalls Tryz.prog 36 [.str w,.agg (sqE p),spotsQ l] (ratQ L3))
  (h:(L1≠[]∧V=L1)∨(L1=[]∧L2≠[]∧V=L2)∨(L1=[]∧L2=[]∧V=L3)):
  PCalls Tryz.prog 10 [.str w,.agg (sqE p),spotsQ l,nums30 nums] (.tuple [ratQ V,.int .i64 0]):=by
 refine pcalls_of_awp tyok cbR24Made Tryz.func10 rfl rfl ?_
 have m1:=made22_c
 have m2:=find22_c made22 w made22_len
 rw[hf]at m2
 have m2:PCalls Tryz.prog 32 [sl rowE 6 made22 .view,.str w] (.tuple [.agg (rowE r),.bool true]):=m2
 unfold ratQ at g1 g2 g3 ⊢
 have ne:∀L:List Rat,L≠[]→¬(L.length:Int)=0:=fun L hL=>by
  cases L with
  |nil=>exact absurd rfl hL
  |cons a b=>rw[List.length_cons];omega
 rcases h with⟨h1,rfl⟩|⟨h1,h2,rfl⟩|⟨h1,h2,rfl⟩
 ·have c1:=ne _ h1
  repeat(first|refine wDB ?_|refine awp_seq_k fun K hK=>?_|refine wN fun bx=>?_|refine qpc rfl rfl rfl (m1) ?_|refine qpc rfl rfl rfl (m2) ?_|refine qpc rfl rfl rfl (g1) ?_|refine qpo rfl rfl rfl rfl rfl rfl (fun _=>m1) ?_|refine qpo rfl rfl rfl rfl rfl rfl (fun _=>m2) ?_|refine qpo rfl rfl rfl rfl rfl rfl (fun _=>g1) ?_|(refine wH ?_;clear hK))
  refine r2 ?_ ?_
  ·exact Sub.refl _
  ·exact Sub.refl _
 ·have c1:(L1.length:Int)=0:=by rw[h1];rfl
  have c2:=ne _ h2
  have g2:=g2 h1
  repeat(first|refine wDB ?_|refine awp_seq_k fun K hK=>?_|refine wN fun bx=>?_|refine qpc rfl rfl rfl (m1) ?_|refine qpc rfl rfl rfl (m2) ?_|refine qpc rfl rfl rfl (g1) ?_|refine qpc rfl rfl rfl (g2) ?_|refine qpo rfl rfl rfl rfl rfl rfl (fun _=>m1) ?_|refine qpo rfl rfl rfl rfl rfl rfl (fun _=>m2) ?_|refine qpo rfl rfl rfl rfl rfl rfl (fun _=>g1) ?_|refine qpo rfl rfl rfl rfl rfl rfl (fun _=>g2) ?_|(refine wH ?_;clear hK))
  refine r2 ?_ ?_
  ·exact Sub.refl _
  ·exact Sub.refl _
 ·have c1:(L1.length:Int)=0:=by rw[h1];rfl
  have c2:(L2.length:Int)=0:=by rw[h2];rfl
  have g3:=g3 h1 h2
  have g2:=g2 h1
  repeat(first|refine wDB ?_|refine awp_seq_k fun K hK=>?_|refine wN fun bx=>?_|refine qpc rfl rfl rfl (m1) ?_|refine qpc rfl rfl rfl (m2) ?_|refine qpc rfl rfl rfl (g1) ?_|refine qpc rfl rfl rfl (g2) ?_|refine qpc rfl rfl rfl (g3) ?_|refine qpo rfl rfl rfl rfl rfl rfl (fun _=>m1) ?_|refine qpo rfl rfl rfl rfl rfl rfl (fun _=>m2) ?_|refine qpo rfl rfl rfl rfl rfl rfl (fun _=>g1) ?_|refine qpo rfl rfl rfl rfl rfl rfl (fun _=>g2) ?_|refine qpo rfl rfl rfl rfl rfl rfl (fun _=>g3) ?_|(refine wH ?_;clear hK))
  refine r2 ?_ ?_
  ·exact Sub.refl _
  ·exact Sub.refl _
theorem r24Made_many (w:List UInt8) (p:SQ) (l:List SQ) (nums:List Int) (r:RowR) (hf:findR made22 w=some r) (hp:¬((l.length:Int)=r.pts∧(nums.length:Int)=r.nums)):
  PCalls Tryz.prog 10 [.str w,.agg (sqE p),spotsQ l,nums30 nums] (.tuple [ratQ [],.int .i64 13]):=by
 refine pcalls_of_awp tyok cbR24Made Tryz.func10 rfl rfl ?_
 have m1:=made22_c
 have m2:=find22_c made22 w made22_len
 rw[hf]at m2
 have m2:PCalls Tryz.prog 32 [sl rowE 6 made22 .view,.str w] (.tuple [.agg (rowE r),.bool true]):=m2
 by_cases h1:(l.length:Int)=r.pts
 ·have h2:¬(nums.length:Int)=r.nums:=fun e=>hp ⟨h1,e⟩
  repeat(first|refine wDB ?_|refine awp_seq_k fun K hK=>?_|refine wN fun bx=>?_|refine qpc rfl rfl rfl (m1) ?_|refine qpc rfl rfl rfl (m2) ?_|refine qpo rfl rfl rfl rfl rfl rfl (fun _=>m1) ?_|refine qpo rfl rfl rfl rfl rfl rfl (fun _=>m2) ?_|(refine wH ?_;clear hK))
  refine r2 ?_ ?_
  ·exact Sub.nilsv _ _
  ·exact Sub.refl _
 ·repeat(first|refine wDB ?_|refine awp_seq_k fun K hK=>?_|refine wN fun bx=>?_|refine qpc rfl rfl rfl (m1) ?_|refine qpc rfl rfl rfl (m2) ?_|refine qpo rfl rfl rfl rfl rfl rfl (fun _=>m1) ?_|refine qpo rfl rfl rfl rfl rfl rfl (fun _=>m2) ?_|(refine wH ?_;clear hK))
  refine r2 ?_ ?_
  ·exact Sub.nilsv _ _
  ·exact Sub.refl _
theorem r24Made_none (w:List UInt8) (p:SQ) (l:List SQ) (nums:List Int) (hf:findR made22 w=none):
  PCalls Tryz.prog 10 [.str w,.agg (sqE p),spotsQ l,nums30 nums] (.tuple [ratQ [],.int .i64 5]):=by
 refine pcalls_of_awp tyok cbR24Made Tryz.func10 rfl rfl ?_
 have m1:=made22_c
 have m2:=find22_c made22 w made22_len
 rw[hf]at m2
 have m2:PCalls Tryz.prog 32 [sl rowE 6 made22 .view,.str w] (.tuple [.agg (rowE (rowD none)),.bool false]):=m2
 repeat(first|refine wDB ?_|refine awp_seq_k fun K hK=>?_|refine wN fun bx=>?_|refine qpc rfl rfl rfl (m1) ?_|refine qpc rfl rfl rfl (m2) ?_|refine qpo rfl rfl rfl rfl rfl rfl (fun _=>m1) ?_|refine qpo rfl rfl rfl rfl rfl rfl (fun _=>m2) ?_|(refine wH ?_;clear hK))
 refine r2 ?_ ?_
 ·exact Sub.nilsv _ _
 ·exact Sub.refl _
theorem r24M_on (k:Nat) (hk:k≤1000) (p:SQ) (l:List SQ) (nums:List Int) (r:RowR) (hf:findR made22 [111,110]=some r) (e1:r.pts=2) (e2:r.nums=0) (hp:SQOk k p) (h:∀s∈l,SQOk k s) (hN:∀m∈nums,-9223372036854775808≤m∧m≤9223372036854775807) (hl:(l.length:Int)=2) (hn:(nums.length:Int)=0):
  PCalls Tryz.prog 10 [.str [111,110],.agg (sqE p),spotsQ l,nums30 nums] (.tuple [ratQ (cf_on.eqs.map (eqQ (sqP (p::l)) nums)),.int .i64 0]):=by
 rw[ce_on]
 obtain⟨s0,s1,rfl⟩:∃s0 s1,l=[s0,s1]:=by
  match l,hl with
  |[s0,s1],_=>exact⟨s0,s1,rfl⟩
 obtain rfl:nums=[]:=by
  match nums,hn with
  |[],_=>exact rfl
 exact r24Made_core [111,110] p [s0,s1] [] r _ [] [] _ hf (by rw[e1];rfl) (by rw[e2];rfl) (r24lines_on k hk p s0 s1 hp (h s0 (by simp)) (h s1 (by simp))) (fun e=>absurd e (by simp)) (fun e=>absurd e (by simp)) (.inl ⟨by simp,rfl⟩)
theorem r24M_onpar (k:Nat) (hk:k≤1000) (p:SQ) (l:List SQ) (nums:List Int) (r:RowR) (hf:findR made22 [111,110,112,97,114]=some r) (e1:r.pts=3) (e2:r.nums=0) (hp:SQOk k p) (h:∀s∈l,SQOk k s) (hN:∀m∈nums,-9223372036854775808≤m∧m≤9223372036854775807) (hl:(l.length:Int)=3) (hn:(nums.length:Int)=0):
  PCalls Tryz.prog 10 [.str [111,110,112,97,114],.agg (sqE p),spotsQ l,nums30 nums] (.tuple [ratQ (cf_onpar.eqs.map (eqQ (sqP (p::l)) nums)),.int .i64 0]):=by
 rw[ce_onpar]
 obtain⟨s0,s1,s2,rfl⟩:∃s0 s1 s2,l=[s0,s1,s2]:=by
  match l,hl with
  |[s0,s1,s2],_=>exact⟨s0,s1,s2,rfl⟩
 obtain rfl:nums=[]:=by
  match nums,hn with
  |[],_=>exact rfl
 exact r24Made_core [111,110,112,97,114] p [s0,s1,s2] [] r _ [] [] _ hf (by rw[e1];rfl) (by rw[e2];rfl) (r24lines_onpar k hk p s0 s1 s2 hp (h s0 (by simp)) (h s1 (by simp)) (h s2 (by simp))) (fun e=>absurd e (by simp)) (fun e=>absurd e (by simp)) (.inl ⟨by simp,rfl⟩)
theorem r24M_onperp (k:Nat) (hk:k≤1000) (p:SQ) (l:List SQ) (nums:List Int) (r:RowR) (hf:findR made22 [111,110,112,101,114,112]=some r) (e1:r.pts=3) (e2:r.nums=0) (hp:SQOk k p) (h:∀s∈l,SQOk k s) (hN:∀m∈nums,-9223372036854775808≤m∧m≤9223372036854775807) (hl:(l.length:Int)=3) (hn:(nums.length:Int)=0):
  PCalls Tryz.prog 10 [.str [111,110,112,101,114,112],.agg (sqE p),spotsQ l,nums30 nums] (.tuple [ratQ (cf_onperp.eqs.map (eqQ (sqP (p::l)) nums)),.int .i64 0]):=by
 rw[ce_onperp]
 obtain⟨s0,s1,s2,rfl⟩:∃s0 s1 s2,l=[s0,s1,s2]:=by
  match l,hl with
  |[s0,s1,s2],_=>exact⟨s0,s1,s2,rfl⟩
 obtain rfl:nums=[]:=by
  match nums,hn with
  |[],_=>exact rfl
 exact r24Made_core [111,110,112,101,114,112] p [s0,s1,s2] [] r _ [] [] _ hf (by rw[e1];rfl) (by rw[e2];rfl) (r24lines_onperp k hk p s0 s1 s2 hp (h s0 (by simp)) (h s1 (by simp)) (h s2 (by simp))) (fun e=>absurd e (by simp)) (fun e=>absurd e (by simp)) (.inl ⟨by simp,rfl⟩)
theorem r24M_onbis (k:Nat) (hk:k≤1000) (p:SQ) (l:List SQ) (nums:List Int) (r:RowR) (hf:findR made22 [111,110,98,105,115]=some r) (e1:r.pts=2) (e2:r.nums=0) (hp:SQOk k p) (h:∀s∈l,SQOk k s) (hN:∀m∈nums,-9223372036854775808≤m∧m≤9223372036854775807) (hl:(l.length:Int)=2) (hn:(nums.length:Int)=0):
  PCalls Tryz.prog 10 [.str [111,110,98,105,115],.agg (sqE p),spotsQ l,nums30 nums] (.tuple [ratQ (cf_onbis.eqs.map (eqQ (sqP (p::l)) nums)),.int .i64 0]):=by
 rw[ce_onbis]
 obtain⟨s0,s1,rfl⟩:∃s0 s1,l=[s0,s1]:=by
  match l,hl with
  |[s0,s1],_=>exact⟨s0,s1,rfl⟩
 obtain rfl:nums=[]:=by
  match nums,hn with
  |[],_=>exact rfl
 exact r24Made_core [111,110,98,105,115] p [s0,s1] [] r _ [] [] _ hf (by rw[e1];rfl) (by rw[e2];rfl) (r24lines_onbis k hk p s0 s1 hp (h s0 (by simp)) (h s1 (by simp))) (fun e=>absurd e (by simp)) (fun e=>absurd e (by simp)) (.inl ⟨by simp,rfl⟩)
theorem r24M_oncircle (k:Nat) (hk:k≤1000) (p:SQ) (l:List SQ) (nums:List Int) (r:RowR) (hf:findR made22 [111,110,99,105,114,99,108,101]=some r) (e1:r.pts=2) (e2:r.nums=0) (hp:SQOk k p) (h:∀s∈l,SQOk k s) (hN:∀m∈nums,-9223372036854775808≤m∧m≤9223372036854775807) (hl:(l.length:Int)=2) (hn:(nums.length:Int)=0):
  PCalls Tryz.prog 10 [.str [111,110,99,105,114,99,108,101],.agg (sqE p),spotsQ l,nums30 nums] (.tuple [ratQ (cf_oncircle.eqs.map (eqQ (sqP (p::l)) nums)),.int .i64 0]):=by
 rw[ce_oncircle]
 obtain⟨s0,s1,rfl⟩:∃s0 s1,l=[s0,s1]:=by
  match l,hl with
  |[s0,s1],_=>exact⟨s0,s1,rfl⟩
 obtain rfl:nums=[]:=by
  match nums,hn with
  |[],_=>exact rfl
 exact r24Made_core [111,110,99,105,114,99,108,101] p [s0,s1] [] r _ [] [] _ hf (by rw[e1];rfl) (by rw[e2];rfl) (r24lines_oncircle k hk p s0 s1 hp (h s0 (by simp)) (h s1 (by simp))) (fun e=>absurd e (by simp)) (fun e=>absurd e (by simp)) (.inl ⟨by simp,rfl⟩)
theorem r24M_ondiam (k:Nat) (hk:k≤1000) (p:SQ) (l:List SQ) (nums:List Int) (r:RowR) (hf:findR made22 [111,110,100,105,97,109]=some r) (e1:r.pts=2) (e2:r.nums=0) (hp:SQOk k p) (h:∀s∈l,SQOk k s) (hN:∀m∈nums,-9223372036854775808≤m∧m≤9223372036854775807) (hl:(l.length:Int)=2) (hn:(nums.length:Int)=0):
  PCalls Tryz.prog 10 [.str [111,110,100,105,97,109],.agg (sqE p),spotsQ l,nums30 nums] (.tuple [ratQ (cf_ondiam.eqs.map (eqQ (sqP (p::l)) nums)),.int .i64 0]):=by
 rw[ce_ondiam]
 obtain⟨s0,s1,rfl⟩:∃s0 s1,l=[s0,s1]:=by
  match l,hl with
  |[s0,s1],_=>exact⟨s0,s1,rfl⟩
 obtain rfl:nums=[]:=by
  match nums,hn with
  |[],_=>exact rfl
 exact r24Made_core [111,110,100,105,97,109] p [s0,s1] [] r _ [] [] _ hf (by rw[e1];rfl) (by rw[e2];rfl) (r24lines_ondiam k hk p s0 s1 hp (h s0 (by simp)) (h s1 (by simp))) (fun e=>absurd e (by simp)) (fun e=>absurd e (by simp)) (.inl ⟨by simp,rfl⟩)
theorem r24M_oncirc (k:Nat) (hk:k≤1000) (p:SQ) (l:List SQ) (nums:List Int) (r:RowR) (hf:findR made22 [111,110,99,105,114,99]=some r) (e1:r.pts=3) (e2:r.nums=0) (hp:SQOk k p) (h:∀s∈l,SQOk k s) (hN:∀m∈nums,-9223372036854775808≤m∧m≤9223372036854775807) (hl:(l.length:Int)=3) (hn:(nums.length:Int)=0):
  PCalls Tryz.prog 10 [.str [111,110,99,105,114,99],.agg (sqE p),spotsQ l,nums30 nums] (.tuple [ratQ (cf_oncirc.eqs.map (eqQ (sqP (p::l)) nums)),.int .i64 0]):=by
 rw[ce_oncirc]
 obtain⟨s0,s1,s2,rfl⟩:∃s0 s1 s2,l=[s0,s1,s2]:=by
  match l,hl with
  |[s0,s1,s2],_=>exact⟨s0,s1,s2,rfl⟩
 obtain rfl:nums=[]:=by
  match nums,hn with
  |[],_=>exact rfl
 exact r24Made_core [111,110,99,105,114,99] p [s0,s1,s2] [] r _ [] [] _ hf (by rw[e1];rfl) (by rw[e2];rfl) (r24lines_oncirc k hk p s0 s1 s2 hp (h s0 (by simp)) (h s1 (by simp)) (h s2 (by simp))) (fun e=>absurd e (by simp)) (fun e=>absurd e (by simp)) (.inl ⟨by simp,rfl⟩)
theorem r24M_tangent (k:Nat) (hk:k≤1000) (p:SQ) (l:List SQ) (nums:List Int) (r:RowR) (hf:findR made22 [116,97,110,103,101,110,116]=some r) (e1:r.pts=2) (e2:r.nums=0) (hp:SQOk k p) (h:∀s∈l,SQOk k s) (hN:∀m∈nums,-9223372036854775808≤m∧m≤9223372036854775807) (hl:(l.length:Int)=2) (hn:(nums.length:Int)=0):
  PCalls Tryz.prog 10 [.str [116,97,110,103,101,110,116],.agg (sqE p),spotsQ l,nums30 nums] (.tuple [ratQ (cf_tangent.eqs.map (eqQ (sqP (p::l)) nums)),.int .i64 0]):=by
 rw[ce_tangent]
 obtain⟨s0,s1,rfl⟩:∃s0 s1,l=[s0,s1]:=by
  match l,hl with
  |[s0,s1],_=>exact⟨s0,s1,rfl⟩
 obtain rfl:nums=[]:=by
  match nums,hn with
  |[],_=>exact rfl
 exact r24Made_core [116,97,110,103,101,110,116] p [s0,s1] [] r _ [] [] _ hf (by rw[e1];rfl) (by rw[e2];rfl) (r24lines_tangent k hk p s0 s1 hp (h s0 (by simp)) (h s1 (by simp))) (fun e=>absurd e (by simp)) (fun e=>absurd e (by simp)) (.inl ⟨by simp,rfl⟩)
theorem r24M_midpoint (k:Nat) (hk:k≤1000) (p:SQ) (l:List SQ) (nums:List Int) (r:RowR) (hf:findR made22 [109,105,100,112,111,105,110,116]=some r) (e1:r.pts=2) (e2:r.nums=0) (hp:SQOk k p) (h:∀s∈l,SQOk k s) (hN:∀m∈nums,-9223372036854775808≤m∧m≤9223372036854775807) (hl:(l.length:Int)=2) (hn:(nums.length:Int)=0):
  PCalls Tryz.prog 10 [.str [109,105,100,112,111,105,110,116],.agg (sqE p),spotsQ l,nums30 nums] (.tuple [ratQ (cf_midpoint.eqs.map (eqQ (sqP (p::l)) nums)),.int .i64 0]):=by
 rw[ce_midpoint]
 obtain⟨s0,s1,rfl⟩:∃s0 s1,l=[s0,s1]:=by
  match l,hl with
  |[s0,s1],_=>exact⟨s0,s1,rfl⟩
 obtain rfl:nums=[]:=by
  match nums,hn with
  |[],_=>exact rfl
 exact r24Made_core [109,105,100,112,111,105,110,116] p [s0,s1] [] r [] _ [] _ hf (by rw[e1];rfl) (by rw[e2];rfl) (r24lines_no [109,105,100,112,111,105,110,116] p [s0,s1] (by simp)) (fun _=>(r24places_midpoint k hk p s0 s1 hp (h s0 (by simp)) (h s1 (by simp)) [])) (fun _ e=>absurd e (by simp)) (.inr (.inl ⟨rfl,by simp,rfl⟩))
theorem r24M_reflect (k:Nat) (hk:k≤1000) (p:SQ) (l:List SQ) (nums:List Int) (r:RowR) (hf:findR made22 [114,101,102,108,101,99,116]=some r) (e1:r.pts=2) (e2:r.nums=0) (hp:SQOk k p) (h:∀s∈l,SQOk k s) (hN:∀m∈nums,-9223372036854775808≤m∧m≤9223372036854775807) (hl:(l.length:Int)=2) (hn:(nums.length:Int)=0):
  PCalls Tryz.prog 10 [.str [114,101,102,108,101,99,116],.agg (sqE p),spotsQ l,nums30 nums] (.tuple [ratQ (cf_reflect.eqs.map (eqQ (sqP (p::l)) nums)),.int .i64 0]):=by
 rw[ce_reflect]
 obtain⟨s0,s1,rfl⟩:∃s0 s1,l=[s0,s1]:=by
  match l,hl with
  |[s0,s1],_=>exact⟨s0,s1,rfl⟩
 obtain rfl:nums=[]:=by
  match nums,hn with
  |[],_=>exact rfl
 exact r24Made_core [114,101,102,108,101,99,116] p [s0,s1] [] r [] _ [] _ hf (by rw[e1];rfl) (by rw[e2];rfl) (r24lines_no [114,101,102,108,101,99,116] p [s0,s1] (by simp)) (fun _=>(r24places_reflect k hk p s0 s1 hp (h s0 (by simp)) (h s1 (by simp)) [])) (fun _ e=>absurd e (by simp)) (.inr (.inl ⟨rfl,by simp,rfl⟩))
theorem r24M_centroid (k:Nat) (hk:k≤1000) (p:SQ) (l:List SQ) (nums:List Int) (r:RowR) (hf:findR made22 [99,101,110,116,114,111,105,100]=some r) (e1:r.pts=3) (e2:r.nums=0) (hp:SQOk k p) (h:∀s∈l,SQOk k s) (hN:∀m∈nums,-9223372036854775808≤m∧m≤9223372036854775807) (hl:(l.length:Int)=3) (hn:(nums.length:Int)=0):
  PCalls Tryz.prog 10 [.str [99,101,110,116,114,111,105,100],.agg (sqE p),spotsQ l,nums30 nums] (.tuple [ratQ (cf_centroid.eqs.map (eqQ (sqP (p::l)) nums)),.int .i64 0]):=by
 rw[ce_centroid]
 obtain⟨s0,s1,s2,rfl⟩:∃s0 s1 s2,l=[s0,s1,s2]:=by
  match l,hl with
  |[s0,s1,s2],_=>exact⟨s0,s1,s2,rfl⟩
 obtain rfl:nums=[]:=by
  match nums,hn with
  |[],_=>exact rfl
 exact r24Made_core [99,101,110,116,114,111,105,100] p [s0,s1,s2] [] r [] _ [] _ hf (by rw[e1];rfl) (by rw[e2];rfl) (r24lines_no [99,101,110,116,114,111,105,100] p [s0,s1,s2] (by simp)) (fun _=>(r24places_centroid k hk p s0 s1 s2 hp (h s0 (by simp)) (h s1 (by simp)) (h s2 (by simp)) [])) (fun _ e=>absurd e (by simp)) (.inr (.inl ⟨rfl,by simp,rfl⟩))
theorem r24M_translate (k:Nat) (hk:k≤1000) (p:SQ) (l:List SQ) (nums:List Int) (r:RowR) (hf:findR made22 [116,114,97,110,115,108,97,116,101]=some r) (e1:r.pts=3) (e2:r.nums=0) (hp:SQOk k p) (h:∀s∈l,SQOk k s) (hN:∀m∈nums,-9223372036854775808≤m∧m≤9223372036854775807) (hl:(l.length:Int)=3) (hn:(nums.length:Int)=0):
  PCalls Tryz.prog 10 [.str [116,114,97,110,115,108,97,116,101],.agg (sqE p),spotsQ l,nums30 nums] (.tuple [ratQ (cf_translate.eqs.map (eqQ (sqP (p::l)) nums)),.int .i64 0]):=by
 rw[ce_translate]
 obtain⟨s0,s1,s2,rfl⟩:∃s0 s1 s2,l=[s0,s1,s2]:=by
  match l,hl with
  |[s0,s1,s2],_=>exact⟨s0,s1,s2,rfl⟩
 obtain rfl:nums=[]:=by
  match nums,hn with
  |[],_=>exact rfl
 exact r24Made_core [116,114,97,110,115,108,97,116,101] p [s0,s1,s2] [] r [] _ [] _ hf (by rw[e1];rfl) (by rw[e2];rfl) (r24lines_no [116,114,97,110,115,108,97,116,101] p [s0,s1,s2] (by simp)) (fun _=>(r24places_translate k hk p s0 s1 s2 hp (h s0 (by simp)) (h s1 (by simp)) (h s2 (by simp)) [])) (fun _ e=>absurd e (by simp)) (.inr (.inl ⟨rfl,by simp,rfl⟩))
theorem r24M_turn (k:Nat) (hk:k≤1000) (p:SQ) (l:List SQ) (nums:List Int) (r:RowR) (hf:findR made22 [116,117,114,110]=some r) (e1:r.pts=2) (e2:r.nums=0) (hp:SQOk k p) (h:∀s∈l,SQOk k s) (hN:∀m∈nums,-9223372036854775808≤m∧m≤9223372036854775807) (hl:(l.length:Int)=2) (hn:(nums.length:Int)=0):
  PCalls Tryz.prog 10 [.str [116,117,114,110],.agg (sqE p),spotsQ l,nums30 nums] (.tuple [ratQ (cf_turn.eqs.map (eqQ (sqP (p::l)) nums)),.int .i64 0]):=by
 rw[ce_turn]
 obtain⟨s0,s1,rfl⟩:∃s0 s1,l=[s0,s1]:=by
  match l,hl with
  |[s0,s1],_=>exact⟨s0,s1,rfl⟩
 obtain rfl:nums=[]:=by
  match nums,hn with
  |[],_=>exact rfl
 exact r24Made_core [116,117,114,110] p [s0,s1] [] r [] _ [] _ hf (by rw[e1];rfl) (by rw[e2];rfl) (r24lines_no [116,117,114,110] p [s0,s1] (by simp)) (fun _=>(r24places_turn k hk p s0 s1 hp (h s0 (by simp)) (h s1 (by simp)) [])) (fun _ e=>absurd e (by simp)) (.inr (.inl ⟨rfl,by simp,rfl⟩))
theorem r24M_ratio (k:Nat) (hk:k≤1000) (p:SQ) (l:List SQ) (nums:List Int) (r:RowR) (hf:findR made22 [114,97,116,105,111]=some r) (e1:r.pts=2) (e2:r.nums=2) (hp:SQOk k p) (h:∀s∈l,SQOk k s) (hN:∀m∈nums,-9223372036854775808≤m∧m≤9223372036854775807) (hl:(l.length:Int)=2) (hn:(nums.length:Int)=2):
  PCalls Tryz.prog 10 [.str [114,97,116,105,111],.agg (sqE p),spotsQ l,nums30 nums] (.tuple [ratQ (cf_ratio.eqs.map (eqQ (sqP (p::l)) nums)),.int .i64 0]):=by
 rw[ce_ratio]
 obtain⟨s0,s1,rfl⟩:∃s0 s1,l=[s0,s1]:=by
  match l,hl with
  |[s0,s1],_=>exact⟨s0,s1,rfl⟩
 obtain⟨m0,m1,rfl⟩:∃m0 m1,nums=[m0,m1]:=by
  match nums,hn with
  |[m0,m1],_=>exact⟨m0,m1,rfl⟩
 exact r24Made_core [114,97,116,105,111] p [s0,s1] [m0,m1] r [] _ [] _ hf (by rw[e1];rfl) (by rw[e2];rfl) (r24lines_no [114,97,116,105,111] p [s0,s1] (by simp)) (fun _=>(r24places_ratio k hk p s0 s1 hp (h s0 (by simp)) (h s1 (by simp)) m0 m1 (hN m0 (by simp)) (hN m1 (by simp)))) (fun _ e=>absurd e (by simp)) (.inr (.inl ⟨rfl,by simp,rfl⟩))
theorem r24M_foot (k:Nat) (hk:k≤1000) (p:SQ) (l:List SQ) (nums:List Int) (r:RowR) (hf:findR made22 [102,111,111,116]=some r) (e1:r.pts=3) (e2:r.nums=0) (hp:SQOk k p) (h:∀s∈l,SQOk k s) (hN:∀m∈nums,-9223372036854775808≤m∧m≤9223372036854775807) (hl:(l.length:Int)=3) (hn:(nums.length:Int)=0):
  PCalls Tryz.prog 10 [.str [102,111,111,116],.agg (sqE p),spotsQ l,nums30 nums] (.tuple [ratQ (cf_foot.eqs.map (eqQ (sqP (p::l)) nums)),.int .i64 0]):=by
 rw[ce_foot]
 obtain⟨s0,s1,s2,rfl⟩:∃s0 s1 s2,l=[s0,s1,s2]:=by
  match l,hl with
  |[s0,s1,s2],_=>exact⟨s0,s1,s2,rfl⟩
 obtain rfl:nums=[]:=by
  match nums,hn with
  |[],_=>exact rfl
 exact r24Made_core [102,111,111,116] p [s0,s1,s2] [] r [] [] _ _ hf (by rw[e1];rfl) (by rw[e2];rfl) (r24lines_no [102,111,111,116] p [s0,s1,s2] (by simp)) (fun _=>(r24places_no [102,111,111,116] p [s0,s1,s2] [] (by simp))) (fun _ _=>(r24meets_foot k hk p s0 s1 s2 hp (h s0 (by simp)) (h s1 (by simp)) (h s2 (by simp)))) (.inr (.inr ⟨rfl,rfl,rfl⟩))
theorem r24M_mirror (k:Nat) (hk:k≤1000) (p:SQ) (l:List SQ) (nums:List Int) (r:RowR) (hf:findR made22 [109,105,114,114,111,114]=some r) (e1:r.pts=3) (e2:r.nums=0) (hp:SQOk k p) (h:∀s∈l,SQOk k s) (hN:∀m∈nums,-9223372036854775808≤m∧m≤9223372036854775807) (hl:(l.length:Int)=3) (hn:(nums.length:Int)=0):
  PCalls Tryz.prog 10 [.str [109,105,114,114,111,114],.agg (sqE p),spotsQ l,nums30 nums] (.tuple [ratQ (cf_mirror.eqs.map (eqQ (sqP (p::l)) nums)),.int .i64 0]):=by
 rw[ce_mirror]
 obtain⟨s0,s1,s2,rfl⟩:∃s0 s1 s2,l=[s0,s1,s2]:=by
  match l,hl with
  |[s0,s1,s2],_=>exact⟨s0,s1,s2,rfl⟩
 obtain rfl:nums=[]:=by
  match nums,hn with
  |[],_=>exact rfl
 exact r24Made_core [109,105,114,114,111,114] p [s0,s1,s2] [] r [] [] _ _ hf (by rw[e1];rfl) (by rw[e2];rfl) (r24lines_no [109,105,114,114,111,114] p [s0,s1,s2] (by simp)) (fun _=>(r24places_no [109,105,114,114,111,114] p [s0,s1,s2] [] (by simp))) (fun _ _=>(r24meets_mirror k hk p s0 s1 s2 hp (h s0 (by simp)) (h s1 (by simp)) (h s2 (by simp)))) (.inr (.inr ⟨rfl,rfl,rfl⟩))
theorem r24M_meet (k:Nat) (hk:k≤1000) (p:SQ) (l:List SQ) (nums:List Int) (r:RowR) (hf:findR made22 [109,101,101,116]=some r) (e1:r.pts=4) (e2:r.nums=0) (hp:SQOk k p) (h:∀s∈l,SQOk k s) (hN:∀m∈nums,-9223372036854775808≤m∧m≤9223372036854775807) (hl:(l.length:Int)=4) (hn:(nums.length:Int)=0):
  PCalls Tryz.prog 10 [.str [109,101,101,116],.agg (sqE p),spotsQ l,nums30 nums] (.tuple [ratQ (cf_meet.eqs.map (eqQ (sqP (p::l)) nums)),.int .i64 0]):=by
 rw[ce_meet]
 obtain⟨s0,s1,s2,s3,rfl⟩:∃s0 s1 s2 s3,l=[s0,s1,s2,s3]:=by
  match l,hl with
  |[s0,s1,s2,s3],_=>exact⟨s0,s1,s2,s3,rfl⟩
 obtain rfl:nums=[]:=by
  match nums,hn with
  |[],_=>exact rfl
 exact r24Made_core [109,101,101,116] p [s0,s1,s2,s3] [] r [] [] _ _ hf (by rw[e1];rfl) (by rw[e2];rfl) (r24lines_no [109,101,101,116] p [s0,s1,s2,s3] (by simp)) (fun _=>(r24places_no [109,101,101,116] p [s0,s1,s2,s3] [] (by simp))) (fun _ _=>(r24meets_meet k hk p s0 s1 s2 s3 hp (h s0 (by simp)) (h s1 (by simp)) (h s2 (by simp)) (h s3 (by simp)))) (.inr (.inr ⟨rfl,rfl,rfl⟩))
theorem r24M_parmeet (k:Nat) (hk:k≤1000) (p:SQ) (l:List SQ) (nums:List Int) (r:RowR) (hf:findR made22 [112,97,114,109,101,101,116]=some r) (e1:r.pts=5) (e2:r.nums=0) (hp:SQOk k p) (h:∀s∈l,SQOk k s) (hN:∀m∈nums,-9223372036854775808≤m∧m≤9223372036854775807) (hl:(l.length:Int)=5) (hn:(nums.length:Int)=0):
  PCalls Tryz.prog 10 [.str [112,97,114,109,101,101,116],.agg (sqE p),spotsQ l,nums30 nums] (.tuple [ratQ (cf_parmeet.eqs.map (eqQ (sqP (p::l)) nums)),.int .i64 0]):=by
 rw[ce_parmeet]
 obtain⟨s0,s1,s2,s3,s4,rfl⟩:∃s0 s1 s2 s3 s4,l=[s0,s1,s2,s3,s4]:=by
  match l,hl with
  |[s0,s1,s2,s3,s4],_=>exact⟨s0,s1,s2,s3,s4,rfl⟩
 obtain rfl:nums=[]:=by
  match nums,hn with
  |[],_=>exact rfl
 exact r24Made_core [112,97,114,109,101,101,116] p [s0,s1,s2,s3,s4] [] r [] [] _ _ hf (by rw[e1];rfl) (by rw[e2];rfl) (r24lines_no [112,97,114,109,101,101,116] p [s0,s1,s2,s3,s4] (by simp)) (fun _=>(r24places_no [112,97,114,109,101,101,116] p [s0,s1,s2,s3,s4] [] (by simp))) (fun _ _=>(r24meets_parmeet k hk p s0 s1 s2 s3 s4 hp (h s0 (by simp)) (h s1 (by simp)) (h s2 (by simp)) (h s3 (by simp)) (h s4 (by simp)))) (.inr (.inr ⟨rfl,rfl,rfl⟩))
theorem r24M_perpmeet (k:Nat) (hk:k≤1000) (p:SQ) (l:List SQ) (nums:List Int) (r:RowR) (hf:findR made22 [112,101,114,112,109,101,101,116]=some r) (e1:r.pts=5) (e2:r.nums=0) (hp:SQOk k p) (h:∀s∈l,SQOk k s) (hN:∀m∈nums,-9223372036854775808≤m∧m≤9223372036854775807) (hl:(l.length:Int)=5) (hn:(nums.length:Int)=0):
  PCalls Tryz.prog 10 [.str [112,101,114,112,109,101,101,116],.agg (sqE p),spotsQ l,nums30 nums] (.tuple [ratQ (cf_perpmeet.eqs.map (eqQ (sqP (p::l)) nums)),.int .i64 0]):=by
 rw[ce_perpmeet]
 obtain⟨s0,s1,s2,s3,s4,rfl⟩:∃s0 s1 s2 s3 s4,l=[s0,s1,s2,s3,s4]:=by
  match l,hl with
  |[s0,s1,s2,s3,s4],_=>exact⟨s0,s1,s2,s3,s4,rfl⟩
 obtain rfl:nums=[]:=by
  match nums,hn with
  |[],_=>exact rfl
 exact r24Made_core [112,101,114,112,109,101,101,116] p [s0,s1,s2,s3,s4] [] r [] [] _ _ hf (by rw[e1];rfl) (by rw[e2];rfl) (r24lines_no [112,101,114,112,109,101,101,116] p [s0,s1,s2,s3,s4] (by simp)) (fun _=>(r24places_no [112,101,114,112,109,101,101,116] p [s0,s1,s2,s3,s4] [] (by simp))) (fun _ _=>(r24meets_perpmeet k hk p s0 s1 s2 s3 s4 hp (h s0 (by simp)) (h s1 (by simp)) (h s2 (by simp)) (h s3 (by simp)) (h s4 (by simp)))) (.inr (.inr ⟨rfl,rfl,rfl⟩))
theorem r24M_parpar (k:Nat) (hk:k≤1000) (p:SQ) (l:List SQ) (nums:List Int) (r:RowR) (hf:findR made22 [112,97,114,112,97,114]=some r) (e1:r.pts=6) (e2:r.nums=0) (hp:SQOk k p) (h:∀s∈l,SQOk k s) (hN:∀m∈nums,-9223372036854775808≤m∧m≤9223372036854775807) (hl:(l.length:Int)=6) (hn:(nums.length:Int)=0):
  PCalls Tryz.prog 10 [.str [112,97,114,112,97,114],.agg (sqE p),spotsQ l,nums30 nums] (.tuple [ratQ (cf_parpar.eqs.map (eqQ (sqP (p::l)) nums)),.int .i64 0]):=by
 rw[ce_parpar]
 obtain⟨s0,s1,s2,s3,s4,s5,rfl⟩:∃s0 s1 s2 s3 s4 s5,l=[s0,s1,s2,s3,s4,s5]:=by
  match l,hl with
  |[s0,s1,s2,s3,s4,s5],_=>exact⟨s0,s1,s2,s3,s4,s5,rfl⟩
 obtain rfl:nums=[]:=by
  match nums,hn with
  |[],_=>exact rfl
 exact r24Made_core [112,97,114,112,97,114] p [s0,s1,s2,s3,s4,s5] [] r [] [] _ _ hf (by rw[e1];rfl) (by rw[e2];rfl) (r24lines_no [112,97,114,112,97,114] p [s0,s1,s2,s3,s4,s5] (by simp)) (fun _=>(r24places_no [112,97,114,112,97,114] p [s0,s1,s2,s3,s4,s5] [] (by simp))) (fun _ _=>(r24meets_parpar k hk p s0 s1 s2 s3 s4 s5 hp (h s0 (by simp)) (h s1 (by simp)) (h s2 (by simp)) (h s3 (by simp)) (h s4 (by simp)) (h s5 (by simp)))) (.inr (.inr ⟨rfl,rfl,rfl⟩))
theorem r24M_perpperp (k:Nat) (hk:k≤1000) (p:SQ) (l:List SQ) (nums:List Int) (r:RowR) (hf:findR made22 [112,101,114,112,112,101,114,112]=some r) (e1:r.pts=6) (e2:r.nums=0) (hp:SQOk k p) (h:∀s∈l,SQOk k s) (hN:∀m∈nums,-9223372036854775808≤m∧m≤9223372036854775807) (hl:(l.length:Int)=6) (hn:(nums.length:Int)=0):
  PCalls Tryz.prog 10 [.str [112,101,114,112,112,101,114,112],.agg (sqE p),spotsQ l,nums30 nums] (.tuple [ratQ (cf_perpperp.eqs.map (eqQ (sqP (p::l)) nums)),.int .i64 0]):=by
 rw[ce_perpperp]
 obtain⟨s0,s1,s2,s3,s4,s5,rfl⟩:∃s0 s1 s2 s3 s4 s5,l=[s0,s1,s2,s3,s4,s5]:=by
  match l,hl with
  |[s0,s1,s2,s3,s4,s5],_=>exact⟨s0,s1,s2,s3,s4,s5,rfl⟩
 obtain rfl:nums=[]:=by
  match nums,hn with
  |[],_=>exact rfl
 exact r24Made_core [112,101,114,112,112,101,114,112] p [s0,s1,s2,s3,s4,s5] [] r [] [] _ _ hf (by rw[e1];rfl) (by rw[e2];rfl) (r24lines_no [112,101,114,112,112,101,114,112] p [s0,s1,s2,s3,s4,s5] (by simp)) (fun _=>(r24places_no [112,101,114,112,112,101,114,112] p [s0,s1,s2,s3,s4,s5] [] (by simp))) (fun _ _=>(r24meets_perpperp k hk p s0 s1 s2 s3 s4 s5 hp (h s0 (by simp)) (h s1 (by simp)) (h s2 (by simp)) (h s3 (by simp)) (h s4 (by simp)) (h s5 (by simp)))) (.inr (.inr ⟨rfl,rfl,rfl⟩))
theorem r24M_parperp (k:Nat) (hk:k≤1000) (p:SQ) (l:List SQ) (nums:List Int) (r:RowR) (hf:findR made22 [112,97,114,112,101,114,112]=some r) (e1:r.pts=6) (e2:r.nums=0) (hp:SQOk k p) (h:∀s∈l,SQOk k s) (hN:∀m∈nums,-9223372036854775808≤m∧m≤9223372036854775807) (hl:(l.length:Int)=6) (hn:(nums.length:Int)=0):
  PCalls Tryz.prog 10 [.str [112,97,114,112,101,114,112],.agg (sqE p),spotsQ l,nums30 nums] (.tuple [ratQ (cf_parperp.eqs.map (eqQ (sqP (p::l)) nums)),.int .i64 0]):=by
 rw[ce_parperp]
 obtain⟨s0,s1,s2,s3,s4,s5,rfl⟩:∃s0 s1 s2 s3 s4 s5,l=[s0,s1,s2,s3,s4,s5]:=by
  match l,hl with
  |[s0,s1,s2,s3,s4,s5],_=>exact⟨s0,s1,s2,s3,s4,s5,rfl⟩
 obtain rfl:nums=[]:=by
  match nums,hn with
  |[],_=>exact rfl
 exact r24Made_core [112,97,114,112,101,114,112] p [s0,s1,s2,s3,s4,s5] [] r [] [] _ _ hf (by rw[e1];rfl) (by rw[e2];rfl) (r24lines_no [112,97,114,112,101,114,112] p [s0,s1,s2,s3,s4,s5] (by simp)) (fun _=>(r24places_no [112,97,114,112,101,114,112] p [s0,s1,s2,s3,s4,s5] [] (by simp))) (fun _ _=>(r24meets_parperp k hk p s0 s1 s2 s3 s4 s5 hp (h s0 (by simp)) (h s1 (by simp)) (h s2 (by simp)) (h s3 (by simp)) (h s4 (by simp)) (h s5 (by simp)))) (.inr (.inr ⟨rfl,rfl,rfl⟩))
theorem r24M_bimeet (k:Nat) (hk:k≤1000) (p:SQ) (l:List SQ) (nums:List Int) (r:RowR) (hf:findR made22 [98,105,109,101,101,116]=some r) (e1:r.pts=4) (e2:r.nums=0) (hp:SQOk k p) (h:∀s∈l,SQOk k s) (hN:∀m∈nums,-9223372036854775808≤m∧m≤9223372036854775807) (hl:(l.length:Int)=4) (hn:(nums.length:Int)=0):
  PCalls Tryz.prog 10 [.str [98,105,109,101,101,116],.agg (sqE p),spotsQ l,nums30 nums] (.tuple [ratQ (cf_bimeet.eqs.map (eqQ (sqP (p::l)) nums)),.int .i64 0]):=by
 rw[ce_bimeet]
 obtain⟨s0,s1,s2,s3,rfl⟩:∃s0 s1 s2 s3,l=[s0,s1,s2,s3]:=by
  match l,hl with
  |[s0,s1,s2,s3],_=>exact⟨s0,s1,s2,s3,rfl⟩
 obtain rfl:nums=[]:=by
  match nums,hn with
  |[],_=>exact rfl
 exact r24Made_core [98,105,109,101,101,116] p [s0,s1,s2,s3] [] r [] [] _ _ hf (by rw[e1];rfl) (by rw[e2];rfl) (r24lines_no [98,105,109,101,101,116] p [s0,s1,s2,s3] (by simp)) (fun _=>(r24places_no [98,105,109,101,101,116] p [s0,s1,s2,s3] [] (by simp))) (fun _ _=>(r24meets_bimeet k hk p s0 s1 s2 s3 hp (h s0 (by simp)) (h s1 (by simp)) (h s2 (by simp)) (h s3 (by simp)))) (.inr (.inr ⟨rfl,rfl,rfl⟩))
theorem r24M_bisbis (k:Nat) (hk:k≤1000) (p:SQ) (l:List SQ) (nums:List Int) (r:RowR) (hf:findR made22 [98,105,115,98,105,115]=some r) (e1:r.pts=4) (e2:r.nums=0) (hp:SQOk k p) (h:∀s∈l,SQOk k s) (hN:∀m∈nums,-9223372036854775808≤m∧m≤9223372036854775807) (hl:(l.length:Int)=4) (hn:(nums.length:Int)=0):
  PCalls Tryz.prog 10 [.str [98,105,115,98,105,115],.agg (sqE p),spotsQ l,nums30 nums] (.tuple [ratQ (cf_bisbis.eqs.map (eqQ (sqP (p::l)) nums)),.int .i64 0]):=by
 rw[ce_bisbis]
 obtain⟨s0,s1,s2,s3,rfl⟩:∃s0 s1 s2 s3,l=[s0,s1,s2,s3]:=by
  match l,hl with
  |[s0,s1,s2,s3],_=>exact⟨s0,s1,s2,s3,rfl⟩
 obtain rfl:nums=[]:=by
  match nums,hn with
  |[],_=>exact rfl
 exact r24Made_core [98,105,115,98,105,115] p [s0,s1,s2,s3] [] r [] [] _ _ hf (by rw[e1];rfl) (by rw[e2];rfl) (r24lines_no [98,105,115,98,105,115] p [s0,s1,s2,s3] (by simp)) (fun _=>(r24places_no [98,105,115,98,105,115] p [s0,s1,s2,s3] [] (by simp))) (fun _ _=>(r24meets_bisbis k hk p s0 s1 s2 s3 hp (h s0 (by simp)) (h s1 (by simp)) (h s2 (by simp)) (h s3 (by simp)))) (.inr (.inr ⟨rfl,rfl,rfl⟩))
theorem r24M_circumcentre (k:Nat) (hk:k≤1000) (p:SQ) (l:List SQ) (nums:List Int) (r:RowR) (hf:findR made22 [99,105,114,99,117,109,99,101,110,116,114,101]=some r) (e1:r.pts=3) (e2:r.nums=0) (hp:SQOk k p) (h:∀s∈l,SQOk k s) (hN:∀m∈nums,-9223372036854775808≤m∧m≤9223372036854775807) (hl:(l.length:Int)=3) (hn:(nums.length:Int)=0):
  PCalls Tryz.prog 10 [.str [99,105,114,99,117,109,99,101,110,116,114,101],.agg (sqE p),spotsQ l,nums30 nums] (.tuple [ratQ (cf_circumcentre.eqs.map (eqQ (sqP (p::l)) nums)),.int .i64 0]):=by
 rw[ce_circumcentre]
 obtain⟨s0,s1,s2,rfl⟩:∃s0 s1 s2,l=[s0,s1,s2]:=by
  match l,hl with
  |[s0,s1,s2],_=>exact⟨s0,s1,s2,rfl⟩
 obtain rfl:nums=[]:=by
  match nums,hn with
  |[],_=>exact rfl
 exact r24Made_core [99,105,114,99,117,109,99,101,110,116,114,101] p [s0,s1,s2] [] r [] [] _ _ hf (by rw[e1];rfl) (by rw[e2];rfl) (r24lines_no [99,105,114,99,117,109,99,101,110,116,114,101] p [s0,s1,s2] (by simp)) (fun _=>(r24places_no [99,105,114,99,117,109,99,101,110,116,114,101] p [s0,s1,s2] [] (by simp))) (fun _ _=>(r24meets_circumcentre k hk p s0 s1 s2 hp (h s0 (by simp)) (h s1 (by simp)) (h s2 (by simp)))) (.inr (.inr ⟨rfl,rfl,rfl⟩))
theorem r24M_orthocentre (k:Nat) (hk:k≤1000) (p:SQ) (l:List SQ) (nums:List Int) (r:RowR) (hf:findR made22 [111,114,116,104,111,99,101,110,116,114,101]=some r) (e1:r.pts=3) (e2:r.nums=0) (hp:SQOk k p) (h:∀s∈l,SQOk k s) (hN:∀m∈nums,-9223372036854775808≤m∧m≤9223372036854775807) (hl:(l.length:Int)=3) (hn:(nums.length:Int)=0):
  PCalls Tryz.prog 10 [.str [111,114,116,104,111,99,101,110,116,114,101],.agg (sqE p),spotsQ l,nums30 nums] (.tuple [ratQ (cf_orthocentre.eqs.map (eqQ (sqP (p::l)) nums)),.int .i64 0]):=by
 rw[ce_orthocentre]
 obtain⟨s0,s1,s2,rfl⟩:∃s0 s1 s2,l=[s0,s1,s2]:=by
  match l,hl with
  |[s0,s1,s2],_=>exact⟨s0,s1,s2,rfl⟩
 obtain rfl:nums=[]:=by
  match nums,hn with
  |[],_=>exact rfl
 exact r24Made_core [111,114,116,104,111,99,101,110,116,114,101] p [s0,s1,s2] [] r [] [] _ _ hf (by rw[e1];rfl) (by rw[e2];rfl) (r24lines_no [111,114,116,104,111,99,101,110,116,114,101] p [s0,s1,s2] (by simp)) (fun _=>(r24places_no [111,114,116,104,111,99,101,110,116,114,101] p [s0,s1,s2] [] (by simp))) (fun _ _=>(r24meets_orthocentre k hk p s0 s1 s2 hp (h s0 (by simp)) (h s1 (by simp)) (h s2 (by simp)))) (.inr (.inr ⟨rfl,rfl,rfl⟩))
theorem r24M_second (k:Nat) (hk:k≤1000) (p:SQ) (l:List SQ) (nums:List Int) (r:RowR) (hf:findR made22 [115,101,99,111,110,100]=some r) (e1:r.pts=3) (e2:r.nums=0) (hp:SQOk k p) (h:∀s∈l,SQOk k s) (hN:∀m∈nums,-9223372036854775808≤m∧m≤9223372036854775807) (hl:(l.length:Int)=3) (hn:(nums.length:Int)=0):
  PCalls Tryz.prog 10 [.str [115,101,99,111,110,100],.agg (sqE p),spotsQ l,nums30 nums] (.tuple [ratQ (cf_second.eqs.map (eqQ (sqP (p::l)) nums)),.int .i64 0]):=by
 rw[ce_second]
 obtain⟨s0,s1,s2,rfl⟩:∃s0 s1 s2,l=[s0,s1,s2]:=by
  match l,hl with
  |[s0,s1,s2],_=>exact⟨s0,s1,s2,rfl⟩
 obtain rfl:nums=[]:=by
  match nums,hn with
  |[],_=>exact rfl
 exact r24Made_core [115,101,99,111,110,100] p [s0,s1,s2] [] r [] [] _ _ hf (by rw[e1];rfl) (by rw[e2];rfl) (r24lines_no [115,101,99,111,110,100] p [s0,s1,s2] (by simp)) (fun _=>(r24places_no [115,101,99,111,110,100] p [s0,s1,s2] [] (by simp))) (fun _ _=>(r24meets_second k hk p s0 s1 s2 hp (h s0 (by simp)) (h s1 (by simp)) (h s2 (by simp)))) (.inr (.inr ⟨rfl,rfl,rfl⟩))
theorem r24M_other (k:Nat) (hk:k≤1000) (p:SQ) (l:List SQ) (nums:List Int) (r:RowR) (hf:findR made22 [111,116,104,101,114]=some r) (e1:r.pts=3) (e2:r.nums=0) (hp:SQOk k p) (h:∀s∈l,SQOk k s) (hN:∀m∈nums,-9223372036854775808≤m∧m≤9223372036854775807) (hl:(l.length:Int)=3) (hn:(nums.length:Int)=0):
  PCalls Tryz.prog 10 [.str [111,116,104,101,114],.agg (sqE p),spotsQ l,nums30 nums] (.tuple [ratQ (cf_other.eqs.map (eqQ (sqP (p::l)) nums)),.int .i64 0]):=by
 rw[ce_other]
 obtain⟨s0,s1,s2,rfl⟩:∃s0 s1 s2,l=[s0,s1,s2]:=by
  match l,hl with
  |[s0,s1,s2],_=>exact⟨s0,s1,s2,rfl⟩
 obtain rfl:nums=[]:=by
  match nums,hn with
  |[],_=>exact rfl
 exact r24Made_core [111,116,104,101,114] p [s0,s1,s2] [] r [] [] _ _ hf (by rw[e1];rfl) (by rw[e2];rfl) (r24lines_no [111,116,104,101,114] p [s0,s1,s2] (by simp)) (fun _=>(r24places_no [111,116,104,101,114] p [s0,s1,s2] [] (by simp))) (fun _ _=>(r24meets_other k hk p s0 s1 s2 hp (h s0 (by simp)) (h s1 (by simp)) (h s2 (by simp)))) (.inr (.inr ⟨rfl,rfl,rfl⟩))
theorem r24M_inverse (k:Nat) (hk:k≤1000) (p:SQ) (l:List SQ) (nums:List Int) (r:RowR) (hf:findR made22 [105,110,118,101,114,115,101]=some r) (e1:r.pts=3) (e2:r.nums=0) (hp:SQOk k p) (h:∀s∈l,SQOk k s) (hN:∀m∈nums,-9223372036854775808≤m∧m≤9223372036854775807) (hl:(l.length:Int)=3) (hn:(nums.length:Int)=0):
  PCalls Tryz.prog 10 [.str [105,110,118,101,114,115,101],.agg (sqE p),spotsQ l,nums30 nums] (.tuple [ratQ (cf_inverse.eqs.map (eqQ (sqP (p::l)) nums)),.int .i64 0]):=by
 rw[ce_inverse]
 obtain⟨s0,s1,s2,rfl⟩:∃s0 s1 s2,l=[s0,s1,s2]:=by
  match l,hl with
  |[s0,s1,s2],_=>exact⟨s0,s1,s2,rfl⟩
 obtain rfl:nums=[]:=by
  match nums,hn with
  |[],_=>exact rfl
 exact r24Made_core [105,110,118,101,114,115,101] p [s0,s1,s2] [] r [] [] _ _ hf (by rw[e1];rfl) (by rw[e2];rfl) (r24lines_no [105,110,118,101,114,115,101] p [s0,s1,s2] (by simp)) (fun _=>(r24places_no [105,110,118,101,114,115,101] p [s0,s1,s2] [] (by simp))) (fun _ _=>(r24meets_inverse k hk p s0 s1 s2 hp (h s0 (by simp)) (h s1 (by simp)) (h s2 (by simp)))) (.inr (.inr ⟨rfl,rfl,rfl⟩))
end Go.Proofs.YthfglhjdnpoepaaGreatDoor
namespace Go.Proofs.YthfglhjdnpoepaaGreatDoor
open Go.Ab
theorem cbR24Asked:Callable Tryz.prog 14:=fun _ _=>by kernel_rfl
theorem r24Asked_core (w:List UInt8) (l:List SQ) (r:RowR) (L1 L2 V:List Rat) (hf:findR asked22 w=some r) (hp:(l.length:Int)=r.pts)
  (g1:PCalls Tryz.prog 39 [.str w,spotsQ l] (ratQ L1)) (g2:L1=[]→PCalls Tryz.prog 40 [.str w,spotsQ l] (ratQ L2))
  (h:(L1≠[]∧V=L1)∨(L1=[]∧V=L2)):
  PCalls Tryz.prog 14 [.str w,spotsQ l] (.tuple [ratQ V,.int .i64 0]):=by
 refine pcalls_of_awp tyok cbR24Asked Tryz.func14 rfl rfl ?_
 have m1:=asked22_c
 have m2:=find22_c asked22 w asked22_len
 rw[hf]at m2
 have m2:PCalls Tryz.prog 32 [sl rowE 6 asked22 .view,.str w] (.tuple [.agg (rowE r),.bool true]):=m2
 unfold ratQ at g1 g2 ⊢
 have ne:∀L:List Rat,L≠[]→¬(L.length:Int)=0:=fun L hL=>by
  cases L with
  |nil=>exact absurd rfl hL
  |cons a b=>rw[List.length_cons];omega
 rcases h with⟨h1,rfl⟩|⟨h1,rfl⟩
 ·have c1:=ne _ h1
  repeat(first|refine wDB ?_|refine awp_seq_k fun K hK=>?_|refine wN fun bx=>?_|refine qpc rfl rfl rfl (m1) ?_|refine qpc rfl rfl rfl (m2) ?_|refine qpc rfl rfl rfl (g1) ?_|refine qpo rfl rfl rfl rfl rfl rfl (fun _=>m1) ?_|refine qpo rfl rfl rfl rfl rfl rfl (fun _=>m2) ?_|refine qpo rfl rfl rfl rfl rfl rfl (fun _=>g1) ?_|(refine wH ?_;clear hK))
  refine r2 ?_ ?_
  ·exact Sub.refl _
  ·exact Sub.refl _
 ·have c1:(L1.length:Int)=0:=by rw[h1];rfl
  have g2:=g2 h1
  repeat(first|refine wDB ?_|refine awp_seq_k fun K hK=>?_|refine wN fun bx=>?_|refine qpc rfl rfl rfl (m1) ?_|refine qpc rfl rfl rfl (m2) ?_|refine qpc rfl rfl rfl (g1) ?_|refine qpc rfl rfl rfl (g2) ?_|refine qpo rfl rfl rfl rfl rfl rfl (fun _=>m1) ?_|refine qpo rfl rfl rfl rfl rfl rfl (fun _=>m2) ?_|refine qpo rfl rfl rfl rfl rfl rfl (fun _=>g1) ?_|refine qpo rfl rfl rfl rfl rfl rfl (fun _=>g2) ?_|(refine wH ?_;clear hK))
  refine r2 ?_ ?_
  ·exact Sub.refl _
  ·exact Sub.refl _
theorem r24Asked_many (w:List UInt8) (l:List SQ) (r:RowR) (hf:findR asked22 w=some r) (hp:¬(l.length:Int)=r.pts):
  PCalls Tryz.prog 14 [.str w,spotsQ l] (.tuple [ratQ [],.int .i64 13]):=by
 refine pcalls_of_awp tyok cbR24Asked Tryz.func14 rfl rfl ?_
 have m1:=asked22_c
 have m2:=find22_c asked22 w asked22_len
 rw[hf]at m2
 have m2:PCalls Tryz.prog 32 [sl rowE 6 asked22 .view,.str w] (.tuple [.agg (rowE r),.bool true]):=m2
 repeat(first|refine wDB ?_|refine awp_seq_k fun K hK=>?_|refine wN fun bx=>?_|refine qpc rfl rfl rfl (m1) ?_|refine qpc rfl rfl rfl (m2) ?_|refine qpo rfl rfl rfl rfl rfl rfl (fun _=>m1) ?_|refine qpo rfl rfl rfl rfl rfl rfl (fun _=>m2) ?_|(refine wH ?_;clear hK))
 refine r2 ?_ ?_
 ·exact Sub.nilsv _ _
 ·exact Sub.refl _
theorem r24Asked_none (w:List UInt8) (l:List SQ) (hf:findR asked22 w=none):
  PCalls Tryz.prog 14 [.str w,spotsQ l] (.tuple [ratQ [],.int .i64 5]):=by
 refine pcalls_of_awp tyok cbR24Asked Tryz.func14 rfl rfl ?_
 have m1:=asked22_c
 have m2:=find22_c asked22 w asked22_len
 rw[hf]at m2
 have m2:PCalls Tryz.prog 32 [sl rowE 6 asked22 .view,.str w] (.tuple [.agg (rowE (rowD none)),.bool false]):=m2
 repeat(first|refine wDB ?_|refine awp_seq_k fun K hK=>?_|refine wN fun bx=>?_|refine qpc rfl rfl rfl (m1) ?_|refine qpc rfl rfl rfl (m2) ?_|refine qpo rfl rfl rfl rfl rfl rfl (fun _=>m1) ?_|refine qpo rfl rfl rfl rfl rfl rfl (fun _=>m2) ?_|(refine wH ?_;clear hK))
 refine r2 ?_ ?_
 ·exact Sub.nilsv _ _
 ·exact Sub.refl _
theorem r24A_same (k:Nat) (hk:k≤1000) (l:List SQ) (r:RowR) (hf:findR asked22 [115,97,109,101]=some r) (e1:r.pts=2) (h:∀s∈l,SQOk k s) (hl:(l.length:Int)=2):
  PCalls Tryz.prog 14 [.str [115,97,109,101],spotsQ l] (.tuple [ratQ (pf_same.eqs.map (eqQ (sqP l) [])),.int .i64 0]):=by
 rw[pe_same]
 obtain⟨s0,s1,rfl⟩:∃s0 s1,l=[s0,s1]:=by
  match l,hl with
  |[s0,s1],_=>exact⟨s0,s1,rfl⟩
 exact r24Asked_core [115,97,109,101] [s0,s1] r _ [] _ hf (by rw[e1];rfl) (r24few_same k hk s0 s1 (h s0 (by simp)) (h s1 (by simp))) (fun e=>absurd e (by simp)) (.inl ⟨by simp,rfl⟩)
theorem r24A_collinear (k:Nat) (hk:k≤1000) (l:List SQ) (r:RowR) (hf:findR asked22 [99,111,108,108,105,110,101,97,114]=some r) (e1:r.pts=3) (h:∀s∈l,SQOk k s) (hl:(l.length:Int)=3):
  PCalls Tryz.prog 14 [.str [99,111,108,108,105,110,101,97,114],spotsQ l] (.tuple [ratQ (pf_collinear.eqs.map (eqQ (sqP l) [])),.int .i64 0]):=by
 rw[pe_collinear]
 obtain⟨s0,s1,s2,rfl⟩:∃s0 s1 s2,l=[s0,s1,s2]:=by
  match l,hl with
  |[s0,s1,s2],_=>exact⟨s0,s1,s2,rfl⟩
 exact r24Asked_core [99,111,108,108,105,110,101,97,114] [s0,s1,s2] r _ [] _ hf (by rw[e1];rfl) (r24few_collinear k hk s0 s1 s2 (h s0 (by simp)) (h s1 (by simp)) (h s2 (by simp))) (fun e=>absurd e (by simp)) (.inl ⟨by simp,rfl⟩)
theorem r24A_parallel (k:Nat) (hk:k≤1000) (l:List SQ) (r:RowR) (hf:findR asked22 [112,97,114,97,108,108,101,108]=some r) (e1:r.pts=4) (h:∀s∈l,SQOk k s) (hl:(l.length:Int)=4):
  PCalls Tryz.prog 14 [.str [112,97,114,97,108,108,101,108],spotsQ l] (.tuple [ratQ (pf_parallel.eqs.map (eqQ (sqP l) [])),.int .i64 0]):=by
 rw[pe_parallel]
 obtain⟨s0,s1,s2,s3,rfl⟩:∃s0 s1 s2 s3,l=[s0,s1,s2,s3]:=by
  match l,hl with
  |[s0,s1,s2,s3],_=>exact⟨s0,s1,s2,s3,rfl⟩
 exact r24Asked_core [112,97,114,97,108,108,101,108] [s0,s1,s2,s3] r _ [] _ hf (by rw[e1];rfl) (r24few_parallel k hk s0 s1 s2 s3 (h s0 (by simp)) (h s1 (by simp)) (h s2 (by simp)) (h s3 (by simp))) (fun e=>absurd e (by simp)) (.inl ⟨by simp,rfl⟩)
theorem r24A_perpendicular (k:Nat) (hk:k≤1000) (l:List SQ) (r:RowR) (hf:findR asked22 [112,101,114,112,101,110,100,105,99,117,108,97,114]=some r) (e1:r.pts=4) (h:∀s∈l,SQOk k s) (hl:(l.length:Int)=4):
  PCalls Tryz.prog 14 [.str [112,101,114,112,101,110,100,105,99,117,108,97,114],spotsQ l] (.tuple [ratQ (pf_perpendicular.eqs.map (eqQ (sqP l) [])),.int .i64 0]):=by
 rw[pe_perpendicular]
 obtain⟨s0,s1,s2,s3,rfl⟩:∃s0 s1 s2 s3,l=[s0,s1,s2,s3]:=by
  match l,hl with
  |[s0,s1,s2,s3],_=>exact⟨s0,s1,s2,s3,rfl⟩
 exact r24Asked_core [112,101,114,112,101,110,100,105,99,117,108,97,114] [s0,s1,s2,s3] r _ [] _ hf (by rw[e1];rfl) (r24few_perpendicular k hk s0 s1 s2 s3 (h s0 (by simp)) (h s1 (by simp)) (h s2 (by simp)) (h s3 (by simp))) (fun e=>absurd e (by simp)) (.inl ⟨by simp,rfl⟩)
theorem r24A_midpoint (k:Nat) (hk:k≤1000) (l:List SQ) (r:RowR) (hf:findR asked22 [109,105,100,112,111,105,110,116]=some r) (e1:r.pts=3) (h:∀s∈l,SQOk k s) (hl:(l.length:Int)=3):
  PCalls Tryz.prog 14 [.str [109,105,100,112,111,105,110,116],spotsQ l] (.tuple [ratQ (pf_midpoint.eqs.map (eqQ (sqP l) [])),.int .i64 0]):=by
 rw[pe_midpoint]
 obtain⟨s0,s1,s2,rfl⟩:∃s0 s1 s2,l=[s0,s1,s2]:=by
  match l,hl with
  |[s0,s1,s2],_=>exact⟨s0,s1,s2,rfl⟩
 exact r24Asked_core [109,105,100,112,111,105,110,116] [s0,s1,s2] r _ [] _ hf (by rw[e1];rfl) (r24few_midpoint k hk s0 s1 s2 (h s0 (by simp)) (h s1 (by simp)) (h s2 (by simp))) (fun e=>absurd e (by simp)) (.inl ⟨by simp,rfl⟩)
theorem r24A_equal (k:Nat) (hk:k≤1000) (l:List SQ) (r:RowR) (hf:findR asked22 [101,113,117,97,108]=some r) (e1:r.pts=4) (h:∀s∈l,SQOk k s) (hl:(l.length:Int)=4):
  PCalls Tryz.prog 14 [.str [101,113,117,97,108],spotsQ l] (.tuple [ratQ (pf_equal.eqs.map (eqQ (sqP l) [])),.int .i64 0]):=by
 rw[pe_equal]
 obtain⟨s0,s1,s2,s3,rfl⟩:∃s0 s1 s2 s3,l=[s0,s1,s2,s3]:=by
  match l,hl with
  |[s0,s1,s2,s3],_=>exact⟨s0,s1,s2,s3,rfl⟩
 exact r24Asked_core [101,113,117,97,108] [s0,s1,s2,s3] r _ [] _ hf (by rw[e1];rfl) (r24few_equal k hk s0 s1 s2 s3 (h s0 (by simp)) (h s1 (by simp)) (h s2 (by simp)) (h s3 (by simp))) (fun e=>absurd e (by simp)) (.inl ⟨by simp,rfl⟩)
theorem r24A_right (k:Nat) (hk:k≤1000) (l:List SQ) (r:RowR) (hf:findR asked22 [114,105,103,104,116]=some r) (e1:r.pts=3) (h:∀s∈l,SQOk k s) (hl:(l.length:Int)=3):
  PCalls Tryz.prog 14 [.str [114,105,103,104,116],spotsQ l] (.tuple [ratQ (pf_right.eqs.map (eqQ (sqP l) [])),.int .i64 0]):=by
 rw[pe_right]
 obtain⟨s0,s1,s2,rfl⟩:∃s0 s1 s2,l=[s0,s1,s2]:=by
  match l,hl with
  |[s0,s1,s2],_=>exact⟨s0,s1,s2,rfl⟩
 exact r24Asked_core [114,105,103,104,116] [s0,s1,s2] r _ [] _ hf (by rw[e1];rfl) (r24few_right k hk s0 s1 s2 (h s0 (by simp)) (h s1 (by simp)) (h s2 (by simp))) (fun e=>absurd e (by simp)) (.inl ⟨by simp,rfl⟩)
theorem r24A_concyclic (k:Nat) (hk:k≤1000) (l:List SQ) (r:RowR) (hf:findR asked22 [99,111,110,99,121,99,108,105,99]=some r) (e1:r.pts=4) (h:∀s∈l,SQOk k s) (hl:(l.length:Int)=4):
  PCalls Tryz.prog 14 [.str [99,111,110,99,121,99,108,105,99],spotsQ l] (.tuple [ratQ (pf_concyclic.eqs.map (eqQ (sqP l) [])),.int .i64 0]):=by
 rw[pe_concyclic]
 obtain⟨s0,s1,s2,s3,rfl⟩:∃s0 s1 s2 s3,l=[s0,s1,s2,s3]:=by
  match l,hl with
  |[s0,s1,s2,s3],_=>exact⟨s0,s1,s2,s3,rfl⟩
 exact r24Asked_core [99,111,110,99,121,99,108,105,99] [s0,s1,s2,s3] r _ [] _ hf (by rw[e1];rfl) (r24few_concyclic k hk s0 s1 s2 s3 (h s0 (by simp)) (h s1 (by simp)) (h s2 (by simp)) (h s3 (by simp))) (fun e=>absurd e (by simp)) (.inl ⟨by simp,rfl⟩)
theorem r24A_oncircle (k:Nat) (hk:k≤1000) (l:List SQ) (r:RowR) (hf:findR asked22 [111,110,99,105,114,99,108,101]=some r) (e1:r.pts=3) (h:∀s∈l,SQOk k s) (hl:(l.length:Int)=3):
  PCalls Tryz.prog 14 [.str [111,110,99,105,114,99,108,101],spotsQ l] (.tuple [ratQ (pf_oncircle.eqs.map (eqQ (sqP l) [])),.int .i64 0]):=by
 rw[pe_oncircle]
 obtain⟨s0,s1,s2,rfl⟩:∃s0 s1 s2,l=[s0,s1,s2]:=by
  match l,hl with
  |[s0,s1,s2],_=>exact⟨s0,s1,s2,rfl⟩
 exact r24Asked_core [111,110,99,105,114,99,108,101] [s0,s1,s2] r _ [] _ hf (by rw[e1];rfl) (r24few_oncircle k hk s0 s1 s2 (h s0 (by simp)) (h s1 (by simp)) (h s2 (by simp))) (fun e=>absurd e (by simp)) (.inl ⟨by simp,rfl⟩)
theorem r24A_foot (k:Nat) (hk:k≤1000) (l:List SQ) (r:RowR) (hf:findR asked22 [102,111,111,116]=some r) (e1:r.pts=4) (h:∀s∈l,SQOk k s) (hl:(l.length:Int)=4):
  PCalls Tryz.prog 14 [.str [102,111,111,116],spotsQ l] (.tuple [ratQ (pf_foot.eqs.map (eqQ (sqP l) [])),.int .i64 0]):=by
 rw[pe_foot]
 obtain⟨s0,s1,s2,s3,rfl⟩:∃s0 s1 s2 s3,l=[s0,s1,s2,s3]:=by
  match l,hl with
  |[s0,s1,s2,s3],_=>exact⟨s0,s1,s2,s3,rfl⟩
 exact r24Asked_core [102,111,111,116] [s0,s1,s2,s3] r _ [] _ hf (by rw[e1];rfl) (r24few_foot k hk s0 s1 s2 s3 (h s0 (by simp)) (h s1 (by simp)) (h s2 (by simp)) (h s3 (by simp))) (fun e=>absurd e (by simp)) (.inl ⟨by simp,rfl⟩)
theorem r24A_circumcentre (k:Nat) (hk:k≤1000) (l:List SQ) (r:RowR) (hf:findR asked22 [99,105,114,99,117,109,99,101,110,116,114,101]=some r) (e1:r.pts=4) (h:∀s∈l,SQOk k s) (hl:(l.length:Int)=4):
  PCalls Tryz.prog 14 [.str [99,105,114,99,117,109,99,101,110,116,114,101],spotsQ l] (.tuple [ratQ (pf_circumcentre.eqs.map (eqQ (sqP l) [])),.int .i64 0]):=by
 rw[pe_circumcentre]
 obtain⟨s0,s1,s2,s3,rfl⟩:∃s0 s1 s2 s3,l=[s0,s1,s2,s3]:=by
  match l,hl with
  |[s0,s1,s2,s3],_=>exact⟨s0,s1,s2,s3,rfl⟩
 exact r24Asked_core [99,105,114,99,117,109,99,101,110,116,114,101] [s0,s1,s2,s3] r [] _ _ hf (by rw[e1];rfl) (r24few_no [99,105,114,99,117,109,99,101,110,116,114,101] [s0,s1,s2,s3] (by simp)) (fun _=>(r24many_circumcentre k hk s0 s1 s2 s3 (h s0 (by simp)) (h s1 (by simp)) (h s2 (by simp)) (h s3 (by simp)))) (.inr ⟨rfl,rfl⟩)
theorem r24A_orthocentre (k:Nat) (hk:k≤1000) (l:List SQ) (r:RowR) (hf:findR asked22 [111,114,116,104,111,99,101,110,116,114,101]=some r) (e1:r.pts=4) (h:∀s∈l,SQOk k s) (hl:(l.length:Int)=4):
  PCalls Tryz.prog 14 [.str [111,114,116,104,111,99,101,110,116,114,101],spotsQ l] (.tuple [ratQ (pf_orthocentre.eqs.map (eqQ (sqP l) [])),.int .i64 0]):=by
 rw[pe_orthocentre]
 obtain⟨s0,s1,s2,s3,rfl⟩:∃s0 s1 s2 s3,l=[s0,s1,s2,s3]:=by
  match l,hl with
  |[s0,s1,s2,s3],_=>exact⟨s0,s1,s2,s3,rfl⟩
 exact r24Asked_core [111,114,116,104,111,99,101,110,116,114,101] [s0,s1,s2,s3] r [] _ _ hf (by rw[e1];rfl) (r24few_no [111,114,116,104,111,99,101,110,116,114,101] [s0,s1,s2,s3] (by simp)) (fun _=>(r24many_orthocentre k hk s0 s1 s2 s3 (h s0 (by simp)) (h s1 (by simp)) (h s2 (by simp)) (h s3 (by simp)))) (.inr ⟨rfl,rfl⟩)
theorem r24A_centroid (k:Nat) (hk:k≤1000) (l:List SQ) (r:RowR) (hf:findR asked22 [99,101,110,116,114,111,105,100]=some r) (e1:r.pts=4) (h:∀s∈l,SQOk k s) (hl:(l.length:Int)=4):
  PCalls Tryz.prog 14 [.str [99,101,110,116,114,111,105,100],spotsQ l] (.tuple [ratQ (pf_centroid.eqs.map (eqQ (sqP l) [])),.int .i64 0]):=by
 rw[pe_centroid]
 obtain⟨s0,s1,s2,s3,rfl⟩:∃s0 s1 s2 s3,l=[s0,s1,s2,s3]:=by
  match l,hl with
  |[s0,s1,s2,s3],_=>exact⟨s0,s1,s2,s3,rfl⟩
 exact r24Asked_core [99,101,110,116,114,111,105,100] [s0,s1,s2,s3] r [] _ _ hf (by rw[e1];rfl) (r24few_no [99,101,110,116,114,111,105,100] [s0,s1,s2,s3] (by simp)) (fun _=>(r24many_centroid k hk s0 s1 s2 s3 (h s0 (by simp)) (h s1 (by simp)) (h s2 (by simp)) (h s3 (by simp)))) (.inr ⟨rfl,rfl⟩)
theorem r24A_parallelogram (k:Nat) (hk:k≤1000) (l:List SQ) (r:RowR) (hf:findR asked22 [112,97,114,97,108,108,101,108,111,103,114,97,109]=some r) (e1:r.pts=4) (h:∀s∈l,SQOk k s) (hl:(l.length:Int)=4):
  PCalls Tryz.prog 14 [.str [112,97,114,97,108,108,101,108,111,103,114,97,109],spotsQ l] (.tuple [ratQ (pf_parallelogram.eqs.map (eqQ (sqP l) [])),.int .i64 0]):=by
 rw[pe_parallelogram]
 obtain⟨s0,s1,s2,s3,rfl⟩:∃s0 s1 s2 s3,l=[s0,s1,s2,s3]:=by
  match l,hl with
  |[s0,s1,s2,s3],_=>exact⟨s0,s1,s2,s3,rfl⟩
 exact r24Asked_core [112,97,114,97,108,108,101,108,111,103,114,97,109] [s0,s1,s2,s3] r [] _ _ hf (by rw[e1];rfl) (r24few_no [112,97,114,97,108,108,101,108,111,103,114,97,109] [s0,s1,s2,s3] (by simp)) (fun _=>(r24many_parallelogram k hk s0 s1 s2 s3 (h s0 (by simp)) (h s1 (by simp)) (h s2 (by simp)) (h s3 (by simp)))) (.inr ⟨rfl,rfl⟩)
theorem r24A_concurrent (k:Nat) (hk:k≤1000) (l:List SQ) (r:RowR) (hf:findR asked22 [99,111,110,99,117,114,114,101,110,116]=some r) (e1:r.pts=6) (h:∀s∈l,SQOk k s) (hl:(l.length:Int)=6):
  PCalls Tryz.prog 14 [.str [99,111,110,99,117,114,114,101,110,116],spotsQ l] (.tuple [ratQ (pf_concurrent.eqs.map (eqQ (sqP l) [])),.int .i64 0]):=by
 rw[pe_concurrent]
 obtain⟨s0,s1,s2,s3,s4,s5,rfl⟩:∃s0 s1 s2 s3 s4 s5,l=[s0,s1,s2,s3,s4,s5]:=by
  match l,hl with
  |[s0,s1,s2,s3,s4,s5],_=>exact⟨s0,s1,s2,s3,s4,s5,rfl⟩
 exact r24Asked_core [99,111,110,99,117,114,114,101,110,116] [s0,s1,s2,s3,s4,s5] r [] _ _ hf (by rw[e1];rfl) (r24few_no [99,111,110,99,117,114,114,101,110,116] [s0,s1,s2,s3,s4,s5] (by simp)) (fun _=>(r24many_concurrent k hk s0 s1 s2 s3 s4 s5 (h s0 (by simp)) (h s1 (by simp)) (h s2 (by simp)) (h s3 (by simp)) (h s4 (by simp)) (h s5 (by simp)))) (.inr ⟨rfl,rfl⟩)
theorem r24A_angles (k:Nat) (hk:k≤1000) (l:List SQ) (r:RowR) (hf:findR asked22 [97,110,103,108,101,115]=some r) (e1:r.pts=6) (h:∀s∈l,SQOk k s) (hl:(l.length:Int)=6):
  PCalls Tryz.prog 14 [.str [97,110,103,108,101,115],spotsQ l] (.tuple [ratQ (pf_angles.eqs.map (eqQ (sqP l) [])),.int .i64 0]):=by
 rw[pe_angles]
 obtain⟨s0,s1,s2,s3,s4,s5,rfl⟩:∃s0 s1 s2 s3 s4 s5,l=[s0,s1,s2,s3,s4,s5]:=by
  match l,hl with
  |[s0,s1,s2,s3,s4,s5],_=>exact⟨s0,s1,s2,s3,s4,s5,rfl⟩
 exact r24Asked_core [97,110,103,108,101,115] [s0,s1,s2,s3,s4,s5] r [] _ _ hf (by rw[e1];rfl) (r24few_no [97,110,103,108,101,115] [s0,s1,s2,s3,s4,s5] (by simp)) (fun _=>(r24many_angles k hk s0 s1 s2 s3 s4 s5 (h s0 (by simp)) (h s1 (by simp)) (h s2 (by simp)) (h s3 (by simp)) (h s4 (by simp)) (h s5 (by simp)))) (.inr ⟨rfl,rfl⟩)
theorem r24A_product (k:Nat) (hk:k≤1000) (l:List SQ) (r:RowR) (hf:findR asked22 [112,114,111,100,117,99,116]=some r) (e1:r.pts=8) (h:∀s∈l,SQOk k s) (hl:(l.length:Int)=8):
  PCalls Tryz.prog 14 [.str [112,114,111,100,117,99,116],spotsQ l] (.tuple [ratQ (pf_product.eqs.map (eqQ (sqP l) [])),.int .i64 0]):=by
 rw[pe_product]
 obtain⟨s0,s1,s2,s3,s4,s5,s6,s7,rfl⟩:∃s0 s1 s2 s3 s4 s5 s6 s7,l=[s0,s1,s2,s3,s4,s5,s6,s7]:=by
  match l,hl with
  |[s0,s1,s2,s3,s4,s5,s6,s7],_=>exact⟨s0,s1,s2,s3,s4,s5,s6,s7,rfl⟩
 exact r24Asked_core [112,114,111,100,117,99,116] [s0,s1,s2,s3,s4,s5,s6,s7] r [] _ _ hf (by rw[e1];rfl) (r24few_no [112,114,111,100,117,99,116] [s0,s1,s2,s3,s4,s5,s6,s7] (by simp)) (fun _=>(r24many_product k hk s0 s1 s2 s3 s4 s5 s6 s7 (h s0 (by simp)) (h s1 (by simp)) (h s2 (by simp)) (h s3 (by simp)) (h s4 (by simp)) (h s5 (by simp)) (h s6 (by simp)) (h s7 (by simp)))) (.inr ⟨rfl,rfl⟩)
theorem r24A_tangent (k:Nat) (hk:k≤1000) (l:List SQ) (r:RowR) (hf:findR asked22 [116,97,110,103,101,110,116]=some r) (e1:r.pts=4) (h:∀s∈l,SQOk k s) (hl:(l.length:Int)=4):
  PCalls Tryz.prog 14 [.str [116,97,110,103,101,110,116],spotsQ l] (.tuple [ratQ (pf_tangent.eqs.map (eqQ (sqP l) [])),.int .i64 0]):=by
 rw[pe_tangent]
 obtain⟨s0,s1,s2,s3,rfl⟩:∃s0 s1 s2 s3,l=[s0,s1,s2,s3]:=by
  match l,hl with
  |[s0,s1,s2,s3],_=>exact⟨s0,s1,s2,s3,rfl⟩
 exact r24Asked_core [116,97,110,103,101,110,116] [s0,s1,s2,s3] r [] _ _ hf (by rw[e1];rfl) (r24few_no [116,97,110,103,101,110,116] [s0,s1,s2,s3] (by simp)) (fun _=>(r24many_tangent k hk s0 s1 s2 s3 (h s0 (by simp)) (h s1 (by simp)) (h s2 (by simp)) (h s3 (by simp)))) (.inr ⟨rfl,rfl⟩)
theorem r24A_isosceles (k:Nat) (hk:k≤1000) (l:List SQ) (r:RowR) (hf:findR asked22 [105,115,111,115,99,101,108,101,115]=some r) (e1:r.pts=3) (h:∀s∈l,SQOk k s) (hl:(l.length:Int)=3):
  PCalls Tryz.prog 14 [.str [105,115,111,115,99,101,108,101,115],spotsQ l] (.tuple [ratQ (pf_isosceles.eqs.map (eqQ (sqP l) [])),.int .i64 0]):=by
 rw[pe_isosceles]
 obtain⟨s0,s1,s2,rfl⟩:∃s0 s1 s2,l=[s0,s1,s2]:=by
  match l,hl with
  |[s0,s1,s2],_=>exact⟨s0,s1,s2,rfl⟩
 exact r24Asked_core [105,115,111,115,99,101,108,101,115] [s0,s1,s2] r [] _ _ hf (by rw[e1];rfl) (r24few_no [105,115,111,115,99,101,108,101,115] [s0,s1,s2] (by simp)) (fun _=>(r24many_isosceles k hk s0 s1 s2 (h s0 (by simp)) (h s1 (by simp)) (h s2 (by simp)))) (.inr ⟨rfl,rfl⟩)
theorem r24A_harmonic (k:Nat) (hk:k≤1000) (l:List SQ) (r:RowR) (hf:findR asked22 [104,97,114,109,111,110,105,99]=some r) (e1:r.pts=4) (h:∀s∈l,SQOk k s) (hl:(l.length:Int)=4):
  PCalls Tryz.prog 14 [.str [104,97,114,109,111,110,105,99],spotsQ l] (.tuple [ratQ (pf_harmonic.eqs.map (eqQ (sqP l) [])),.int .i64 0]):=by
 rw[pe_harmonic]
 obtain⟨s0,s1,s2,s3,rfl⟩:∃s0 s1 s2 s3,l=[s0,s1,s2,s3]:=by
  match l,hl with
  |[s0,s1,s2,s3],_=>exact⟨s0,s1,s2,s3,rfl⟩
 exact r24Asked_core [104,97,114,109,111,110,105,99] [s0,s1,s2,s3] r [] _ _ hf (by rw[e1];rfl) (r24few_no [104,97,114,109,111,110,105,99] [s0,s1,s2,s3] (by simp)) (fun _=>(r24many_harmonic k hk s0 s1 s2 s3 (h s0 (by simp)) (h s1 (by simp)) (h s2 (by simp)) (h s3 (by simp)))) (.inr ⟨rfl,rfl⟩)
noncomputable def madeV (w:List UInt8) (n:Nat) (P:Nat→Rat×Rat) (nums:List Int):List Rat×Int:=
 match conF w with
 |none=>([],5)
 |some f=>if(n:Int)=f.pts∧(nums.length:Int)=f.nums then(f.eqs.map (eqQ P nums),0) else([],13)
noncomputable def askedV (w:List UInt8) (n:Nat) (P:Nat→Rat×Rat):List Rat×Int:=
 match preF w with
 |none=>([],5)
 |some f=>if(n:Int)=f.pts then(f.eqs.map (eqQ P []),0) else([],13)
theorem madeV_eq (w:List UInt8) (p:SpotR) (l:List SpotR) (nums:List Int):madeQ w p l nums=madeV w l.length (spP (p::l)) nums:=rfl
theorem askedV_eq (w:List UInt8) (l:List SpotR):askedQ w l=askedV w l.length (spP l):=rfl
theorem r24Made_c (k:Nat) (w:List UInt8) (p:SQ) (l:List SQ) (nums:List Int) (hk:k≤1000) (hp:SQOk k p) (h:∀s∈l,SQOk k s) (hN:∀m∈nums,-9223372036854775808≤m∧m≤9223372036854775807):
  PCalls Tryz.prog 10 [.str w,.agg (sqE p),spotsQ l,nums30 nums] (.tuple [ratQ (madeV w l.length (sqP (p::l)) nums).1,.int .i64 (madeV w l.length (sqP (p::l)) nums).2]):=by
 unfold madeV
 rcases con_row w with⟨h1,h2⟩|⟨r,f,h1,h2,ht,_,_⟩
 ·rw[h2]
  exact r24Made_none w p l nums h1
 ·rw[h2]
  simp only
  by_cases hc:(l.length:Int)=f.pts∧(nums.length:Int)=f.nums
  ·rw[if_pos hc]
   obtain⟨hm,hw⟩:=con_mem h2
   have t1:=ht.pts
   have t2:=ht.nums
   subst hw
   simp only[conL,List.mem_cons,List.mem_nil_iff,or_false]at hm
   rcases hm with rfl|rfl|rfl|rfl|rfl|rfl|rfl|rfl|rfl|rfl|rfl|rfl|rfl|rfl|rfl|rfl|rfl|rfl|rfl|rfl|rfl|rfl|rfl|rfl|rfl|rfl|rfl|rfl|rfl
   ·exact r24M_on k hk p l nums r h1 t1.symm t2.symm hp h hN hc.1 hc.2
   ·exact r24M_onpar k hk p l nums r h1 t1.symm t2.symm hp h hN hc.1 hc.2
   ·exact r24M_onperp k hk p l nums r h1 t1.symm t2.symm hp h hN hc.1 hc.2
   ·exact r24M_onbis k hk p l nums r h1 t1.symm t2.symm hp h hN hc.1 hc.2
   ·exact r24M_oncircle k hk p l nums r h1 t1.symm t2.symm hp h hN hc.1 hc.2
   ·exact r24M_ondiam k hk p l nums r h1 t1.symm t2.symm hp h hN hc.1 hc.2
   ·exact r24M_oncirc k hk p l nums r h1 t1.symm t2.symm hp h hN hc.1 hc.2
   ·exact r24M_tangent k hk p l nums r h1 t1.symm t2.symm hp h hN hc.1 hc.2
   ·exact r24M_midpoint k hk p l nums r h1 t1.symm t2.symm hp h hN hc.1 hc.2
   ·exact r24M_reflect k hk p l nums r h1 t1.symm t2.symm hp h hN hc.1 hc.2
   ·exact r24M_centroid k hk p l nums r h1 t1.symm t2.symm hp h hN hc.1 hc.2
   ·exact r24M_translate k hk p l nums r h1 t1.symm t2.symm hp h hN hc.1 hc.2
   ·exact r24M_turn k hk p l nums r h1 t1.symm t2.symm hp h hN hc.1 hc.2
   ·exact r24M_ratio k hk p l nums r h1 t1.symm t2.symm hp h hN hc.1 hc.2
   ·exact r24M_foot k hk p l nums r h1 t1.symm t2.symm hp h hN hc.1 hc.2
   ·exact r24M_mirror k hk p l nums r h1 t1.symm t2.symm hp h hN hc.1 hc.2
   ·exact r24M_meet k hk p l nums r h1 t1.symm t2.symm hp h hN hc.1 hc.2
   ·exact r24M_parmeet k hk p l nums r h1 t1.symm t2.symm hp h hN hc.1 hc.2
   ·exact r24M_perpmeet k hk p l nums r h1 t1.symm t2.symm hp h hN hc.1 hc.2
   ·exact r24M_parpar k hk p l nums r h1 t1.symm t2.symm hp h hN hc.1 hc.2
   ·exact r24M_perpperp k hk p l nums r h1 t1.symm t2.symm hp h hN hc.1 hc.2
   ·exact r24M_parperp k hk p l nums r h1 t1.symm t2.symm hp h hN hc.1 hc.2
   ·exact r24M_bimeet k hk p l nums r h1 t1.symm t2.symm hp h hN hc.1 hc.2
   ·exact r24M_bisbis k hk p l nums r h1 t1.symm t2.symm hp h hN hc.1 hc.2
   ·exact r24M_circumcentre k hk p l nums r h1 t1.symm t2.symm hp h hN hc.1 hc.2
   ·exact r24M_orthocentre k hk p l nums r h1 t1.symm t2.symm hp h hN hc.1 hc.2
   ·exact r24M_second k hk p l nums r h1 t1.symm t2.symm hp h hN hc.1 hc.2
   ·exact r24M_other k hk p l nums r h1 t1.symm t2.symm hp h hN hc.1 hc.2
   ·exact r24M_inverse k hk p l nums r h1 t1.symm t2.symm hp h hN hc.1 hc.2
  ·rw[if_neg hc]
   exact r24Made_many w p l nums r h1 (by rw[←ht.pts,←ht.nums];exact hc)
theorem r24Asked_c (k:Nat) (w:List UInt8) (l:List SQ) (hk:k≤1000) (h:∀s∈l,SQOk k s):
  PCalls Tryz.prog 14 [.str w,spotsQ l] (.tuple [ratQ (askedV w l.length (sqP l)).1,.int .i64 (askedV w l.length (sqP l)).2]):=by
 unfold askedV
 rcases pre_row w with⟨h1,h2⟩|⟨r,f,h1,h2,ht,_,_⟩
 ·rw[h2]
  exact r24Asked_none w l h1
 ·rw[h2]
  simp only
  by_cases hc:(l.length:Int)=f.pts
  ·rw[if_pos hc]
   obtain⟨hm,hw⟩:=pre_mem h2
   have t1:=ht.pts
   subst hw
   simp only[preL,List.mem_cons,List.mem_nil_iff,or_false]at hm
   rcases hm with rfl|rfl|rfl|rfl|rfl|rfl|rfl|rfl|rfl|rfl|rfl|rfl|rfl|rfl|rfl|rfl|rfl|rfl|rfl|rfl
   ·exact r24A_same k hk l r h1 t1.symm h hc
   ·exact r24A_collinear k hk l r h1 t1.symm h hc
   ·exact r24A_parallel k hk l r h1 t1.symm h hc
   ·exact r24A_perpendicular k hk l r h1 t1.symm h hc
   ·exact r24A_midpoint k hk l r h1 t1.symm h hc
   ·exact r24A_equal k hk l r h1 t1.symm h hc
   ·exact r24A_right k hk l r h1 t1.symm h hc
   ·exact r24A_concyclic k hk l r h1 t1.symm h hc
   ·exact r24A_oncircle k hk l r h1 t1.symm h hc
   ·exact r24A_foot k hk l r h1 t1.symm h hc
   ·exact r24A_circumcentre k hk l r h1 t1.symm h hc
   ·exact r24A_orthocentre k hk l r h1 t1.symm h hc
   ·exact r24A_centroid k hk l r h1 t1.symm h hc
   ·exact r24A_parallelogram k hk l r h1 t1.symm h hc
   ·exact r24A_concurrent k hk l r h1 t1.symm h hc
   ·exact r24A_angles k hk l r h1 t1.symm h hc
   ·exact r24A_product k hk l r h1 t1.symm h hc
   ·exact r24A_tangent k hk l r h1 t1.symm h hc
   ·exact r24A_isosceles k hk l r h1 t1.symm h hc
   ·exact r24A_harmonic k hk l r h1 t1.symm h hc
  ·rw[if_neg hc]
   exact r24Asked_many w l r h1 (by rw[←ht.pts];exact hc)
end Go.Proofs.YthfglhjdnpoepaaGreatDoor
