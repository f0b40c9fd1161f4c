/-
  The document's values of layer 24: predicates (printed by gen24.py)
-/
import Derived.Test.YthfglhjdnpoepaaGreatDoorSr1
set_option maxRecDepth 100000
set_option maxHeartbeats 12800000
namespace Go.Proofs.YthfglhjdnpoepaaGreatDoor
open Go.Ab
theorem cbR24few:Callable Tryz.prog 39:=fun _ _=>by kernel_rfl
theorem r24few_same (k:Nat) (hk:k≤1000) (s0 s1:SQ) (h0:SQOk k s0) (h1:SQOk k s1):
  PCalls Tryz.prog 39 [.str [115,97,109,101],spotsQ [s0,s1]] (ratQ [wx s0.p s1.p,wy s0.p s1.p]):=by
 refine pcalls_of_awp tyok cbR24few Tryz.func39 rfl rfl ?_
 have g1:=r24x_c k s0 s1 (by omega) h0 h1
 have g2:=r24y_c k s0 s1 (by omega) h0 h1
 repeat(first|refine wKB ?_|refine awp_seq_k fun K hK=>?_|refine wN fun bx=>?_|(refine wH ?_;clear hK))
 refine areg_soft mixed tyok [6,13] [(14,[])] (List.range 16) (by decide +kernel) ?_
 repeat(first|refine wDB ?_|refine awp_seq_k fun K hK=>?_|refine wN fun bx=>?_|refine qpc rfl rfl rfl (g1) ?_|refine qpc rfl rfl rfl (g2) ?_|refine qpo rfl rfl rfl rfl rfl rfl (fun _=>g1) ?_|refine qpo rfl rfl rfl rfl rfl rfl (fun _=>g2) ?_|(refine wH ?_;clear hK))
 refine r1 ?_
 exact(Sub.view _ _ _ _).trans (Sub.els fun i hi=>match i,hi with
  |0,_=>SubL.refl _
  |1,_=>SubL.refl _)
theorem r24few_collinear (k:Nat) (hk:k≤1000) (s0 s1 s2:SQ) (h0:SQOk k s0) (h1:SQOk k s1) (h2:SQOk k s2):
  PCalls Tryz.prog 39 [.str [99,111,108,108,105,110,101,97,114],spotsQ [s0,s1,s2]] (ratQ [crossQ s0.p s1.p s0.p s2.p]):=by
 refine pcalls_of_awp tyok cbR24few Tryz.func39 rfl rfl ?_
 have g1:=r24cross_c k s0 s1 s0 s2 hk h0 h1 h0 h2
 repeat(first|refine wKB ?_|refine awp_seq_k fun K hK=>?_|refine wN fun bx=>?_|(refine wH ?_;clear hK))
 refine areg_soft mixed tyok [12] [(13,[])] (List.range 15) (by decide +kernel) ?_
 repeat(first|refine wDB ?_|refine awp_seq_k fun K hK=>?_|refine wN fun bx=>?_|refine qpc rfl rfl rfl (g1) ?_|refine qpo rfl rfl rfl rfl rfl rfl (fun _=>g1) ?_|(refine wH ?_;clear hK))
 refine r1 ?_
 exact(Sub.view _ _ _ _).trans (Sub.els fun i hi=>match i,hi with
  |0,_=>SubL.refl _)
theorem r24few_parallel (k:Nat) (hk:k≤1000) (s0 s1 s2 s3:SQ) (h0:SQOk k s0) (h1:SQOk k s1) (h2:SQOk k s2) (h3:SQOk k s3):
  PCalls Tryz.prog 39 [.str [112,97,114,97,108,108,101,108],spotsQ [s0,s1,s2,s3]] (ratQ [crossQ s0.p s1.p s2.p s3.p]):=by
 refine pcalls_of_awp tyok cbR24few Tryz.func39 rfl rfl ?_
 have g1:=r24cross_c k s0 s1 s2 s3 hk h0 h1 h2 h3
 repeat(first|refine wKB ?_|refine awp_seq_k fun K hK=>?_|refine wN fun bx=>?_|(refine wH ?_;clear hK))
 refine areg_soft mixed tyok [12] [(13,[])] (List.range 15) (by decide +kernel) ?_
 repeat(first|refine wDB ?_|refine awp_seq_k fun K hK=>?_|refine wN fun bx=>?_|refine qpc rfl rfl rfl (g1) ?_|refine qpo rfl rfl rfl rfl rfl rfl (fun _=>g1) ?_|(refine wH ?_;clear hK))
 refine r1 ?_
 exact(Sub.view _ _ _ _).trans (Sub.els fun i hi=>match i,hi with
  |0,_=>SubL.refl _)
theorem r24few_perpendicular (k:Nat) (hk:k≤1000) (s0 s1 s2 s3:SQ) (h0:SQOk k s0) (h1:SQOk k s1) (h2:SQOk k s2) (h3:SQOk k s3):
  PCalls Tryz.prog 39 [.str [112,101,114,112,101,110,100,105,99,117,108,97,114],spotsQ [s0,s1,s2,s3]] (ratQ [dotQ s0.p s1.p s2.p s3.p]):=by
 refine pcalls_of_awp tyok cbR24few Tryz.func39 rfl rfl ?_
 have g1:=r24dot_c k s0 s1 s2 s3 hk h0 h1 h2 h3
 repeat(first|refine wKB ?_|refine awp_seq_k fun K hK=>?_|refine wN fun bx=>?_|(refine wH ?_;clear hK))
 refine areg_soft mixed tyok [12] [(13,[])] (List.range 15) (by decide +kernel) ?_
 repeat(first|refine wDB ?_|refine awp_seq_k fun K hK=>?_|refine wN fun bx=>?_|refine qpc rfl rfl rfl (g1) ?_|refine qpo rfl rfl rfl rfl rfl rfl (fun _=>g1) ?_|(refine wH ?_;clear hK))
 refine r1 ?_
 exact(Sub.view _ _ _ _).trans (Sub.els fun i hi=>match i,hi with
  |0,_=>SubL.refl _)
theorem r24few_midpoint (k:Nat) (hk:k≤1000) (s0 s1 s2:SQ) (h0:SQOk k s0) (h1:SQOk k s1) (h2:SQOk k s2):
  PCalls Tryz.prog 39 [.str [109,105,100,112,111,105,110,116],spotsQ [s0,s1,s2]] (ratQ [(wx s1.p s0.p)+(wx s2.p s0.p),(wy s1.p s0.p)+(wy s2.p s0.p)]):=by
 refine pcalls_of_awp tyok cbR24few Tryz.func39 rfl rfl ?_
 have q1:=h1.p.wx h0.p
 have g1:=r24x_c k s1 s0 (by omega) h1 h0
 have q2:=h2.p.wx h0.p
 have g2:=r24x_c k s2 s0 (by omega) h2 h0
 have g3:=r24add_c (2*k+1) (by omega) q1 q2 (by omega) (by omega)
 have q4:=h1.p.wy h0.p
 have g4:=r24y_c k s1 s0 (by omega) h1 h0
 have q5:=h2.p.wy h0.p
 have g5:=r24y_c k s2 s0 (by omega) h2 h0
 have g6:=r24add_c (2*k+1) (by omega) q4 q5 (by omega) (by omega)
 repeat(first|refine wKB ?_|refine awp_seq_k fun K hK=>?_|refine wN fun bx=>?_|(refine wH ?_;clear hK))
 refine areg_soft mixed tyok [6,13,14,21,28,29] [(30,[])] (List.range 32) (by decide +kernel) ?_
 repeat(first|refine wDB ?_|refine awp_seq_k fun K hK=>?_|refine wN fun bx=>?_|refine qpc rfl rfl rfl (g1) ?_|refine qpc rfl rfl rfl (g2) ?_|refine qpc rfl rfl rfl (g3) ?_|refine qpc rfl rfl rfl (g4) ?_|refine qpc rfl rfl rfl (g5) ?_|refine qpc rfl rfl rfl (g6) ?_|refine qpo rfl rfl rfl rfl rfl rfl (fun _=>g1) ?_|refine qpo rfl rfl rfl rfl rfl rfl (fun _=>g2) ?_|refine qpo rfl rfl rfl rfl rfl rfl (fun _=>g3) ?_|refine qpo rfl rfl rfl rfl rfl rfl (fun _=>g4) ?_|refine qpo rfl rfl rfl rfl rfl rfl (fun _=>g5) ?_|refine qpo rfl rfl rfl rfl rfl rfl (fun _=>g6) ?_|(refine wH ?_;clear hK))
 refine r1 ?_
 exact(Sub.view _ _ _ _).trans (Sub.els fun i hi=>match i,hi with
  |0,_=>SubL.refl _
  |1,_=>SubL.refl _)
theorem r24few_equal (k:Nat) (hk:k≤1000) (s0 s1 s2 s3:SQ) (h0:SQOk k s0) (h1:SQOk k s1) (h2:SQOk k s2) (h3:SQOk k s3):
  PCalls Tryz.prog 39 [.str [101,113,117,97,108],spotsQ [s0,s1,s2,s3]] (ratQ [(dotQ s0.p s1.p s0.p s1.p)-(dotQ s2.p s3.p s2.p s3.p)]):=by
 refine pcalls_of_awp tyok cbR24few Tryz.func39 rfl rfl ?_
 have q1:=h0.p.dot h1.p h0.p h1.p
 have g1:=r24dot_c k s0 s1 s0 s1 hk h0 h1 h0 h1
 have q2:=h2.p.dot h3.p h2.p h3.p
 have g2:=r24dot_c k s2 s3 s2 s3 hk h2 h3 h2 h3
 have g3:=r24sub_c (8*k+5) (by omega) q1 q2 (by omega) (by omega)
 repeat(first|refine wKB ?_|refine awp_seq_k fun K hK=>?_|refine wN fun bx=>?_|(refine wH ?_;clear hK))
 refine areg_soft mixed tyok [12,25,26] [(27,[])] (List.range 29) (by decide +kernel) ?_
 repeat(first|refine wDB ?_|refine awp_seq_k fun K hK=>?_|refine wN fun bx=>?_|refine qpc rfl rfl rfl (g1) ?_|refine qpc rfl rfl rfl (g2) ?_|refine qpc rfl rfl rfl (g3) ?_|refine qpo rfl rfl rfl rfl rfl rfl (fun _=>g1) ?_|refine qpo rfl rfl rfl rfl rfl rfl (fun _=>g2) ?_|refine qpo rfl rfl rfl rfl rfl rfl (fun _=>g3) ?_|(refine wH ?_;clear hK))
 refine r1 ?_
 exact(Sub.view _ _ _ _).trans (Sub.els fun i hi=>match i,hi with
  |0,_=>SubL.refl _)
theorem r24few_right (k:Nat) (hk:k≤1000) (s0 s1 s2:SQ) (h0:SQOk k s0) (h1:SQOk k s1) (h2:SQOk k s2):
  PCalls Tryz.prog 39 [.str [114,105,103,104,116],spotsQ [s0,s1,s2]] (ratQ [dotQ s1.p s0.p s1.p s2.p]):=by
 refine pcalls_of_awp tyok cbR24few Tryz.func39 rfl rfl ?_
 have g1:=r24dot_c k s1 s0 s1 s2 hk h1 h0 h1 h2
 repeat(first|refine wKB ?_|refine awp_seq_k fun K hK=>?_|refine wN fun bx=>?_|(refine wH ?_;clear hK))
 refine areg_soft mixed tyok [12] [(13,[])] (List.range 15) (by decide +kernel) ?_
 repeat(first|refine wDB ?_|refine awp_seq_k fun K hK=>?_|refine wN fun bx=>?_|refine qpc rfl rfl rfl (g1) ?_|refine qpo rfl rfl rfl rfl rfl rfl (fun _=>g1) ?_|(refine wH ?_;clear hK))
 refine r1 ?_
 exact(Sub.view _ _ _ _).trans (Sub.els fun i hi=>match i,hi with
  |0,_=>SubL.refl _)
theorem r24few_concyclic (k:Nat) (hk:k≤1000) (s0 s1 s2 s3:SQ) (h0:SQOk k s0) (h1:SQOk k s1) (h2:SQOk k s2) (h3:SQOk k s3):
  PCalls Tryz.prog 39 [.str [99,111,110,99,121,99,108,105,99],spotsQ [s0,s1,s2,s3]] (ratQ [((crossQ s3.p s0.p s3.p s1.p)*(dotQ s2.p s0.p s2.p s1.p))-((dotQ s3.p s0.p s3.p s1.p)*(crossQ s2.p s0.p s2.p s1.p))]):=by
 refine pcalls_of_awp tyok cbR24few Tryz.func39 rfl rfl ?_
 have q1:=h3.p.cross h0.p h3.p h1.p
 have g1:=r24cross_c k s3 s0 s3 s1 hk h3 h0 h3 h1
 have q2:=h2.p.dot h0.p h2.p h1.p
 have g2:=r24dot_c k s2 s0 s2 s1 hk h2 h0 h2 h1
 have q3:=q1.mul q2
 have g3:=r24mul_c (8*k+5) (by omega) q1 q2 (by omega) (by omega)
 have q4:=h3.p.dot h0.p h3.p h1.p
 have g4:=r24dot_c k s3 s0 s3 s1 hk h3 h0 h3 h1
 have q5:=h2.p.cross h0.p h2.p h1.p
 have g5:=r24cross_c k s2 s0 s2 s1 hk h2 h0 h2 h1
 have q6:=q4.mul q5
 have g6:=r24mul_c (8*k+5) (by omega) q4 q5 (by omega) (by omega)
 have g7:=r24sub_c (16*k+10) (by omega) q3 q6 (by omega) (by omega)
 repeat(first|refine wKB ?_|refine awp_seq_k fun K hK=>?_|refine wN fun bx=>?_|(refine wH ?_;clear hK))
 refine areg_soft mixed tyok [12,25,26,39,52,53,54] [(55,[])] (List.range 57) (by decide +kernel) ?_
 repeat(first|refine wDB ?_|refine awp_seq_k fun K hK=>?_|refine wN fun bx=>?_|refine qpc rfl rfl rfl (g1) ?_|refine qpc rfl rfl rfl (g2) ?_|refine qpc rfl rfl rfl (g3) ?_|refine qpc rfl rfl rfl (g4) ?_|refine qpc rfl rfl rfl (g5) ?_|refine qpc rfl rfl rfl (g6) ?_|refine qpc rfl rfl rfl (g7) ?_|refine qpo rfl rfl rfl rfl rfl rfl (fun _=>g1) ?_|refine qpo rfl rfl rfl rfl rfl rfl (fun _=>g2) ?_|refine qpo rfl rfl rfl rfl rfl rfl (fun _=>g3) ?_|refine qpo rfl rfl rfl rfl rfl rfl (fun _=>g4) ?_|refine qpo rfl rfl rfl rfl rfl rfl (fun _=>g5) ?_|refine qpo rfl rfl rfl rfl rfl rfl (fun _=>g6) ?_|refine qpo rfl rfl rfl rfl rfl rfl (fun _=>g7) ?_|(refine wH ?_;clear hK))
 refine r1 ?_
 exact(Sub.view _ _ _ _).trans (Sub.els fun i hi=>match i,hi with
  |0,_=>SubL.refl _)
theorem r24few_oncircle (k:Nat) (hk:k≤1000) (s0 s1 s2:SQ) (h0:SQOk k s0) (h1:SQOk k s1) (h2:SQOk k s2):
  PCalls Tryz.prog 39 [.str [111,110,99,105,114,99,108,101],spotsQ [s0,s1,s2]] (ratQ [(dotQ s1.p s0.p s1.p s0.p)-(dotQ s1.p s2.p s1.p s2.p)]):=by
 refine pcalls_of_awp tyok cbR24few Tryz.func39 rfl rfl ?_
 have q1:=h1.p.dot h0.p h1.p h0.p
 have g1:=r24dot_c k s1 s0 s1 s0 hk h1 h0 h1 h0
 have q2:=h1.p.dot h2.p h1.p h2.p
 have g2:=r24dot_c k s1 s2 s1 s2 hk h1 h2 h1 h2
 have g3:=r24sub_c (8*k+5) (by omega) q1 q2 (by omega) (by omega)
 repeat(first|refine wKB ?_|refine awp_seq_k fun K hK=>?_|refine wN fun bx=>?_|(refine wH ?_;clear hK))
 refine areg_soft mixed tyok [12,25,26] [(27,[])] (List.range 29) (by decide +kernel) ?_
 repeat(first|refine wDB ?_|refine awp_seq_k fun K hK=>?_|refine wN fun bx=>?_|refine qpc rfl rfl rfl (g1) ?_|refine qpc rfl rfl rfl (g2) ?_|refine qpc rfl rfl rfl (g3) ?_|refine qpo rfl rfl rfl rfl rfl rfl (fun _=>g1) ?_|refine qpo rfl rfl rfl rfl rfl rfl (fun _=>g2) ?_|refine qpo rfl rfl rfl rfl rfl rfl (fun _=>g3) ?_|(refine wH ?_;clear hK))
 refine r1 ?_
 exact(Sub.view _ _ _ _).trans (Sub.els fun i hi=>match i,hi with
  |0,_=>SubL.refl _)
theorem r24few_foot (k:Nat) (hk:k≤1000) (s0 s1 s2 s3:SQ) (h0:SQOk k s0) (h1:SQOk k s1) (h2:SQOk k s2) (h3:SQOk k s3):
  PCalls Tryz.prog 39 [.str [102,111,111,116],spotsQ [s0,s1,s2,s3]] (ratQ [crossQ s2.p s0.p s2.p s3.p,dotQ s1.p s0.p s2.p s3.p]):=by
 refine pcalls_of_awp tyok cbR24few Tryz.func39 rfl rfl ?_
 have g1:=r24cross_c k s2 s0 s2 s3 hk h2 h0 h2 h3
 have g2:=r24dot_c k s1 s0 s2 s3 hk h1 h0 h2 h3
 repeat(first|refine wKB ?_|refine awp_seq_k fun K hK=>?_|refine wN fun bx=>?_|(refine wH ?_;clear hK))
 refine areg_soft mixed tyok [12,25] [(26,[])] (List.range 28) (by decide +kernel) ?_
 repeat(first|refine wDB ?_|refine awp_seq_k fun K hK=>?_|refine wN fun bx=>?_|refine qpc rfl rfl rfl (g1) ?_|refine qpc rfl rfl rfl (g2) ?_|refine qpo rfl rfl rfl rfl rfl rfl (fun _=>g1) ?_|refine qpo rfl rfl rfl rfl rfl rfl (fun _=>g2) ?_|(refine wH ?_;clear hK))
 refine r1 ?_
 exact(Sub.view _ _ _ _).trans (Sub.els fun i hi=>match i,hi with
  |0,_=>SubL.refl _
  |1,_=>SubL.refl _)
theorem r24few_no (w:List UInt8) (l:List SQ) (hw:w∈([[99,105,114,99,117,109,99,101,110,116,114,101],[111,114,116,104,111,99,101,110,116,114,101],[99,101,110,116,114,111,105,100],[112,97,114,97,108,108,101,108,111,103,114,97,109],[99,111,110,99,117,114,114,101,110,116],[97,110,103,108,101,115],[112,114,111,100,117,99,116],[116,97,110,103,101,110,116],[105,115,111,115,99,101,108,101,115],[104,97,114,109,111,110,105,99]]:List (List UInt8))):PCalls Tryz.prog 39 [.str w,spotsQ l] (ratQ []):=by
 refine pcalls_of_awp tyok cbR24few Tryz.func39 rfl rfl ?_
 simp only[List.mem_cons,List.mem_nil_iff,or_false]at hw
 rcases hw with rfl|rfl|rfl|rfl|rfl|rfl|rfl|rfl|rfl|rfl
 all_goals
  repeat(first|refine wKB ?_|refine awp_seq_k fun K hK=>?_|refine wN fun bx=>?_|(refine wH ?_;clear hK))
  refine r1 ?_
  exact Sub.nilsv _ _
end Go.Proofs.YthfglhjdnpoepaaGreatDoor
