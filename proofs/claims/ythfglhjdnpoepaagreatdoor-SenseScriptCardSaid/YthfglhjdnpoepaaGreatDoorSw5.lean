/-
  The document's values of layer 24: all other predicates (printed by gen24.py)
-/
import Derived.Test.YthfglhjdnpoepaaGreatDoorSr1
set_option maxRecDepth 100000
set_option maxHeartbeats 6400000
namespace Go.Proofs.YthfglhjdnpoepaaGreatDoor
open Go.Ab
theorem cbR24many:Callable Tryz.prog 40:=fun _ _=>by kernel_rfl
theorem r24many_circumcentre (k:Nat) (hk:k≤1000) (s0 s1 s2 s3:SQ) (h0:SQOk k s0) (h1:SQOk k s1) (h2:SQOk k s2) (h3:SQOk k s3):
  PCalls Tryz.prog 40 [.str [99,105,114,99,117,109,99,101,110,116,114,101],spotsQ [s0,s1,s2,s3]] (ratQ [(dotQ s1.p s0.p s1.p s0.p)-(dotQ s2.p s0.p s2.p s0.p),(dotQ s1.p s0.p s1.p s0.p)-(dotQ s3.p s0.p s3.p s0.p)]):=by
 refine pcalls_of_awp tyok cbR24many Tryz.func40 rfl rfl ?_
 have q1:=h1.p.dot h0.p h1.p h0.p
 have g1:=r24dot_c k s1 s0 s1 s0 hk h1 h0 h1 h0
 have q2:=h2.p.dot h0.p h2.p h0.p
 have g2:=r24dot_c k s2 s0 s2 s0 hk h2 h0 h2 h0
 have g3:=r24sub_c (8*k+5) (by omega) q1 q2 (by omega) (by omega)
 have q4:=h3.p.dot h0.p h3.p h0.p
 have g4:=r24dot_c k s3 s0 s3 s0 hk h3 h0 h3 h0
 have g5:=r24sub_c (8*k+5) (by omega) q1 q4 (by omega) (by omega)
 repeat(first|refine wKB ?_|refine awp_seq_k fun K hK=>?_|refine wN fun bx=>?_|(refine wH ?_;clear hK))
 refine areg_soft mixed tyok [12,25,26,39,52,53] [(54,[])] (List.range 56) (by decide +kernel) ?_
 repeat(first|refine wDB ?_|refine awp_seq_k fun K hK=>?_|refine wN fun bx=>?_|refine qpc rfl rfl rfl (g1) ?_|refine qpc rfl rfl rfl (g2) ?_|refine qpc rfl rfl rfl (g3) ?_|refine qpc rfl rfl rfl (g4) ?_|refine qpc rfl rfl rfl (g5) ?_|refine qpo rfl rfl rfl rfl rfl rfl (fun _=>g1) ?_|refine qpo rfl rfl rfl rfl rfl rfl (fun _=>g2) ?_|refine qpo rfl rfl rfl rfl rfl rfl (fun _=>g3) ?_|refine qpo rfl rfl rfl rfl rfl rfl (fun _=>g4) ?_|refine qpo rfl rfl rfl rfl rfl rfl (fun _=>g5) ?_|(refine wH ?_;clear hK))
 refine r1 ?_
 exact(Sub.view _ _ _ _).trans (Sub.els fun i hi=>match i,hi with
  |0,_=>SubL.refl _
  |1,_=>SubL.refl _)
theorem r24many_orthocentre (k:Nat) (hk:k≤1000) (s0 s1 s2 s3:SQ) (h0:SQOk k s0) (h1:SQOk k s1) (h2:SQOk k s2) (h3:SQOk k s3):
  PCalls Tryz.prog 40 [.str [111,114,116,104,111,99,101,110,116,114,101],spotsQ [s0,s1,s2,s3]] (ratQ [dotQ s1.p s0.p s2.p s3.p,dotQ s2.p s0.p s3.p s1.p]):=by
 refine pcalls_of_awp tyok cbR24many Tryz.func40 rfl rfl ?_
 have g1:=r24dot_c k s1 s0 s2 s3 hk h1 h0 h2 h3
 have g2:=r24dot_c k s2 s0 s3 s1 hk h2 h0 h3 h1
 repeat(first|refine wKB ?_|refine awp_seq_k fun K hK=>?_|refine wN fun bx=>?_|(refine wH ?_;clear hK))
 refine areg_soft mixed tyok [12,25] [(26,[])] (List.range 28) (by decide +kernel) ?_
 repeat(first|refine wDB ?_|refine awp_seq_k fun K hK=>?_|refine wN fun bx=>?_|refine qpc rfl rfl rfl (g1) ?_|refine qpc rfl rfl rfl (g2) ?_|refine qpo rfl rfl rfl rfl rfl rfl (fun _=>g1) ?_|refine qpo rfl rfl rfl rfl rfl rfl (fun _=>g2) ?_|(refine wH ?_;clear hK))
 refine r1 ?_
 exact(Sub.view _ _ _ _).trans (Sub.els fun i hi=>match i,hi with
  |0,_=>SubL.refl _
  |1,_=>SubL.refl _)
theorem r24many_centroid (k:Nat) (hk:k≤1000) (s0 s1 s2 s3:SQ) (h0:SQOk k s0) (h1:SQOk k s1) (h2:SQOk k s2) (h3:SQOk k s3):
  PCalls Tryz.prog 40 [.str [99,101,110,116,114,111,105,100],spotsQ [s0,s1,s2,s3]] (ratQ [((wx s1.p s0.p)+(wx s2.p s0.p))+(wx s3.p s0.p),((wy s1.p s0.p)+(wy s2.p s0.p))+(wy s3.p s0.p)]):=by
 refine pcalls_of_awp tyok cbR24many Tryz.func40 rfl rfl ?_
 have q1:=h1.p.wx h0.p
 have g1:=r24x_c k s1 s0 (by omega) h1 h0
 have q2:=h2.p.wx h0.p
 have g2:=r24x_c k s2 s0 (by omega) h2 h0
 have q3:=q1.add q2
 have g3:=r24add_c (2*k+1) (by omega) q1 q2 (by omega) (by omega)
 have q4:=h3.p.wx h0.p
 have g4:=r24x_c k s3 s0 (by omega) h3 h0
 have g5:=r24add_c (4*k+3) (by omega) q3 q4 (by omega) (by omega)
 have q6:=h1.p.wy h0.p
 have g6:=r24y_c k s1 s0 (by omega) h1 h0
 have q7:=h2.p.wy h0.p
 have g7:=r24y_c k s2 s0 (by omega) h2 h0
 have q8:=q6.add q7
 have g8:=r24add_c (2*k+1) (by omega) q6 q7 (by omega) (by omega)
 have q9:=h3.p.wy h0.p
 have g9:=r24y_c k s3 s0 (by omega) h3 h0
 have g10:=r24add_c (4*k+3) (by omega) q8 q9 (by omega) (by omega)
 repeat(first|refine wKB ?_|refine awp_seq_k fun K hK=>?_|refine wN fun bx=>?_|(refine wH ?_;clear hK))
 refine areg_soft mixed tyok [6,13,14,21,22,29,36,37,44,45] [(46,[])] (List.range 48) (by decide +kernel) ?_
 repeat(first|refine wDB ?_|refine awp_seq_k fun K hK=>?_|refine wN fun bx=>?_|refine qpc rfl rfl rfl (g1) ?_|refine qpc rfl rfl rfl (g2) ?_|refine qpc rfl rfl rfl (g3) ?_|refine qpc rfl rfl rfl (g4) ?_|refine qpc rfl rfl rfl (g5) ?_|refine qpc rfl rfl rfl (g6) ?_|refine qpc rfl rfl rfl (g7) ?_|refine qpc rfl rfl rfl (g8) ?_|refine qpc rfl rfl rfl (g9) ?_|refine qpc rfl rfl rfl (g10) ?_|refine qpo rfl rfl rfl rfl rfl rfl (fun _=>g1) ?_|refine qpo rfl rfl rfl rfl rfl rfl (fun _=>g2) ?_|refine qpo rfl rfl rfl rfl rfl rfl (fun _=>g3) ?_|refine qpo rfl rfl rfl rfl rfl rfl (fun _=>g4) ?_|refine qpo rfl rfl rfl rfl rfl rfl (fun _=>g5) ?_|refine qpo rfl rfl rfl rfl rfl rfl (fun _=>g6) ?_|refine qpo rfl rfl rfl rfl rfl rfl (fun _=>g7) ?_|refine qpo rfl rfl rfl rfl rfl rfl (fun _=>g8) ?_|refine qpo rfl rfl rfl rfl rfl rfl (fun _=>g9) ?_|refine qpo rfl rfl rfl rfl rfl rfl (fun _=>g10) ?_|(refine wH ?_;clear hK))
 refine r1 ?_
 exact(Sub.view _ _ _ _).trans (Sub.els fun i hi=>match i,hi with
  |0,_=>SubL.refl _
  |1,_=>SubL.refl _)
theorem r24many_parallelogram (k:Nat) (hk:k≤1000) (s0 s1 s2 s3:SQ) (h0:SQOk k s0) (h1:SQOk k s1) (h2:SQOk k s2) (h3:SQOk k s3):
  PCalls Tryz.prog 40 [.str [112,97,114,97,108,108,101,108,111,103,114,97,109],spotsQ [s0,s1,s2,s3]] (ratQ [(wx s0.p s1.p)-(wx s3.p s2.p),(wy s0.p s1.p)-(wy s3.p s2.p)]):=by
 refine pcalls_of_awp tyok cbR24many Tryz.func40 rfl rfl ?_
 have q1:=h0.p.wx h1.p
 have g1:=r24x_c k s0 s1 (by omega) h0 h1
 have q2:=h3.p.wx h2.p
 have g2:=r24x_c k s3 s2 (by omega) h3 h2
 have g3:=r24sub_c (2*k+1) (by omega) q1 q2 (by omega) (by omega)
 have q4:=h0.p.wy h1.p
 have g4:=r24y_c k s0 s1 (by omega) h0 h1
 have q5:=h3.p.wy h2.p
 have g5:=r24y_c k s3 s2 (by omega) h3 h2
 have g6:=r24sub_c (2*k+1) (by omega) q4 q5 (by omega) (by omega)
 repeat(first|refine wKB ?_|refine awp_seq_k fun K hK=>?_|refine wN fun bx=>?_|(refine wH ?_;clear hK))
 refine areg_soft mixed tyok [6,13,14,21,28,29] [(30,[])] (List.range 32) (by decide +kernel) ?_
 repeat(first|refine wDB ?_|refine awp_seq_k fun K hK=>?_|refine wN fun bx=>?_|refine qpc rfl rfl rfl (g1) ?_|refine qpc rfl rfl rfl (g2) ?_|refine qpc rfl rfl rfl (g3) ?_|refine qpc rfl rfl rfl (g4) ?_|refine qpc rfl rfl rfl (g5) ?_|refine qpc rfl rfl rfl (g6) ?_|refine qpo rfl rfl rfl rfl rfl rfl (fun _=>g1) ?_|refine qpo rfl rfl rfl rfl rfl rfl (fun _=>g2) ?_|refine qpo rfl rfl rfl rfl rfl rfl (fun _=>g3) ?_|refine qpo rfl rfl rfl rfl rfl rfl (fun _=>g4) ?_|refine qpo rfl rfl rfl rfl rfl rfl (fun _=>g5) ?_|refine qpo rfl rfl rfl rfl rfl rfl (fun _=>g6) ?_|(refine wH ?_;clear hK))
 refine r1 ?_
 exact(Sub.view _ _ _ _).trans (Sub.els fun i hi=>match i,hi with
  |0,_=>SubL.refl _
  |1,_=>SubL.refl _)
theorem r24many_concurrent (k:Nat) (hk:k≤1000) (s0 s1 s2 s3 s4 s5:SQ) (h0:SQOk k s0) (h1:SQOk k s1) (h2:SQOk k s2) (h3:SQOk k s3) (h4:SQOk k s4) (h5:SQOk k s5):
  PCalls Tryz.prog 40 [.str [99,111,110,99,117,114,114,101,110,116],spotsQ [s0,s1,s2,s3,s4,s5]] (ratQ [((crossQ s4.p s0.p s4.p s5.p)*(crossQ s0.p s1.p s2.p s3.p))+((crossQ s0.p s2.p s2.p s3.p)*(crossQ s0.p s1.p s4.p s5.p))]):=by
 refine pcalls_of_awp tyok cbR24many Tryz.func40 rfl rfl ?_
 have q1:=h4.p.cross h0.p h4.p h5.p
 have g1:=r24cross_c k s4 s0 s4 s5 hk h4 h0 h4 h5
 have q2:=h0.p.cross h1.p h2.p h3.p
 have g2:=r24cross_c k s0 s1 s2 s3 hk h0 h1 h2 h3
 have q3:=q1.mul q2
 have g3:=r24mul_c (8*k+5) (by omega) q1 q2 (by omega) (by omega)
 have q4:=h0.p.cross h2.p h2.p h3.p
 have g4:=r24cross_c k s0 s2 s2 s3 hk h0 h2 h2 h3
 have q5:=h0.p.cross h1.p h4.p h5.p
 have g5:=r24cross_c k s0 s1 s4 s5 hk h0 h1 h4 h5
 have q6:=q4.mul q5
 have g6:=r24mul_c (8*k+5) (by omega) q4 q5 (by omega) (by omega)
 have g7:=r24add_c (16*k+10) (by omega) q3 q6 (by omega) (by omega)
 repeat(first|refine wKB ?_|refine awp_seq_k fun K hK=>?_|refine wN fun bx=>?_|(refine wH ?_;clear hK))
 refine areg_soft mixed tyok [12,25,26,39,52,53,54] [(55,[])] (List.range 57) (by decide +kernel) ?_
 repeat(first|refine wDB ?_|refine awp_seq_k fun K hK=>?_|refine wN fun bx=>?_|refine qpc rfl rfl rfl (g1) ?_|refine qpc rfl rfl rfl (g2) ?_|refine qpc rfl rfl rfl (g3) ?_|refine qpc rfl rfl rfl (g4) ?_|refine qpc rfl rfl rfl (g5) ?_|refine qpc rfl rfl rfl (g6) ?_|refine qpc rfl rfl rfl (g7) ?_|refine qpo rfl rfl rfl rfl rfl rfl (fun _=>g1) ?_|refine qpo rfl rfl rfl rfl rfl rfl (fun _=>g2) ?_|refine qpo rfl rfl rfl rfl rfl rfl (fun _=>g3) ?_|refine qpo rfl rfl rfl rfl rfl rfl (fun _=>g4) ?_|refine qpo rfl rfl rfl rfl rfl rfl (fun _=>g5) ?_|refine qpo rfl rfl rfl rfl rfl rfl (fun _=>g6) ?_|refine qpo rfl rfl rfl rfl rfl rfl (fun _=>g7) ?_|(refine wH ?_;clear hK))
 refine r1 ?_
 exact(Sub.view _ _ _ _).trans (Sub.els fun i hi=>match i,hi with
  |0,_=>SubL.refl _)
theorem r24many_angles (k:Nat) (hk:k≤1000) (s0 s1 s2 s3 s4 s5:SQ) (h0:SQOk k s0) (h1:SQOk k s1) (h2:SQOk k s2) (h3:SQOk k s3) (h4:SQOk k s4) (h5:SQOk k s5):
  PCalls Tryz.prog 40 [.str [97,110,103,108,101,115],spotsQ [s0,s1,s2,s3,s4,s5]] (ratQ [((crossQ s1.p s0.p s1.p s2.p)*(dotQ s4.p s3.p s4.p s5.p))-((dotQ s1.p s0.p s1.p s2.p)*(crossQ s4.p s3.p s4.p s5.p))]):=by
 refine pcalls_of_awp tyok cbR24many Tryz.func40 rfl rfl ?_
 have q1:=h1.p.cross h0.p h1.p h2.p
 have g1:=r24cross_c k s1 s0 s1 s2 hk h1 h0 h1 h2
 have q2:=h4.p.dot h3.p h4.p h5.p
 have g2:=r24dot_c k s4 s3 s4 s5 hk h4 h3 h4 h5
 have q3:=q1.mul q2
 have g3:=r24mul_c (8*k+5) (by omega) q1 q2 (by omega) (by omega)
 have q4:=h1.p.dot h0.p h1.p h2.p
 have g4:=r24dot_c k s1 s0 s1 s2 hk h1 h0 h1 h2
 have q5:=h4.p.cross h3.p h4.p h5.p
 have g5:=r24cross_c k s4 s3 s4 s5 hk h4 h3 h4 h5
 have q6:=q4.mul q5
 have g6:=r24mul_c (8*k+5) (by omega) q4 q5 (by omega) (by omega)
 have g7:=r24sub_c (16*k+10) (by omega) q3 q6 (by omega) (by omega)
 repeat(first|refine wKB ?_|refine awp_seq_k fun K hK=>?_|refine wN fun bx=>?_|(refine wH ?_;clear hK))
 refine areg_soft mixed tyok [12,25,26,39,52,53,54] [(55,[])] (List.range 57) (by decide +kernel) ?_
 repeat(first|refine wDB ?_|refine awp_seq_k fun K hK=>?_|refine wN fun bx=>?_|refine qpc rfl rfl rfl (g1) ?_|refine qpc rfl rfl rfl (g2) ?_|refine qpc rfl rfl rfl (g3) ?_|refine qpc rfl rfl rfl (g4) ?_|refine qpc rfl rfl rfl (g5) ?_|refine qpc rfl rfl rfl (g6) ?_|refine qpc rfl rfl rfl (g7) ?_|refine qpo rfl rfl rfl rfl rfl rfl (fun _=>g1) ?_|refine qpo rfl rfl rfl rfl rfl rfl (fun _=>g2) ?_|refine qpo rfl rfl rfl rfl rfl rfl (fun _=>g3) ?_|refine qpo rfl rfl rfl rfl rfl rfl (fun _=>g4) ?_|refine qpo rfl rfl rfl rfl rfl rfl (fun _=>g5) ?_|refine qpo rfl rfl rfl rfl rfl rfl (fun _=>g6) ?_|refine qpo rfl rfl rfl rfl rfl rfl (fun _=>g7) ?_|(refine wH ?_;clear hK))
 refine r1 ?_
 exact(Sub.view _ _ _ _).trans (Sub.els fun i hi=>match i,hi with
  |0,_=>SubL.refl _)
theorem r24many_product (k:Nat) (hk:k≤1000) (s0 s1 s2 s3 s4 s5 s6 s7:SQ) (h0:SQOk k s0) (h1:SQOk k s1) (h2:SQOk k s2) (h3:SQOk k s3) (h4:SQOk k s4) (h5:SQOk k s5) (h6:SQOk k s6) (h7:SQOk k s7):
  PCalls Tryz.prog 40 [.str [112,114,111,100,117,99,116],spotsQ [s0,s1,s2,s3,s4,s5,s6,s7]] (ratQ [((dotQ s0.p s1.p s0.p s1.p)*(dotQ s2.p s3.p s2.p s3.p))-((dotQ s4.p s5.p s4.p s5.p)*(dotQ s6.p s7.p s6.p s7.p))]):=by
 refine pcalls_of_awp tyok cbR24many Tryz.func40 rfl rfl ?_
 have q1:=h0.p.dot h1.p h0.p h1.p
 have g1:=r24dot_c k s0 s1 s0 s1 hk h0 h1 h0 h1
 have q2:=h2.p.dot h3.p h2.p h3.p
 have g2:=r24dot_c k s2 s3 s2 s3 hk h2 h3 h2 h3
 have q3:=q1.mul q2
 have g3:=r24mul_c (8*k+5) (by omega) q1 q2 (by omega) (by omega)
 have q4:=h4.p.dot h5.p h4.p h5.p
 have g4:=r24dot_c k s4 s5 s4 s5 hk h4 h5 h4 h5
 have q5:=h6.p.dot h7.p h6.p h7.p
 have g5:=r24dot_c k s6 s7 s6 s7 hk h6 h7 h6 h7
 have q6:=q4.mul q5
 have g6:=r24mul_c (8*k+5) (by omega) q4 q5 (by omega) (by omega)
 have g7:=r24sub_c (16*k+10) (by omega) q3 q6 (by omega) (by omega)
 repeat(first|refine wKB ?_|refine awp_seq_k fun K hK=>?_|refine wN fun bx=>?_|(refine wH ?_;clear hK))
 refine areg_soft mixed tyok [12,25,26,39,52,53,54] [(55,[])] (List.range 57) (by decide +kernel) ?_
 repeat(first|refine wDB ?_|refine awp_seq_k fun K hK=>?_|refine wN fun bx=>?_|refine qpc rfl rfl rfl (g1) ?_|refine qpc rfl rfl rfl (g2) ?_|refine qpc rfl rfl rfl (g3) ?_|refine qpc rfl rfl rfl (g4) ?_|refine qpc rfl rfl rfl (g5) ?_|refine qpc rfl rfl rfl (g6) ?_|refine qpc rfl rfl rfl (g7) ?_|refine qpo rfl rfl rfl rfl rfl rfl (fun _=>g1) ?_|refine qpo rfl rfl rfl rfl rfl rfl (fun _=>g2) ?_|refine qpo rfl rfl rfl rfl rfl rfl (fun _=>g3) ?_|refine qpo rfl rfl rfl rfl rfl rfl (fun _=>g4) ?_|refine qpo rfl rfl rfl rfl rfl rfl (fun _=>g5) ?_|refine qpo rfl rfl rfl rfl rfl rfl (fun _=>g6) ?_|refine qpo rfl rfl rfl rfl rfl rfl (fun _=>g7) ?_|(refine wH ?_;clear hK))
 refine r1 ?_
 exact(Sub.view _ _ _ _).trans (Sub.els fun i hi=>match i,hi with
  |0,_=>SubL.refl _)
theorem r24many_tangent (k:Nat) (hk:k≤1000) (s0 s1 s2 s3:SQ) (h0:SQOk k s0) (h1:SQOk k s1) (h2:SQOk k s2) (h3:SQOk k s3):
  PCalls Tryz.prog 40 [.str [116,97,110,103,101,110,116],spotsQ [s0,s1,s2,s3]] (ratQ [((crossQ s2.p s0.p s0.p s1.p)*(crossQ s2.p s0.p s0.p s1.p))-((dotQ s0.p s1.p s0.p s1.p)*(dotQ s2.p s3.p s2.p s3.p))]):=by
 refine pcalls_of_awp tyok cbR24many Tryz.func40 rfl rfl ?_
 have q1:=h2.p.cross h0.p h0.p h1.p
 have g1:=r24cross_c k s2 s0 s0 s1 hk h2 h0 h0 h1
 have q2:=q1.mul q1
 have g2:=r24mul_c (8*k+5) (by omega) q1 q1 (by omega) (by omega)
 have q3:=h0.p.dot h1.p h0.p h1.p
 have g3:=r24dot_c k s0 s1 s0 s1 hk h0 h1 h0 h1
 have q4:=h2.p.dot h3.p h2.p h3.p
 have g4:=r24dot_c k s2 s3 s2 s3 hk h2 h3 h2 h3
 have q5:=q3.mul q4
 have g5:=r24mul_c (8*k+5) (by omega) q3 q4 (by omega) (by omega)
 have g6:=r24sub_c (16*k+10) (by omega) q2 q5 (by omega) (by omega)
 repeat(first|refine wKB ?_|refine awp_seq_k fun K hK=>?_|refine wN fun bx=>?_|(refine wH ?_;clear hK))
 refine areg_soft mixed tyok [12,25,26,39,52,53,54] [(55,[])] (List.range 57) (by decide +kernel) ?_
 repeat(first|refine wDB ?_|refine awp_seq_k fun K hK=>?_|refine wN fun bx=>?_|refine qpc rfl rfl rfl (g1) ?_|refine qpc rfl rfl rfl (g2) ?_|refine qpc rfl rfl rfl (g3) ?_|refine qpc rfl rfl rfl (g4) ?_|refine qpc rfl rfl rfl (g5) ?_|refine qpc rfl rfl rfl (g6) ?_|refine qpo rfl rfl rfl rfl rfl rfl (fun _=>g1) ?_|refine qpo rfl rfl rfl rfl rfl rfl (fun _=>g2) ?_|refine qpo rfl rfl rfl rfl rfl rfl (fun _=>g3) ?_|refine qpo rfl rfl rfl rfl rfl rfl (fun _=>g4) ?_|refine qpo rfl rfl rfl rfl rfl rfl (fun _=>g5) ?_|refine qpo rfl rfl rfl rfl rfl rfl (fun _=>g6) ?_|(refine wH ?_;clear hK))
 refine r1 ?_
 exact(Sub.view _ _ _ _).trans (Sub.els fun i hi=>match i,hi with
  |0,_=>SubL.refl _)
theorem r24many_isosceles (k:Nat) (hk:k≤1000) (s0 s1 s2:SQ) (h0:SQOk k s0) (h1:SQOk k s1) (h2:SQOk k s2):
  PCalls Tryz.prog 40 [.str [105,115,111,115,99,101,108,101,115],spotsQ [s0,s1,s2]] (ratQ [(dotQ s0.p s1.p s0.p s1.p)-(dotQ s0.p s2.p s0.p s2.p)]):=by
 refine pcalls_of_awp tyok cbR24many Tryz.func40 rfl rfl ?_
 have q1:=h0.p.dot h1.p h0.p h1.p
 have g1:=r24dot_c k s0 s1 s0 s1 hk h0 h1 h0 h1
 have q2:=h0.p.dot h2.p h0.p h2.p
 have g2:=r24dot_c k s0 s2 s0 s2 hk h0 h2 h0 h2
 have g3:=r24sub_c (8*k+5) (by omega) q1 q2 (by omega) (by omega)
 repeat(first|refine wKB ?_|refine awp_seq_k fun K hK=>?_|refine wN fun bx=>?_|(refine wH ?_;clear hK))
 refine areg_soft mixed tyok [12,25,26] [(27,[])] (List.range 29) (by decide +kernel) ?_
 repeat(first|refine wDB ?_|refine awp_seq_k fun K hK=>?_|refine wN fun bx=>?_|refine qpc rfl rfl rfl (g1) ?_|refine qpc rfl rfl rfl (g2) ?_|refine qpc rfl rfl rfl (g3) ?_|refine qpo rfl rfl rfl rfl rfl rfl (fun _=>g1) ?_|refine qpo rfl rfl rfl rfl rfl rfl (fun _=>g2) ?_|refine qpo rfl rfl rfl rfl rfl rfl (fun _=>g3) ?_|(refine wH ?_;clear hK))
 refine r1 ?_
 exact(Sub.view _ _ _ _).trans (Sub.els fun i hi=>match i,hi with
  |0,_=>SubL.refl _)
theorem r24many_harmonic (k:Nat) (hk:k≤1000) (s0 s1 s2 s3:SQ) (h0:SQOk k s0) (h1:SQOk k s1) (h2:SQOk k s2) (h3:SQOk k s3):
  PCalls Tryz.prog 40 [.str [104,97,114,109,111,110,105,99],spotsQ [s0,s1,s2,s3]] (ratQ [crossQ s0.p s1.p s0.p s2.p,crossQ s0.p s1.p s0.p s3.p,((dotQ s0.p s1.p s0.p s2.p)*(dotQ s0.p s1.p s1.p s3.p))+((dotQ s0.p s1.p s0.p s3.p)*(dotQ s0.p s1.p s1.p s2.p))]):=by
 refine pcalls_of_awp tyok cbR24many Tryz.func40 rfl rfl ?_
 have g1:=r24cross_c k s0 s1 s0 s2 hk h0 h1 h0 h2
 have g2:=r24cross_c k s0 s1 s0 s3 hk h0 h1 h0 h3
 have q3:=h0.p.dot h1.p h0.p h2.p
 have g3:=r24dot_c k s0 s1 s0 s2 hk h0 h1 h0 h2
 have q4:=h0.p.dot h1.p h1.p h3.p
 have g4:=r24dot_c k s0 s1 s1 s3 hk h0 h1 h1 h3
 have q5:=q3.mul q4
 have g5:=r24mul_c (8*k+5) (by omega) q3 q4 (by omega) (by omega)
 have q6:=h0.p.dot h1.p h0.p h3.p
 have g6:=r24dot_c k s0 s1 s0 s3 hk h0 h1 h0 h3
 have q7:=h0.p.dot h1.p h1.p h2.p
 have g7:=r24dot_c k s0 s1 s1 s2 hk h0 h1 h1 h2
 have q8:=q6.mul q7
 have g8:=r24mul_c (8*k+5) (by omega) q6 q7 (by omega) (by omega)
 have g9:=r24add_c (16*k+10) (by omega) q5 q8 (by omega) (by omega)
 repeat(first|refine wKB ?_|refine awp_seq_k fun K hK=>?_|refine wN fun bx=>?_|(refine wH ?_;clear hK))
 refine areg_soft mixed tyok [12,25,38,51,52,65,78,79,80] [(81,[])] (List.range 83) (by decide +kernel) ?_
 repeat(first|refine wDB ?_|refine awp_seq_k fun K hK=>?_|refine wN fun bx=>?_|refine qpc rfl rfl rfl (g1) ?_|refine qpc rfl rfl rfl (g2) ?_|refine qpc rfl rfl rfl (g3) ?_|refine qpc rfl rfl rfl (g4) ?_|refine qpc rfl rfl rfl (g5) ?_|refine qpc rfl rfl rfl (g6) ?_|refine qpc rfl rfl rfl (g7) ?_|refine qpc rfl rfl rfl (g8) ?_|refine qpc rfl rfl rfl (g9) ?_|refine qpo rfl rfl rfl rfl rfl rfl (fun _=>g1) ?_|refine qpo rfl rfl rfl rfl rfl rfl (fun _=>g2) ?_|refine qpo rfl rfl rfl rfl rfl rfl (fun _=>g3) ?_|refine qpo rfl rfl rfl rfl rfl rfl (fun _=>g4) ?_|refine qpo rfl rfl rfl rfl rfl rfl (fun _=>g5) ?_|refine qpo rfl rfl rfl rfl rfl rfl (fun _=>g6) ?_|refine qpo rfl rfl rfl rfl rfl rfl (fun _=>g7) ?_|refine qpo rfl rfl rfl rfl rfl rfl (fun _=>g8) ?_|refine qpo rfl rfl rfl rfl rfl rfl (fun _=>g9) ?_|(refine wH ?_;clear hK))
 refine r1 ?_
 exact(Sub.view _ _ _ _).trans (Sub.els fun i hi=>match i,hi with
  |0,_=>SubL.refl _
  |1,_=>SubL.refl _
  |2,_=>SubL.refl _)
end Go.Proofs.YthfglhjdnpoepaaGreatDoor
