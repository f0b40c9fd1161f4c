/-
  The document's values of layer 24: constructions by sums and turns (printed by gen24.py)
-/
import Derived.Test.YthfglhjdnpoepaaGreatDoorSr1
set_option maxRecDepth 100000
set_option maxHeartbeats 12800000
namespace Go.Proofs.YthfglhjdnpoepaaGreatDoor
open Go.Ab
theorem cbR24places:Callable Tryz.prog 35:=fun _ _=>by kernel_rfl
theorem r24places_midpoint (k:Nat) (hk:k≤1000) (p s0 s1:SQ) (hp:SQOk k p) (h0:SQOk k s0) (h1:SQOk k s1) (ms:List Int):
  PCalls Tryz.prog 35 [.str [109,105,100,112,111,105,110,116],.agg (sqE p),spotsQ [s0,s1],nums30 ms] (ratQ [(wx s0.p p.p)+(wx s1.p p.p),(wy s0.p p.p)+(wy s1.p p.p)]):=by
 refine pcalls_of_awp tyok cbR24places Tryz.func35 rfl rfl ?_
 have q1:=h0.p.wx hp.p
 have g1:=r24x_c k s0 p (by omega) h0 hp
 have q2:=h1.p.wx hp.p
 have g2:=r24x_c k s1 p (by omega) h1 hp
 have g3:=r24add_c (2*k+1) (by omega) q1 q2 (by omega) (by omega)
 have q4:=h0.p.wy hp.p
 have g4:=r24y_c k s0 p (by omega) h0 hp
 have q5:=h1.p.wy hp.p
 have g5:=r24y_c k s1 p (by omega) h1 hp
 have g6:=r24add_c (2*k+1) (by omega) q4 q5 (by omega) (by omega)
 ((repeat(first|refine wKB ?_|refine awp_seq_k fun K hK=>?_|(refine wH ?_;clear hK)));refine wN fun b4=>?_;(repeat(first|refine wKB ?_|refine awp_seq_k fun K hK=>?_|refine wN fun bx=>?_|(refine wH ?_;clear hK))))
 refine awp_freeze [] (s:=5) rfl rfl ?_
 refine areg_soft mixed tyok [4,9,10,15,20,21] [(22,[])] (List.range 24) (by decide +kernel) ?_
 repeat(first|refine wDB ?_|refine awp_seq_k fun K hK=>?_|refine wN fun bx=>?_|refine qpc rfl rfl rfl (g1) ?_|refine qpc rfl rfl rfl (g2) ?_|refine qpc rfl rfl rfl (g3) ?_|refine qpc rfl rfl rfl (g4) ?_|refine qpc rfl rfl rfl (g5) ?_|refine qpc rfl rfl rfl (g6) ?_|refine qpo rfl rfl rfl rfl rfl rfl (fun _=>g1) ?_|refine qpo rfl rfl rfl rfl rfl rfl (fun _=>g2) ?_|refine qpo rfl rfl rfl rfl rfl rfl (fun _=>g3) ?_|refine qpo rfl rfl rfl rfl rfl rfl (fun _=>g4) ?_|refine qpo rfl rfl rfl rfl rfl rfl (fun _=>g5) ?_|refine qpo rfl rfl rfl rfl rfl rfl (fun _=>g6) ?_|(refine wH ?_;clear hK))
 refine r1 ?_
 exact(Sub.view _ _ _ _).trans (Sub.els fun i hi=>match i,hi with
  |0,_=>SubL.refl _
  |1,_=>SubL.refl _)
theorem r24places_reflect (k:Nat) (hk:k≤1000) (p s0 s1:SQ) (hp:SQOk k p) (h0:SQOk k s0) (h1:SQOk k s1) (ms:List Int):
  PCalls Tryz.prog 35 [.str [114,101,102,108,101,99,116],.agg (sqE p),spotsQ [s0,s1],nums30 ms] (ratQ [(wx s1.p p.p)-(wx s0.p s1.p),(wy s1.p p.p)-(wy s0.p s1.p)]):=by
 refine pcalls_of_awp tyok cbR24places Tryz.func35 rfl rfl ?_
 have q1:=h1.p.wx hp.p
 have g1:=r24x_c k s1 p (by omega) h1 hp
 have q2:=h0.p.wx h1.p
 have g2:=r24x_c k s0 s1 (by omega) h0 h1
 have g3:=r24sub_c (2*k+1) (by omega) q1 q2 (by omega) (by omega)
 have q4:=h1.p.wy hp.p
 have g4:=r24y_c k s1 p (by omega) h1 hp
 have q5:=h0.p.wy h1.p
 have g5:=r24y_c k s0 s1 (by omega) h0 h1
 have g6:=r24sub_c (2*k+1) (by omega) q4 q5 (by omega) (by omega)
 ((repeat(first|refine wKB ?_|refine awp_seq_k fun K hK=>?_|(refine wH ?_;clear hK)));refine wN fun b4=>?_;(repeat(first|refine wKB ?_|refine awp_seq_k fun K hK=>?_|refine wN fun bx=>?_|(refine wH ?_;clear hK))))
 refine awp_freeze [] (s:=5) rfl rfl ?_
 refine areg_soft mixed tyok [4,11,12,17,24,25] [(26,[])] (List.range 28) (by decide +kernel) ?_
 repeat(first|refine wDB ?_|refine awp_seq_k fun K hK=>?_|refine wN fun bx=>?_|refine qpc rfl rfl rfl (g1) ?_|refine qpc rfl rfl rfl (g2) ?_|refine qpc rfl rfl rfl (g3) ?_|refine qpc rfl rfl rfl (g4) ?_|refine qpc rfl rfl rfl (g5) ?_|refine qpc rfl rfl rfl (g6) ?_|refine qpo rfl rfl rfl rfl rfl rfl (fun _=>g1) ?_|refine qpo rfl rfl rfl rfl rfl rfl (fun _=>g2) ?_|refine qpo rfl rfl rfl rfl rfl rfl (fun _=>g3) ?_|refine qpo rfl rfl rfl rfl rfl rfl (fun _=>g4) ?_|refine qpo rfl rfl rfl rfl rfl rfl (fun _=>g5) ?_|refine qpo rfl rfl rfl rfl rfl rfl (fun _=>g6) ?_|(refine wH ?_;clear hK))
 refine r1 ?_
 exact(Sub.view _ _ _ _).trans (Sub.els fun i hi=>match i,hi with
  |0,_=>SubL.refl _
  |1,_=>SubL.refl _)
theorem r24places_centroid (k:Nat) (hk:k≤1000) (p s0 s1 s2:SQ) (hp:SQOk k p) (h0:SQOk k s0) (h1:SQOk k s1) (h2:SQOk k s2) (ms:List Int):
  PCalls Tryz.prog 35 [.str [99,101,110,116,114,111,105,100],.agg (sqE p),spotsQ [s0,s1,s2],nums30 ms] (ratQ [((wx s0.p p.p)+(wx s1.p p.p))+(wx s2.p p.p),((wy s0.p p.p)+(wy s1.p p.p))+(wy s2.p p.p)]):=by
 refine pcalls_of_awp tyok cbR24places Tryz.func35 rfl rfl ?_
 have q1:=h0.p.wx hp.p
 have g1:=r24x_c k s0 p (by omega) h0 hp
 have q2:=h1.p.wx hp.p
 have g2:=r24x_c k s1 p (by omega) h1 hp
 have q3:=q1.add q2
 have g3:=r24add_c (2*k+1) (by omega) q1 q2 (by omega) (by omega)
 have q4:=h2.p.wx hp.p
 have g4:=r24x_c k s2 p (by omega) h2 hp
 have g5:=r24add_c (4*k+3) (by omega) q3 q4 (by omega) (by omega)
 have q6:=h0.p.wy hp.p
 have g6:=r24y_c k s0 p (by omega) h0 hp
 have q7:=h1.p.wy hp.p
 have g7:=r24y_c k s1 p (by omega) h1 hp
 have q8:=q6.add q7
 have g8:=r24add_c (2*k+1) (by omega) q6 q7 (by omega) (by omega)
 have q9:=h2.p.wy hp.p
 have g9:=r24y_c k s2 p (by omega) h2 hp
 have g10:=r24add_c (4*k+3) (by omega) q8 q9 (by omega) (by omega)
 ((repeat(first|refine wKB ?_|refine awp_seq_k fun K hK=>?_|(refine wH ?_;clear hK)));refine wN fun b4=>?_;(repeat(first|refine wKB ?_|refine awp_seq_k fun K hK=>?_|refine wN fun bx=>?_|(refine wH ?_;clear hK))))
 refine awp_freeze [] (s:=5) rfl rfl ?_
 refine areg_soft mixed tyok [4,9,10,15,16,21,26,27,32,33] [(34,[])] (List.range 36) (by decide +kernel) ?_
 repeat(first|refine wDB ?_|refine awp_seq_k fun K hK=>?_|refine wN fun bx=>?_|refine qpc rfl rfl rfl (g1) ?_|refine qpc rfl rfl rfl (g2) ?_|refine qpc rfl rfl rfl (g3) ?_|refine qpc rfl rfl rfl (g4) ?_|refine qpc rfl rfl rfl (g5) ?_|refine qpc rfl rfl rfl (g6) ?_|refine qpc rfl rfl rfl (g7) ?_|refine qpc rfl rfl rfl (g8) ?_|refine qpc rfl rfl rfl (g9) ?_|refine qpc rfl rfl rfl (g10) ?_|refine qpo rfl rfl rfl rfl rfl rfl (fun _=>g1) ?_|refine qpo rfl rfl rfl rfl rfl rfl (fun _=>g2) ?_|refine qpo rfl rfl rfl rfl rfl rfl (fun _=>g3) ?_|refine qpo rfl rfl rfl rfl rfl rfl (fun _=>g4) ?_|refine qpo rfl rfl rfl rfl rfl rfl (fun _=>g5) ?_|refine qpo rfl rfl rfl rfl rfl rfl (fun _=>g6) ?_|refine qpo rfl rfl rfl rfl rfl rfl (fun _=>g7) ?_|refine qpo rfl rfl rfl rfl rfl rfl (fun _=>g8) ?_|refine qpo rfl rfl rfl rfl rfl rfl (fun _=>g9) ?_|refine qpo rfl rfl rfl rfl rfl rfl (fun _=>g10) ?_|(refine wH ?_;clear hK))
 refine r1 ?_
 exact(Sub.view _ _ _ _).trans (Sub.els fun i hi=>match i,hi with
  |0,_=>SubL.refl _
  |1,_=>SubL.refl _)
theorem r24places_translate (k:Nat) (hk:k≤1000) (p s0 s1 s2:SQ) (hp:SQOk k p) (h0:SQOk k s0) (h1:SQOk k s1) (h2:SQOk k s2) (ms:List Int):
  PCalls Tryz.prog 35 [.str [116,114,97,110,115,108,97,116,101],.agg (sqE p),spotsQ [s0,s1,s2],nums30 ms] (ratQ [(wx s0.p p.p)-(wx s1.p s2.p),(wy s0.p p.p)-(wy s1.p s2.p)]):=by
 refine pcalls_of_awp tyok cbR24places Tryz.func35 rfl rfl ?_
 have q1:=h0.p.wx hp.p
 have g1:=r24x_c k s0 p (by omega) h0 hp
 have q2:=h1.p.wx h2.p
 have g2:=r24x_c k s1 s2 (by omega) h1 h2
 have g3:=r24sub_c (2*k+1) (by omega) q1 q2 (by omega) (by omega)
 have q4:=h0.p.wy hp.p
 have g4:=r24y_c k s0 p (by omega) h0 hp
 have q5:=h1.p.wy h2.p
 have g5:=r24y_c k s1 s2 (by omega) h1 h2
 have g6:=r24sub_c (2*k+1) (by omega) q4 q5 (by omega) (by omega)
 ((repeat(first|refine wKB ?_|refine awp_seq_k fun K hK=>?_|(refine wH ?_;clear hK)));refine wN fun b4=>?_;(repeat(first|refine wKB ?_|refine awp_seq_k fun K hK=>?_|refine wN fun bx=>?_|(refine wH ?_;clear hK))))
 refine awp_freeze [] (s:=5) rfl rfl ?_
 refine areg_soft mixed tyok [4,11,12,17,24,25] [(26,[])] (List.range 28) (by decide +kernel) ?_
 repeat(first|refine wDB ?_|refine awp_seq_k fun K hK=>?_|refine wN fun bx=>?_|refine qpc rfl rfl rfl (g1) ?_|refine qpc rfl rfl rfl (g2) ?_|refine qpc rfl rfl rfl (g3) ?_|refine qpc rfl rfl rfl (g4) ?_|refine qpc rfl rfl rfl (g5) ?_|refine qpc rfl rfl rfl (g6) ?_|refine qpo rfl rfl rfl rfl rfl rfl (fun _=>g1) ?_|refine qpo rfl rfl rfl rfl rfl rfl (fun _=>g2) ?_|refine qpo rfl rfl rfl rfl rfl rfl (fun _=>g3) ?_|refine qpo rfl rfl rfl rfl rfl rfl (fun _=>g4) ?_|refine qpo rfl rfl rfl rfl rfl rfl (fun _=>g5) ?_|refine qpo rfl rfl rfl rfl rfl rfl (fun _=>g6) ?_|(refine wH ?_;clear hK))
 refine r1 ?_
 exact(Sub.view _ _ _ _).trans (Sub.els fun i hi=>match i,hi with
  |0,_=>SubL.refl _
  |1,_=>SubL.refl _)
theorem r24places_turn (k:Nat) (hk:k≤1000) (p s0 s1:SQ) (hp:SQOk k p) (h0:SQOk k s0) (h1:SQOk k s1) (ms:List Int):
  PCalls Tryz.prog 35 [.str [116,117,114,110],.agg (sqE p),spotsQ [s0,s1],nums30 ms] (ratQ [(wx s1.p p.p)+(wy s1.p s0.p),(wy s1.p p.p)-(wx s1.p s0.p)]):=by
 refine pcalls_of_awp tyok cbR24places Tryz.func35 rfl rfl ?_
 have q1:=h1.p.wx hp.p
 have g1:=r24x_c k s1 p (by omega) h1 hp
 have q2:=h1.p.wy h0.p
 have g2:=r24y_c k s1 s0 (by omega) h1 h0
 have g3:=r24add_c (2*k+1) (by omega) q1 q2 (by omega) (by omega)
 have q4:=h1.p.wy hp.p
 have g4:=r24y_c k s1 p (by omega) h1 hp
 have q5:=h1.p.wx h0.p
 have g5:=r24x_c k s1 s0 (by omega) h1 h0
 have g6:=r24sub_c (2*k+1) (by omega) q4 q5 (by omega) (by omega)
 ((repeat(first|refine wKB ?_|refine awp_seq_k fun K hK=>?_|(refine wH ?_;clear hK)));refine wN fun b4=>?_;(repeat(first|refine wKB ?_|refine awp_seq_k fun K hK=>?_|refine wN fun bx=>?_|(refine wH ?_;clear hK))))
 refine awp_freeze [] (s:=5) rfl rfl ?_
 refine areg_soft mixed tyok [4,11,12,17,24,25] [(26,[])] (List.range 28) (by decide +kernel) ?_
 repeat(first|refine wDB ?_|refine awp_seq_k fun K hK=>?_|refine wN fun bx=>?_|refine qpc rfl rfl rfl (g1) ?_|refine qpc rfl rfl rfl (g2) ?_|refine qpc rfl rfl rfl (g3) ?_|refine qpc rfl rfl rfl (g4) ?_|refine qpc rfl rfl rfl (g5) ?_|refine qpc rfl rfl rfl (g6) ?_|refine qpo rfl rfl rfl rfl rfl rfl (fun _=>g1) ?_|refine qpo rfl rfl rfl rfl rfl rfl (fun _=>g2) ?_|refine qpo rfl rfl rfl rfl rfl rfl (fun _=>g3) ?_|refine qpo rfl rfl rfl rfl rfl rfl (fun _=>g4) ?_|refine qpo rfl rfl rfl rfl rfl rfl (fun _=>g5) ?_|refine qpo rfl rfl rfl rfl rfl rfl (fun _=>g6) ?_|(refine wH ?_;clear hK))
 refine r1 ?_
 exact(Sub.view _ _ _ _).trans (Sub.els fun i hi=>match i,hi with
  |0,_=>SubL.refl _
  |1,_=>SubL.refl _)
theorem r24places_ratio (k:Nat) (hk:k≤1000) (p s0 s1:SQ) (hp:SQOk k p) (h0:SQOk k s0) (h1:SQOk k s1) (m0 m1:Int) (b0: -9223372036854775808≤m0∧m0≤9223372036854775807) (b1: -9223372036854775808≤m1∧m1≤9223372036854775807):
  PCalls Tryz.prog 35 [.str [114,97,116,105,111],.agg (sqE p),spotsQ [s0,s1],nums30 [m0,m1]] (ratQ [((((m1:Int):Rat))*(wx s0.p p.p))-((((m0:Int):Rat))*(wx s0.p s1.p)),((((m1:Int):Rat))*(wy s0.p p.p))-((((m0:Int):Rat))*(wy s0.p s1.p))]):=by
 refine pcalls_of_awp tyok cbR24places Tryz.func35 rfl rfl ?_
 have q1:=small_qok (n:=m1) (by omega)
 have g1:=r24num_c m1 (by omega) (by omega)
 have q2:=h0.p.wx hp.p
 have g2:=r24x_c k s0 p (by omega) h0 hp
 have q3:=q1.mul q2
 have g3:=r24mul_c (2*k+2) (by omega) q1 q2 (by omega) (by omega)
 have q4:=small_qok (n:=m0) (by omega)
 have g4:=r24num_c m0 (by omega) (by omega)
 have q5:=h0.p.wx h1.p
 have g5:=r24x_c k s0 s1 (by omega) h0 h1
 have q6:=q4.mul q5
 have g6:=r24mul_c (2*k+2) (by omega) q4 q5 (by omega) (by omega)
 have g7:=r24sub_c (2*k+3) (by omega) q3 q6 (by omega) (by omega)
 have q8:=h0.p.wy hp.p
 have g8:=r24y_c k s0 p (by omega) h0 hp
 have q9:=q1.mul q8
 have g9:=r24mul_c (2*k+2) (by omega) q1 q8 (by omega) (by omega)
 have q10:=h0.p.wy h1.p
 have g10:=r24y_c k s0 s1 (by omega) h0 h1
 have q11:=q4.mul q10
 have g11:=r24mul_c (2*k+2) (by omega) q4 q10 (by omega) (by omega)
 have g12:=r24sub_c (2*k+3) (by omega) q9 q11 (by omega) (by omega)
 ((repeat(first|refine wKB ?_|refine awp_seq_k fun K hK=>?_|(refine wH ?_;clear hK)));refine wN fun b4=>?_;(repeat(first|refine wKB ?_|refine awp_seq_k fun K hK=>?_|refine wN fun bx=>?_|(refine wH ?_;clear hK))))
 refine awp_freeze [] (s:=5) rfl rfl ?_
 refine areg_soft mixed tyok [3,8,9,13,20,21,22,26,31,32,36,43,44,45] [(46,[])] (List.range 48) (by decide +kernel) ?_
 repeat(first|refine wDB ?_|refine awp_seq_k fun K hK=>?_|refine wN fun bx=>?_|refine qpc rfl rfl rfl (g1) ?_|refine qpc rfl rfl rfl (g2) ?_|refine qpc rfl rfl rfl (g3) ?_|refine qpc rfl rfl rfl (g4) ?_|refine qpc rfl rfl rfl (g5) ?_|refine qpc rfl rfl rfl (g6) ?_|refine qpc rfl rfl rfl (g7) ?_|refine qpc rfl rfl rfl (g8) ?_|refine qpc rfl rfl rfl (g9) ?_|refine qpc rfl rfl rfl (g10) ?_|refine qpc rfl rfl rfl (g11) ?_|refine qpc rfl rfl rfl (g12) ?_|refine qpo rfl rfl rfl rfl rfl rfl (fun _=>g1) ?_|refine qpo rfl rfl rfl rfl rfl rfl (fun _=>g2) ?_|refine qpo rfl rfl rfl rfl rfl rfl (fun _=>g3) ?_|refine qpo rfl rfl rfl rfl rfl rfl (fun _=>g4) ?_|refine qpo rfl rfl rfl rfl rfl rfl (fun _=>g5) ?_|refine qpo rfl rfl rfl rfl rfl rfl (fun _=>g6) ?_|refine qpo rfl rfl rfl rfl rfl rfl (fun _=>g7) ?_|refine qpo rfl rfl rfl rfl rfl rfl (fun _=>g8) ?_|refine qpo rfl rfl rfl rfl rfl rfl (fun _=>g9) ?_|refine qpo rfl rfl rfl rfl rfl rfl (fun _=>g10) ?_|refine qpo rfl rfl rfl rfl rfl rfl (fun _=>g11) ?_|refine qpo rfl rfl rfl rfl rfl rfl (fun _=>g12) ?_|(refine wH ?_;clear hK))
 refine r1 ?_
 exact(Sub.view _ _ _ _).trans (Sub.els fun i hi=>match i,hi with
  |0,_=>SubL.refl _
  |1,_=>SubL.refl _)
theorem r24places_no (w:List UInt8) (p:SQ) (l:List SQ) (ms:List Int) (hw:w∈([[102,111,111,116],[109,105,114,114,111,114],[109,101,101,116],[112,97,114,109,101,101,116],[112,101,114,112,109,101,101,116],[112,97,114,112,97,114],[112,101,114,112,112,101,114,112],[112,97,114,112,101,114,112],[98,105,109,101,101,116],[98,105,115,98,105,115],[99,105,114,99,117,109,99,101,110,116,114,101],[111,114,116,104,111,99,101,110,116,114,101],[115,101,99,111,110,100],[111,116,104,101,114],[105,110,118,101,114,115,101]]:List (List UInt8))):PCalls Tryz.prog 35 [.str w,.agg (sqE p),spotsQ l,nums30 ms] (ratQ []):=by
 refine pcalls_of_awp tyok cbR24places Tryz.func35 rfl rfl ?_
 simp only[List.mem_cons,List.mem_nil_iff,or_false]at hw
 rcases hw with rfl|rfl|rfl|rfl|rfl|rfl|rfl|rfl|rfl|rfl|rfl|rfl|rfl|rfl|rfl
 all_goals
  repeat(first|refine wKB ?_|refine awp_seq_k fun K hK=>?_|refine wN fun bx=>?_|(refine wH ?_;clear hK))
  refine r1 ?_
  exact Sub.nilsv _ _
end Go.Proofs.YthfglhjdnpoepaaGreatDoor
