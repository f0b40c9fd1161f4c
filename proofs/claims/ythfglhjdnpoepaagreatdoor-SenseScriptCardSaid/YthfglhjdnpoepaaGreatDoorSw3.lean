/-
  The document's values of layer 24: all other constructions (printed by gen24.py)
-/
import Derived.Test.YthfglhjdnpoepaaGreatDoorSr1
set_option maxRecDepth 100000
set_option maxHeartbeats 6400000
namespace Go.Proofs.YthfglhjdnpoepaaGreatDoor
open Go.Ab
theorem cbR24meets:Callable Tryz.prog 36:=fun _ _=>by kernel_rfl
theorem r24meets_foot (k:Nat) (hk:k≤1000) (p s0 s1 s2:SQ) (hp:SQOk k p) (h0:SQOk k s0) (h1:SQOk k s1) (h2:SQOk k s2):
  PCalls Tryz.prog 36 [.str [102,111,111,116],.agg (sqE p),spotsQ [s0,s1,s2]] (ratQ [crossQ s1.p p.p s1.p s2.p,dotQ s0.p p.p s1.p s2.p]):=by
 refine pcalls_of_awp tyok cbR24meets Tryz.func36 rfl rfl ?_
 have g1:=r24cross_c k s1 p s1 s2 hk h1 hp h1 h2
 have g2:=r24dot_c k s0 p s1 s2 hk h0 hp h1 h2
 ((repeat(first|refine wKB ?_|refine awp_seq_k fun K hK=>?_|(refine wH ?_;clear hK)));refine wN fun b4=>?_;(repeat(first|refine wKB ?_|refine awp_seq_k fun K hK=>?_|refine wN fun bx=>?_|(refine wH ?_;clear hK))))
 refine awp_freeze [] (s:=4) rfl rfl ?_
 refine areg_soft mixed tyok [10,21] [(22,[])] (List.range 24) (by decide +kernel) ?_
 repeat(first|refine wDB ?_|refine awp_seq_k fun K hK=>?_|refine wN fun bx=>?_|refine qpc rfl rfl rfl (g1) ?_|refine qpc rfl rfl rfl (g2) ?_|refine qpo rfl rfl rfl rfl rfl rfl (fun _=>g1) ?_|refine qpo rfl rfl rfl rfl rfl rfl (fun _=>g2) ?_|(refine wH ?_;clear hK))
 refine r1 ?_
 exact(Sub.view _ _ _ _).trans (Sub.els fun i hi=>match i,hi with
  |0,_=>SubL.refl _
  |1,_=>SubL.refl _)
theorem r24meets_mirror (k:Nat) (hk:k≤1000) (p s0 s1 s2:SQ) (hp:SQOk k p) (h0:SQOk k s0) (h1:SQOk k s1) (h2:SQOk k s2):
  PCalls Tryz.prog 36 [.str [109,105,114,114,111,114],.agg (sqE p),spotsQ [s0,s1,s2]] (ratQ [(crossQ s1.p s0.p s1.p s2.p)+(crossQ s1.p p.p s1.p s2.p),dotQ s0.p p.p s1.p s2.p]):=by
 refine pcalls_of_awp tyok cbR24meets Tryz.func36 rfl rfl ?_
 have q1:=h1.p.cross h0.p h1.p h2.p
 have g1:=r24cross_c k s1 s0 s1 s2 hk h1 h0 h1 h2
 have q2:=h1.p.cross hp.p h1.p h2.p
 have g2:=r24cross_c k s1 p s1 s2 hk h1 hp h1 h2
 have g3:=r24add_c (8*k+5) (by omega) q1 q2 (by omega) (by omega)
 have g4:=r24dot_c k s0 p s1 s2 hk h0 hp h1 h2
 ((repeat(first|refine wKB ?_|refine awp_seq_k fun K hK=>?_|(refine wH ?_;clear hK)));refine wN fun b4=>?_;(repeat(first|refine wKB ?_|refine awp_seq_k fun K hK=>?_|refine wN fun bx=>?_|(refine wH ?_;clear hK))))
 refine awp_freeze [] (s:=4) rfl rfl ?_
 refine areg_soft mixed tyok [12,23,24,35] [(36,[])] (List.range 38) (by decide +kernel) ?_
 repeat(first|refine wDB ?_|refine awp_seq_k fun K hK=>?_|refine wN fun bx=>?_|refine qpc rfl rfl rfl (g1) ?_|refine qpc rfl rfl rfl (g2) ?_|refine qpc rfl rfl rfl (g3) ?_|refine qpc rfl rfl rfl (g4) ?_|refine qpo rfl rfl rfl rfl rfl rfl (fun _=>g1) ?_|refine qpo rfl rfl rfl rfl rfl rfl (fun _=>g2) ?_|refine qpo rfl rfl rfl rfl rfl rfl (fun _=>g3) ?_|refine qpo rfl rfl rfl rfl rfl rfl (fun _=>g4) ?_|(refine wH ?_;clear hK))
 refine r1 ?_
 exact(Sub.view _ _ _ _).trans (Sub.els fun i hi=>match i,hi with
  |0,_=>SubL.refl _
  |1,_=>SubL.refl _)
theorem r24meets_meet (k:Nat) (hk:k≤1000) (p s0 s1 s2 s3:SQ) (hp:SQOk k p) (h0:SQOk k s0) (h1:SQOk k s1) (h2:SQOk k s2) (h3:SQOk k s3):
  PCalls Tryz.prog 36 [.str [109,101,101,116],.agg (sqE p),spotsQ [s0,s1,s2,s3]] (ratQ [crossQ s0.p p.p s0.p s1.p,crossQ s2.p p.p s2.p s3.p]):=by
 refine pcalls_of_awp tyok cbR24meets Tryz.func36 rfl rfl ?_
 have g1:=r24cross_c k s0 p s0 s1 hk h0 hp h0 h1
 have g2:=r24cross_c k s2 p s2 s3 hk h2 hp h2 h3
 ((repeat(first|refine wKB ?_|refine awp_seq_k fun K hK=>?_|(refine wH ?_;clear hK)));refine wN fun b4=>?_;(repeat(first|refine wKB ?_|refine awp_seq_k fun K hK=>?_|refine wN fun bx=>?_|(refine wH ?_;clear hK))))
 refine awp_freeze [] (s:=4) rfl rfl ?_
 refine areg_soft mixed tyok [10,21] [(22,[])] (List.range 24) (by decide +kernel) ?_
 repeat(first|refine wDB ?_|refine awp_seq_k fun K hK=>?_|refine wN fun bx=>?_|refine qpc rfl rfl rfl (g1) ?_|refine qpc rfl rfl rfl (g2) ?_|refine qpo rfl rfl rfl rfl rfl rfl (fun _=>g1) ?_|refine qpo rfl rfl rfl rfl rfl rfl (fun _=>g2) ?_|(refine wH ?_;clear hK))
 refine r1 ?_
 exact(Sub.view _ _ _ _).trans (Sub.els fun i hi=>match i,hi with
  |0,_=>SubL.refl _
  |1,_=>SubL.refl _)
theorem r24meets_parmeet (k:Nat) (hk:k≤1000) (p s0 s1 s2 s3 s4:SQ) (hp:SQOk k p) (h0:SQOk k s0) (h1:SQOk k s1) (h2:SQOk k s2) (h3:SQOk k s3) (h4:SQOk k s4):
  PCalls Tryz.prog 36 [.str [112,97,114,109,101,101,116],.agg (sqE p),spotsQ [s0,s1,s2,s3,s4]] (ratQ [crossQ s0.p p.p s1.p s2.p,crossQ s3.p p.p s3.p s4.p]):=by
 refine pcalls_of_awp tyok cbR24meets Tryz.func36 rfl rfl ?_
 have g1:=r24cross_c k s0 p s1 s2 hk h0 hp h1 h2
 have g2:=r24cross_c k s3 p s3 s4 hk h3 hp h3 h4
 ((repeat(first|refine wKB ?_|refine awp_seq_k fun K hK=>?_|(refine wH ?_;clear hK)));refine wN fun b4=>?_;(repeat(first|refine wKB ?_|refine awp_seq_k fun K hK=>?_|refine wN fun bx=>?_|(refine wH ?_;clear hK))))
 refine awp_freeze [] (s:=4) rfl rfl ?_
 refine areg_soft mixed tyok [10,21] [(22,[])] (List.range 24) (by decide +kernel) ?_
 repeat(first|refine wDB ?_|refine awp_seq_k fun K hK=>?_|refine wN fun bx=>?_|refine qpc rfl rfl rfl (g1) ?_|refine qpc rfl rfl rfl (g2) ?_|refine qpo rfl rfl rfl rfl rfl rfl (fun _=>g1) ?_|refine qpo rfl rfl rfl rfl rfl rfl (fun _=>g2) ?_|(refine wH ?_;clear hK))
 refine r1 ?_
 exact(Sub.view _ _ _ _).trans (Sub.els fun i hi=>match i,hi with
  |0,_=>SubL.refl _
  |1,_=>SubL.refl _)
theorem r24meets_perpmeet (k:Nat) (hk:k≤1000) (p s0 s1 s2 s3 s4:SQ) (hp:SQOk k p) (h0:SQOk k s0) (h1:SQOk k s1) (h2:SQOk k s2) (h3:SQOk k s3) (h4:SQOk k s4):
  PCalls Tryz.prog 36 [.str [112,101,114,112,109,101,101,116],.agg (sqE p),spotsQ [s0,s1,s2,s3,s4]] (ratQ [dotQ s0.p p.p s1.p s2.p,crossQ s3.p p.p s3.p s4.p]):=by
 refine pcalls_of_awp tyok cbR24meets Tryz.func36 rfl rfl ?_
 have g1:=r24dot_c k s0 p s1 s2 hk h0 hp h1 h2
 have g2:=r24cross_c k s3 p s3 s4 hk h3 hp h3 h4
 ((repeat(first|refine wKB ?_|refine awp_seq_k fun K hK=>?_|(refine wH ?_;clear hK)));refine wN fun b4=>?_;(repeat(first|refine wKB ?_|refine awp_seq_k fun K hK=>?_|refine wN fun bx=>?_|(refine wH ?_;clear hK))))
 refine awp_freeze [] (s:=4) rfl rfl ?_
 refine areg_soft mixed tyok [10,21] [(22,[])] (List.range 24) (by decide +kernel) ?_
 repeat(first|refine wDB ?_|refine awp_seq_k fun K hK=>?_|refine wN fun bx=>?_|refine qpc rfl rfl rfl (g1) ?_|refine qpc rfl rfl rfl (g2) ?_|refine qpo rfl rfl rfl rfl rfl rfl (fun _=>g1) ?_|refine qpo rfl rfl rfl rfl rfl rfl (fun _=>g2) ?_|(refine wH ?_;clear hK))
 refine r1 ?_
 exact(Sub.view _ _ _ _).trans (Sub.els fun i hi=>match i,hi with
  |0,_=>SubL.refl _
  |1,_=>SubL.refl _)
theorem r24meets_parpar (k:Nat) (hk:k≤1000) (p s0 s1 s2 s3 s4 s5:SQ) (hp:SQOk k p) (h0:SQOk k s0) (h1:SQOk k s1) (h2:SQOk k s2) (h3:SQOk k s3) (h4:SQOk k s4) (h5:SQOk k s5):
  PCalls Tryz.prog 36 [.str [112,97,114,112,97,114],.agg (sqE p),spotsQ [s0,s1,s2,s3,s4,s5]] (ratQ [crossQ s0.p p.p s1.p s2.p,crossQ s3.p p.p s4.p s5.p]):=by
 refine pcalls_of_awp tyok cbR24meets Tryz.func36 rfl rfl ?_
 have g1:=r24cross_c k s0 p s1 s2 hk h0 hp h1 h2
 have g2:=r24cross_c k s3 p s4 s5 hk h3 hp h4 h5
 ((repeat(first|refine wKB ?_|refine awp_seq_k fun K hK=>?_|(refine wH ?_;clear hK)));refine wN fun b4=>?_;(repeat(first|refine wKB ?_|refine awp_seq_k fun K hK=>?_|refine wN fun bx=>?_|(refine wH ?_;clear hK))))
 refine awp_freeze [] (s:=4) rfl rfl ?_
 refine areg_soft mixed tyok [10,21] [(22,[])] (List.range 24) (by decide +kernel) ?_
 repeat(first|refine wDB ?_|refine awp_seq_k fun K hK=>?_|refine wN fun bx=>?_|refine qpc rfl rfl rfl (g1) ?_|refine qpc rfl rfl rfl (g2) ?_|refine qpo rfl rfl rfl rfl rfl rfl (fun _=>g1) ?_|refine qpo rfl rfl rfl rfl rfl rfl (fun _=>g2) ?_|(refine wH ?_;clear hK))
 refine r1 ?_
 exact(Sub.view _ _ _ _).trans (Sub.els fun i hi=>match i,hi with
  |0,_=>SubL.refl _
  |1,_=>SubL.refl _)
theorem r24meets_perpperp (k:Nat) (hk:k≤1000) (p s0 s1 s2 s3 s4 s5:SQ) (hp:SQOk k p) (h0:SQOk k s0) (h1:SQOk k s1) (h2:SQOk k s2) (h3:SQOk k s3) (h4:SQOk k s4) (h5:SQOk k s5):
  PCalls Tryz.prog 36 [.str [112,101,114,112,112,101,114,112],.agg (sqE p),spotsQ [s0,s1,s2,s3,s4,s5]] (ratQ [dotQ s0.p p.p s1.p s2.p,dotQ s3.p p.p s4.p s5.p]):=by
 refine pcalls_of_awp tyok cbR24meets Tryz.func36 rfl rfl ?_
 have g1:=r24dot_c k s0 p s1 s2 hk h0 hp h1 h2
 have g2:=r24dot_c k s3 p s4 s5 hk h3 hp h4 h5
 ((repeat(first|refine wKB ?_|refine awp_seq_k fun K hK=>?_|(refine wH ?_;clear hK)));refine wN fun b4=>?_;(repeat(first|refine wKB ?_|refine awp_seq_k fun K hK=>?_|refine wN fun bx=>?_|(refine wH ?_;clear hK))))
 refine awp_freeze [] (s:=4) rfl rfl ?_
 refine areg_soft mixed tyok [10,21] [(22,[])] (List.range 24) (by decide +kernel) ?_
 repeat(first|refine wDB ?_|refine awp_seq_k fun K hK=>?_|refine wN fun bx=>?_|refine qpc rfl rfl rfl (g1) ?_|refine qpc rfl rfl rfl (g2) ?_|refine qpo rfl rfl rfl rfl rfl rfl (fun _=>g1) ?_|refine qpo rfl rfl rfl rfl rfl rfl (fun _=>g2) ?_|(refine wH ?_;clear hK))
 refine r1 ?_
 exact(Sub.view _ _ _ _).trans (Sub.els fun i hi=>match i,hi with
  |0,_=>SubL.refl _
  |1,_=>SubL.refl _)
theorem r24meets_parperp (k:Nat) (hk:k≤1000) (p s0 s1 s2 s3 s4 s5:SQ) (hp:SQOk k p) (h0:SQOk k s0) (h1:SQOk k s1) (h2:SQOk k s2) (h3:SQOk k s3) (h4:SQOk k s4) (h5:SQOk k s5):
  PCalls Tryz.prog 36 [.str [112,97,114,112,101,114,112],.agg (sqE p),spotsQ [s0,s1,s2,s3,s4,s5]] (ratQ [crossQ s0.p p.p s1.p s2.p,dotQ s3.p p.p s4.p s5.p]):=by
 refine pcalls_of_awp tyok cbR24meets Tryz.func36 rfl rfl ?_
 have g1:=r24cross_c k s0 p s1 s2 hk h0 hp h1 h2
 have g2:=r24dot_c k s3 p s4 s5 hk h3 hp h4 h5
 ((repeat(first|refine wKB ?_|refine awp_seq_k fun K hK=>?_|(refine wH ?_;clear hK)));refine wN fun b4=>?_;(repeat(first|refine wKB ?_|refine awp_seq_k fun K hK=>?_|refine wN fun bx=>?_|(refine wH ?_;clear hK))))
 refine awp_freeze [] (s:=4) rfl rfl ?_
 refine areg_soft mixed tyok [10,21] [(22,[])] (List.range 24) (by decide +kernel) ?_
 repeat(first|refine wDB ?_|refine awp_seq_k fun K hK=>?_|refine wN fun bx=>?_|refine qpc rfl rfl rfl (g1) ?_|refine qpc rfl rfl rfl (g2) ?_|refine qpo rfl rfl rfl rfl rfl rfl (fun _=>g1) ?_|refine qpo rfl rfl rfl rfl rfl rfl (fun _=>g2) ?_|(refine wH ?_;clear hK))
 refine r1 ?_
 exact(Sub.view _ _ _ _).trans (Sub.els fun i hi=>match i,hi with
  |0,_=>SubL.refl _
  |1,_=>SubL.refl _)
theorem r24meets_bimeet (k:Nat) (hk:k≤1000) (p s0 s1 s2 s3:SQ) (hp:SQOk k p) (h0:SQOk k s0) (h1:SQOk k s1) (h2:SQOk k s2) (h3:SQOk k s3):
  PCalls Tryz.prog 36 [.str [98,105,109,101,101,116],.agg (sqE p),spotsQ [s0,s1,s2,s3]] (ratQ [(dotQ s0.p p.p s0.p p.p)-(dotQ s1.p p.p s1.p p.p),crossQ s2.p p.p s2.p s3.p]):=by
 refine pcalls_of_awp tyok cbR24meets Tryz.func36 rfl rfl ?_
 have q1:=h0.p.dot hp.p h0.p hp.p
 have g1:=r24dot_c k s0 p s0 p hk h0 hp h0 hp
 have q2:=h1.p.dot hp.p h1.p hp.p
 have g2:=r24dot_c k s1 p s1 p hk h1 hp h1 hp
 have g3:=r24sub_c (8*k+5) (by omega) q1 q2 (by omega) (by omega)
 have g4:=r24cross_c k s2 p s2 s3 hk h2 hp h2 h3
 ((repeat(first|refine wKB ?_|refine awp_seq_k fun K hK=>?_|(refine wH ?_;clear hK)));refine wN fun b4=>?_;(repeat(first|refine wKB ?_|refine awp_seq_k fun K hK=>?_|refine wN fun bx=>?_|(refine wH ?_;clear hK))))
 refine awp_freeze [] (s:=4) rfl rfl ?_
 refine areg_soft mixed tyok [8,17,18,29] [(30,[])] (List.range 32) (by decide +kernel) ?_
 repeat(first|refine wDB ?_|refine awp_seq_k fun K hK=>?_|refine wN fun bx=>?_|refine qpc rfl rfl rfl (g1) ?_|refine qpc rfl rfl rfl (g2) ?_|refine qpc rfl rfl rfl (g3) ?_|refine qpc rfl rfl rfl (g4) ?_|refine qpo rfl rfl rfl rfl rfl rfl (fun _=>g1) ?_|refine qpo rfl rfl rfl rfl rfl rfl (fun _=>g2) ?_|refine qpo rfl rfl rfl rfl rfl rfl (fun _=>g3) ?_|refine qpo rfl rfl rfl rfl rfl rfl (fun _=>g4) ?_|(refine wH ?_;clear hK))
 refine r1 ?_
 exact(Sub.view _ _ _ _).trans (Sub.els fun i hi=>match i,hi with
  |0,_=>SubL.refl _
  |1,_=>SubL.refl _)
theorem r24meets_bisbis (k:Nat) (hk:k≤1000) (p s0 s1 s2 s3:SQ) (hp:SQOk k p) (h0:SQOk k s0) (h1:SQOk k s1) (h2:SQOk k s2) (h3:SQOk k s3):
  PCalls Tryz.prog 36 [.str [98,105,115,98,105,115],.agg (sqE p),spotsQ [s0,s1,s2,s3]] (ratQ [(dotQ s0.p p.p s0.p p.p)-(dotQ s1.p p.p s1.p p.p),(dotQ s2.p p.p s2.p p.p)-(dotQ s3.p p.p s3.p p.p)]):=by
 refine pcalls_of_awp tyok cbR24meets Tryz.func36 rfl rfl ?_
 have q1:=h0.p.dot hp.p h0.p hp.p
 have g1:=r24dot_c k s0 p s0 p hk h0 hp h0 hp
 have q2:=h1.p.dot hp.p h1.p hp.p
 have g2:=r24dot_c k s1 p s1 p hk h1 hp h1 hp
 have g3:=r24sub_c (8*k+5) (by omega) q1 q2 (by omega) (by omega)
 have q4:=h2.p.dot hp.p h2.p hp.p
 have g4:=r24dot_c k s2 p s2 p hk h2 hp h2 hp
 have q5:=h3.p.dot hp.p h3.p hp.p
 have g5:=r24dot_c k s3 p s3 p hk h3 hp h3 hp
 have g6:=r24sub_c (8*k+5) (by omega) q4 q5 (by omega) (by omega)
 ((repeat(first|refine wKB ?_|refine awp_seq_k fun K hK=>?_|(refine wH ?_;clear hK)));refine wN fun b4=>?_;(repeat(first|refine wKB ?_|refine awp_seq_k fun K hK=>?_|refine wN fun bx=>?_|(refine wH ?_;clear hK))))
 refine awp_freeze [] (s:=4) rfl rfl ?_
 refine areg_soft mixed tyok [8,17,18,27,36,37] [(38,[])] (List.range 40) (by decide +kernel) ?_
 repeat(first|refine wDB ?_|refine awp_seq_k fun K hK=>?_|refine wN fun bx=>?_|refine qpc rfl rfl rfl (g1) ?_|refine qpc rfl rfl rfl (g2) ?_|refine qpc rfl rfl rfl (g3) ?_|refine qpc rfl rfl rfl (g4) ?_|refine qpc rfl rfl rfl (g5) ?_|refine qpc rfl rfl rfl (g6) ?_|refine qpo rfl rfl rfl rfl rfl rfl (fun _=>g1) ?_|refine qpo rfl rfl rfl rfl rfl rfl (fun _=>g2) ?_|refine qpo rfl rfl rfl rfl rfl rfl (fun _=>g3) ?_|refine qpo rfl rfl rfl rfl rfl rfl (fun _=>g4) ?_|refine qpo rfl rfl rfl rfl rfl rfl (fun _=>g5) ?_|refine qpo rfl rfl rfl rfl rfl rfl (fun _=>g6) ?_|(refine wH ?_;clear hK))
 refine r1 ?_
 exact(Sub.view _ _ _ _).trans (Sub.els fun i hi=>match i,hi with
  |0,_=>SubL.refl _
  |1,_=>SubL.refl _)
theorem r24meets_circumcentre (k:Nat) (hk:k≤1000) (p s0 s1 s2:SQ) (hp:SQOk k p) (h0:SQOk k s0) (h1:SQOk k s1) (h2:SQOk k s2):
  PCalls Tryz.prog 36 [.str [99,105,114,99,117,109,99,101,110,116,114,101],.agg (sqE p),spotsQ [s0,s1,s2]] (ratQ [(dotQ s0.p p.p s0.p p.p)-(dotQ s1.p p.p s1.p p.p),(dotQ s0.p p.p s0.p p.p)-(dotQ s2.p p.p s2.p p.p)]):=by
 refine pcalls_of_awp tyok cbR24meets Tryz.func36 rfl rfl ?_
 have q1:=h0.p.dot hp.p h0.p hp.p
 have g1:=r24dot_c k s0 p s0 p hk h0 hp h0 hp
 have q2:=h1.p.dot hp.p h1.p hp.p
 have g2:=r24dot_c k s1 p s1 p hk h1 hp h1 hp
 have g3:=r24sub_c (8*k+5) (by omega) q1 q2 (by omega) (by omega)
 have q4:=h2.p.dot hp.p h2.p hp.p
 have g4:=r24dot_c k s2 p s2 p hk h2 hp h2 hp
 have g5:=r24sub_c (8*k+5) (by omega) q1 q4 (by omega) (by omega)
 ((repeat(first|refine wKB ?_|refine awp_seq_k fun K hK=>?_|(refine wH ?_;clear hK)));refine wN fun b4=>?_;(repeat(first|refine wKB ?_|refine awp_seq_k fun K hK=>?_|refine wN fun bx=>?_|(refine wH ?_;clear hK))))
 refine awp_freeze [] (s:=4) rfl rfl ?_
 refine areg_soft mixed tyok [8,17,18,27,36,37] [(38,[])] (List.range 40) (by decide +kernel) ?_
 repeat(first|refine wDB ?_|refine awp_seq_k fun K hK=>?_|refine wN fun bx=>?_|refine qpc rfl rfl rfl (g1) ?_|refine qpc rfl rfl rfl (g2) ?_|refine qpc rfl rfl rfl (g3) ?_|refine qpc rfl rfl rfl (g4) ?_|refine qpc rfl rfl rfl (g5) ?_|refine qpo rfl rfl rfl rfl rfl rfl (fun _=>g1) ?_|refine qpo rfl rfl rfl rfl rfl rfl (fun _=>g2) ?_|refine qpo rfl rfl rfl rfl rfl rfl (fun _=>g3) ?_|refine qpo rfl rfl rfl rfl rfl rfl (fun _=>g4) ?_|refine qpo rfl rfl rfl rfl rfl rfl (fun _=>g5) ?_|(refine wH ?_;clear hK))
 refine r1 ?_
 exact(Sub.view _ _ _ _).trans (Sub.els fun i hi=>match i,hi with
  |0,_=>SubL.refl _
  |1,_=>SubL.refl _)
theorem r24meets_orthocentre (k:Nat) (hk:k≤1000) (p s0 s1 s2:SQ) (hp:SQOk k p) (h0:SQOk k s0) (h1:SQOk k s1) (h2:SQOk k s2):
  PCalls Tryz.prog 36 [.str [111,114,116,104,111,99,101,110,116,114,101],.agg (sqE p),spotsQ [s0,s1,s2]] (ratQ [dotQ s0.p p.p s1.p s2.p,dotQ s1.p p.p s2.p s0.p]):=by
 refine pcalls_of_awp tyok cbR24meets Tryz.func36 rfl rfl ?_
 have g1:=r24dot_c k s0 p s1 s2 hk h0 hp h1 h2
 have g2:=r24dot_c k s1 p s2 s0 hk h1 hp h2 h0
 ((repeat(first|refine wKB ?_|refine awp_seq_k fun K hK=>?_|(refine wH ?_;clear hK)));refine wN fun b4=>?_;(repeat(first|refine wKB ?_|refine awp_seq_k fun K hK=>?_|refine wN fun bx=>?_|(refine wH ?_;clear hK))))
 refine awp_freeze [] (s:=4) rfl rfl ?_
 refine areg_soft mixed tyok [10,21] [(22,[])] (List.range 24) (by decide +kernel) ?_
 repeat(first|refine wDB ?_|refine awp_seq_k fun K hK=>?_|refine wN fun bx=>?_|refine qpc rfl rfl rfl (g1) ?_|refine qpc rfl rfl rfl (g2) ?_|refine qpo rfl rfl rfl rfl rfl rfl (fun _=>g1) ?_|refine qpo rfl rfl rfl rfl rfl rfl (fun _=>g2) ?_|(refine wH ?_;clear hK))
 refine r1 ?_
 exact(Sub.view _ _ _ _).trans (Sub.els fun i hi=>match i,hi with
  |0,_=>SubL.refl _
  |1,_=>SubL.refl _)
theorem r24meets_second (k:Nat) (hk:k≤1000) (p s0 s1 s2:SQ) (hp:SQOk k p) (h0:SQOk k s0) (h1:SQOk k s1) (h2:SQOk k s2):
  PCalls Tryz.prog 36 [.str [115,101,99,111,110,100],.agg (sqE p),spotsQ [s0,s1,s2]] (ratQ [crossQ s0.p p.p s0.p s1.p,(dotQ s0.p p.p s0.p s1.p)-((((2:Int):Rat))*(dotQ s0.p s2.p s0.p s1.p))]):=by
 refine pcalls_of_awp tyok cbR24meets Tryz.func36 rfl rfl ?_
 have g1:=r24cross_c k s0 p s0 s1 hk h0 hp h0 h1
 have q2:=h0.p.dot hp.p h0.p h1.p
 have g2:=r24dot_c k s0 p s0 s1 hk h0 hp h0 h1
 have q3:=small_qok (n:=2) (by decide)
 have g3:=r24num_c 2 (by decide) (by decide)
 have q4:=h0.p.dot h2.p h0.p h1.p
 have g4:=r24dot_c k s0 s2 s0 s1 hk h0 h2 h0 h1
 have q5:=q3.mul q4
 have g5:=r24mul_c (8*k+5) (by omega) q3 q4 (by omega) (by omega)
 have g6:=r24sub_c (8*k+7) (by omega) q2 q5 (by omega) (by omega)
 ((repeat(first|refine wKB ?_|refine awp_seq_k fun K hK=>?_|(refine wH ?_;clear hK)));refine wN fun b4=>?_;(repeat(first|refine wKB ?_|refine awp_seq_k fun K hK=>?_|refine wN fun bx=>?_|(refine wH ?_;clear hK))))
 refine awp_freeze [] (s:=4) rfl rfl ?_
 refine areg_soft mixed tyok [10,21,22,35,36,37] [(38,[])] (List.range 40) (by decide +kernel) ?_
 repeat(first|refine wDB ?_|refine awp_seq_k fun K hK=>?_|refine wN fun bx=>?_|refine qpc rfl rfl rfl (g1) ?_|refine qpc rfl rfl rfl (g2) ?_|refine qpc rfl rfl rfl (g3) ?_|refine qpc rfl rfl rfl (g4) ?_|refine qpc rfl rfl rfl (g5) ?_|refine qpc rfl rfl rfl (g6) ?_|refine qpo rfl rfl rfl rfl rfl rfl (fun _=>g1) ?_|refine qpo rfl rfl rfl rfl rfl rfl (fun _=>g2) ?_|refine qpo rfl rfl rfl rfl rfl rfl (fun _=>g3) ?_|refine qpo rfl rfl rfl rfl rfl rfl (fun _=>g4) ?_|refine qpo rfl rfl rfl rfl rfl rfl (fun _=>g5) ?_|refine qpo rfl rfl rfl rfl rfl rfl (fun _=>g6) ?_|(refine wH ?_;clear hK))
 refine r1 ?_
 exact(Sub.view _ _ _ _).trans (Sub.els fun i hi=>match i,hi with
  |0,_=>SubL.refl _
  |1,_=>SubL.refl _)
theorem r24meets_other (k:Nat) (hk:k≤1000) (p s0 s1 s2:SQ) (hp:SQOk k p) (h0:SQOk k s0) (h1:SQOk k s1) (h2:SQOk k s2):
  PCalls Tryz.prog 36 [.str [111,116,104,101,114],.agg (sqE p),spotsQ [s0,s1,s2]] (ratQ [(crossQ s1.p s0.p s1.p s2.p)+(crossQ s1.p p.p s1.p s2.p),dotQ s0.p p.p s1.p s2.p]):=by
 refine pcalls_of_awp tyok cbR24meets Tryz.func36 rfl rfl ?_
 have q1:=h1.p.cross h0.p h1.p h2.p
 have g1:=r24cross_c k s1 s0 s1 s2 hk h1 h0 h1 h2
 have q2:=h1.p.cross hp.p h1.p h2.p
 have g2:=r24cross_c k s1 p s1 s2 hk h1 hp h1 h2
 have g3:=r24add_c (8*k+5) (by omega) q1 q2 (by omega) (by omega)
 have g4:=r24dot_c k s0 p s1 s2 hk h0 hp h1 h2
 ((repeat(first|refine wKB ?_|refine awp_seq_k fun K hK=>?_|(refine wH ?_;clear hK)));refine wN fun b4=>?_;(repeat(first|refine wKB ?_|refine awp_seq_k fun K hK=>?_|refine wN fun bx=>?_|(refine wH ?_;clear hK))))
 refine awp_freeze [] (s:=4) rfl rfl ?_
 refine areg_soft mixed tyok [12,23,24,35] [(36,[])] (List.range 38) (by decide +kernel) ?_
 repeat(first|refine wDB ?_|refine awp_seq_k fun K hK=>?_|refine wN fun bx=>?_|refine qpc rfl rfl rfl (g1) ?_|refine qpc rfl rfl rfl (g2) ?_|refine qpc rfl rfl rfl (g3) ?_|refine qpc rfl rfl rfl (g4) ?_|refine qpo rfl rfl rfl rfl rfl rfl (fun _=>g1) ?_|refine qpo rfl rfl rfl rfl rfl rfl (fun _=>g2) ?_|refine qpo rfl rfl rfl rfl rfl rfl (fun _=>g3) ?_|refine qpo rfl rfl rfl rfl rfl rfl (fun _=>g4) ?_|(refine wH ?_;clear hK))
 refine r1 ?_
 exact(Sub.view _ _ _ _).trans (Sub.els fun i hi=>match i,hi with
  |0,_=>SubL.refl _
  |1,_=>SubL.refl _)
theorem r24meets_inverse (k:Nat) (hk:k≤1000) (p s0 s1 s2:SQ) (hp:SQOk k p) (h0:SQOk k s0) (h1:SQOk k s1) (h2:SQOk k s2):
  PCalls Tryz.prog 36 [.str [105,110,118,101,114,115,101],.agg (sqE p),spotsQ [s0,s1,s2]] (ratQ [crossQ s1.p p.p s1.p s0.p,(dotQ s1.p p.p s1.p s0.p)-(dotQ s1.p s2.p s1.p s2.p)]):=by
 refine pcalls_of_awp tyok cbR24meets Tryz.func36 rfl rfl ?_
 have g1:=r24cross_c k s1 p s1 s0 hk h1 hp h1 h0
 have q2:=h1.p.dot hp.p h1.p h0.p
 have g2:=r24dot_c k s1 p s1 s0 hk h1 hp h1 h0
 have q3:=h1.p.dot h2.p h1.p h2.p
 have g3:=r24dot_c k s1 s2 s1 s2 hk h1 h2 h1 h2
 have g4:=r24sub_c (8*k+5) (by omega) q2 q3 (by omega) (by omega)
 ((repeat(first|refine wKB ?_|refine awp_seq_k fun K hK=>?_|(refine wH ?_;clear hK)));refine wN fun b4=>?_;(repeat(first|refine wKB ?_|refine awp_seq_k fun K hK=>?_|refine wN fun bx=>?_|(refine wH ?_;clear hK))))
 refine awp_freeze [] (s:=4) rfl rfl ?_
 refine areg_soft mixed tyok [10,21,34,35] [(36,[])] (List.range 38) (by decide +kernel) ?_
 repeat(first|refine wDB ?_|refine awp_seq_k fun K hK=>?_|refine wN fun bx=>?_|refine qpc rfl rfl rfl (g1) ?_|refine qpc rfl rfl rfl (g2) ?_|refine qpc rfl rfl rfl (g3) ?_|refine qpc rfl rfl rfl (g4) ?_|refine qpo rfl rfl rfl rfl rfl rfl (fun _=>g1) ?_|refine qpo rfl rfl rfl rfl rfl rfl (fun _=>g2) ?_|refine qpo rfl rfl rfl rfl rfl rfl (fun _=>g3) ?_|refine qpo rfl rfl rfl rfl rfl rfl (fun _=>g4) ?_|(refine wH ?_;clear hK))
 refine r1 ?_
 exact(Sub.view _ _ _ _).trans (Sub.els fun i hi=>match i,hi with
  |0,_=>SubL.refl _
  |1,_=>SubL.refl _)
end Go.Proofs.YthfglhjdnpoepaaGreatDoor
