/-
  The document's values of layer 24: constructions of a point on a line or a circle (printed by gen24.py)
-/
import Derived.Test.YthfglhjdnpoepaaGreatDoorSr1
set_option maxRecDepth 100000
set_option maxHeartbeats 12800000
namespace Go.Proofs.YthfglhjdnpoepaaGreatDoor
open Go.Ab
theorem cbR24lines:Callable Tryz.prog 34:=fun _ _=>by kernel_rfl
theorem r24lines_on (k:Nat) (hk:k≤1000) (p s0 s1:SQ) (hp:SQOk k p) (h0:SQOk k s0) (h1:SQOk k s1):
  PCalls Tryz.prog 34 [.str [111,110],.agg (sqE p),spotsQ [s0,s1]] (ratQ [crossQ s0.p p.p s0.p s1.p]):=by
 refine pcalls_of_awp tyok cbR24lines Tryz.func34 rfl rfl ?_
 have g1:=r24cross_c k s0 p s0 s1 hk h0 hp h0 h1
 ((repeat(first|refine wKB ?_|refine awp_seq_k fun K hK=>?_|(refine wH ?_;clear hK)));refine wN fun b4=>?_;(repeat(first|refine wKB ?_|refine awp_seq_k fun K hK=>?_|refine wN fun bx=>?_|(refine wH ?_;clear hK))))
 refine awp_freeze [] (s:=4) rfl rfl ?_
 refine areg_soft mixed tyok [10] [(11,[])] (List.range 13) (by decide +kernel) ?_
 repeat(first|refine wDB ?_|refine awp_seq_k fun K hK=>?_|refine wN fun bx=>?_|refine qpc rfl rfl rfl (g1) ?_|refine qpo rfl rfl rfl rfl rfl rfl (fun _=>g1) ?_|(refine wH ?_;clear hK))
 refine r1 ?_
 exact(Sub.view _ _ _ _).trans (Sub.els fun i hi=>match i,hi with
  |0,_=>SubL.refl _)
theorem r24lines_onpar (k:Nat) (hk:k≤1000) (p s0 s1 s2:SQ) (hp:SQOk k p) (h0:SQOk k s0) (h1:SQOk k s1) (h2:SQOk k s2):
  PCalls Tryz.prog 34 [.str [111,110,112,97,114],.agg (sqE p),spotsQ [s0,s1,s2]] (ratQ [crossQ s0.p p.p s1.p s2.p]):=by
 refine pcalls_of_awp tyok cbR24lines Tryz.func34 rfl rfl ?_
 have g1:=r24cross_c k s0 p s1 s2 hk h0 hp h1 h2
 ((repeat(first|refine wKB ?_|refine awp_seq_k fun K hK=>?_|(refine wH ?_;clear hK)));refine wN fun b4=>?_;(repeat(first|refine wKB ?_|refine awp_seq_k fun K hK=>?_|refine wN fun bx=>?_|(refine wH ?_;clear hK))))
 refine awp_freeze [] (s:=4) rfl rfl ?_
 refine areg_soft mixed tyok [10] [(11,[])] (List.range 13) (by decide +kernel) ?_
 repeat(first|refine wDB ?_|refine awp_seq_k fun K hK=>?_|refine wN fun bx=>?_|refine qpc rfl rfl rfl (g1) ?_|refine qpo rfl rfl rfl rfl rfl rfl (fun _=>g1) ?_|(refine wH ?_;clear hK))
 refine r1 ?_
 exact(Sub.view _ _ _ _).trans (Sub.els fun i hi=>match i,hi with
  |0,_=>SubL.refl _)
theorem r24lines_onperp (k:Nat) (hk:k≤1000) (p s0 s1 s2:SQ) (hp:SQOk k p) (h0:SQOk k s0) (h1:SQOk k s1) (h2:SQOk k s2):
  PCalls Tryz.prog 34 [.str [111,110,112,101,114,112],.agg (sqE p),spotsQ [s0,s1,s2]] (ratQ [dotQ s0.p p.p s1.p s2.p]):=by
 refine pcalls_of_awp tyok cbR24lines Tryz.func34 rfl rfl ?_
 have g1:=r24dot_c k s0 p s1 s2 hk h0 hp h1 h2
 ((repeat(first|refine wKB ?_|refine awp_seq_k fun K hK=>?_|(refine wH ?_;clear hK)));refine wN fun b4=>?_;(repeat(first|refine wKB ?_|refine awp_seq_k fun K hK=>?_|refine wN fun bx=>?_|(refine wH ?_;clear hK))))
 refine awp_freeze [] (s:=4) rfl rfl ?_
 refine areg_soft mixed tyok [10] [(11,[])] (List.range 13) (by decide +kernel) ?_
 repeat(first|refine wDB ?_|refine awp_seq_k fun K hK=>?_|refine wN fun bx=>?_|refine qpc rfl rfl rfl (g1) ?_|refine qpo rfl rfl rfl rfl rfl rfl (fun _=>g1) ?_|(refine wH ?_;clear hK))
 refine r1 ?_
 exact(Sub.view _ _ _ _).trans (Sub.els fun i hi=>match i,hi with
  |0,_=>SubL.refl _)
theorem r24lines_onbis (k:Nat) (hk:k≤1000) (p s0 s1:SQ) (hp:SQOk k p) (h0:SQOk k s0) (h1:SQOk k s1):
  PCalls Tryz.prog 34 [.str [111,110,98,105,115],.agg (sqE p),spotsQ [s0,s1]] (ratQ [(dotQ s0.p p.p s0.p p.p)-(dotQ s1.p p.p s1.p p.p)]):=by
 refine pcalls_of_awp tyok cbR24lines Tryz.func34 rfl rfl ?_
 have q1:=h0.p.dot hp.p h0.p hp.p
 have g1:=r24dot_c k s0 p s0 p hk h0 hp h0 hp
 have q2:=h1.p.dot hp.p h1.p hp.p
 have g2:=r24dot_c k s1 p s1 p hk h1 hp h1 hp
 have g3:=r24sub_c (8*k+5) (by omega) q1 q2 (by omega) (by omega)
 ((repeat(first|refine wKB ?_|refine awp_seq_k fun K hK=>?_|(refine wH ?_;clear hK)));refine wN fun b4=>?_;(repeat(first|refine wKB ?_|refine awp_seq_k fun K hK=>?_|refine wN fun bx=>?_|(refine wH ?_;clear hK))))
 refine awp_freeze [] (s:=4) rfl rfl ?_
 refine areg_soft mixed tyok [8,17,18] [(19,[])] (List.range 21) (by decide +kernel) ?_
 repeat(first|refine wDB ?_|refine awp_seq_k fun K hK=>?_|refine wN fun bx=>?_|refine qpc rfl rfl rfl (g1) ?_|refine qpc rfl rfl rfl (g2) ?_|refine qpc rfl rfl rfl (g3) ?_|refine qpo rfl rfl rfl rfl rfl rfl (fun _=>g1) ?_|refine qpo rfl rfl rfl rfl rfl rfl (fun _=>g2) ?_|refine qpo rfl rfl rfl rfl rfl rfl (fun _=>g3) ?_|(refine wH ?_;clear hK))
 refine r1 ?_
 exact(Sub.view _ _ _ _).trans (Sub.els fun i hi=>match i,hi with
  |0,_=>SubL.refl _)
theorem r24lines_oncircle (k:Nat) (hk:k≤1000) (p s0 s1:SQ) (hp:SQOk k p) (h0:SQOk k s0) (h1:SQOk k s1):
  PCalls Tryz.prog 34 [.str [111,110,99,105,114,99,108,101],.agg (sqE p),spotsQ [s0,s1]] (ratQ [(dotQ s0.p p.p s0.p p.p)-(dotQ s0.p s1.p s0.p s1.p)]):=by
 refine pcalls_of_awp tyok cbR24lines Tryz.func34 rfl rfl ?_
 have q1:=h0.p.dot hp.p h0.p hp.p
 have g1:=r24dot_c k s0 p s0 p hk h0 hp h0 hp
 have q2:=h0.p.dot h1.p h0.p h1.p
 have g2:=r24dot_c k s0 s1 s0 s1 hk h0 h1 h0 h1
 have g3:=r24sub_c (8*k+5) (by omega) q1 q2 (by omega) (by omega)
 ((repeat(first|refine wKB ?_|refine awp_seq_k fun K hK=>?_|(refine wH ?_;clear hK)));refine wN fun b4=>?_;(repeat(first|refine wKB ?_|refine awp_seq_k fun K hK=>?_|refine wN fun bx=>?_|(refine wH ?_;clear hK))))
 refine awp_freeze [] (s:=4) rfl rfl ?_
 refine areg_soft mixed tyok [8,21,22] [(23,[])] (List.range 25) (by decide +kernel) ?_
 repeat(first|refine wDB ?_|refine awp_seq_k fun K hK=>?_|refine wN fun bx=>?_|refine qpc rfl rfl rfl (g1) ?_|refine qpc rfl rfl rfl (g2) ?_|refine qpc rfl rfl rfl (g3) ?_|refine qpo rfl rfl rfl rfl rfl rfl (fun _=>g1) ?_|refine qpo rfl rfl rfl rfl rfl rfl (fun _=>g2) ?_|refine qpo rfl rfl rfl rfl rfl rfl (fun _=>g3) ?_|(refine wH ?_;clear hK))
 refine r1 ?_
 exact(Sub.view _ _ _ _).trans (Sub.els fun i hi=>match i,hi with
  |0,_=>SubL.refl _)
theorem r24lines_ondiam (k:Nat) (hk:k≤1000) (p s0 s1:SQ) (hp:SQOk k p) (h0:SQOk k s0) (h1:SQOk k s1):
  PCalls Tryz.prog 34 [.str [111,110,100,105,97,109],.agg (sqE p),spotsQ [s0,s1]] (ratQ [dotQ s0.p p.p s1.p p.p]):=by
 refine pcalls_of_awp tyok cbR24lines Tryz.func34 rfl rfl ?_
 have g1:=r24dot_c k s0 p s1 p hk h0 hp h1 hp
 ((repeat(first|refine wKB ?_|refine awp_seq_k fun K hK=>?_|(refine wH ?_;clear hK)));refine wN fun b4=>?_;(repeat(first|refine wKB ?_|refine awp_seq_k fun K hK=>?_|refine wN fun bx=>?_|(refine wH ?_;clear hK))))
 refine awp_freeze [] (s:=4) rfl rfl ?_
 refine areg_soft mixed tyok [8] [(9,[])] (List.range 11) (by decide +kernel) ?_
 repeat(first|refine wDB ?_|refine awp_seq_k fun K hK=>?_|refine wN fun bx=>?_|refine qpc rfl rfl rfl (g1) ?_|refine qpo rfl rfl rfl rfl rfl rfl (fun _=>g1) ?_|(refine wH ?_;clear hK))
 refine r1 ?_
 exact(Sub.view _ _ _ _).trans (Sub.els fun i hi=>match i,hi with
  |0,_=>SubL.refl _)
theorem r24lines_oncirc (k:Nat) (hk:k≤1000) (p s0 s1 s2:SQ) (hp:SQOk k p) (h0:SQOk k s0) (h1:SQOk k s1) (h2:SQOk k s2):
  PCalls Tryz.prog 34 [.str [111,110,99,105,114,99],.agg (sqE p),spotsQ [s0,s1,s2]] (ratQ [((crossQ p.p s0.p p.p s1.p)*(dotQ s2.p s0.p s2.p s1.p))-((dotQ p.p s0.p p.p s1.p)*(crossQ s2.p s0.p s2.p s1.p))]):=by
 refine pcalls_of_awp tyok cbR24lines Tryz.func34 rfl rfl ?_
 have q1:=hp.p.cross h0.p hp.p h1.p
 have g1:=r24cross_c k p s0 p s1 hk hp h0 hp h1
 have q2:=h2.p.dot h0.p h2.p h1.p
 have g2:=r24dot_c k s2 s0 s2 s1 hk h2 h0 h2 h1
 have q3:=q1.mul q2
 have g3:=r24mul_c (8*k+5) (by omega) q1 q2 (by omega) (by omega)
 have q4:=hp.p.dot h0.p hp.p h1.p
 have g4:=r24dot_c k p s0 p s1 hk hp h0 hp h1
 have q5:=h2.p.cross h0.p h2.p h1.p
 have g5:=r24cross_c k s2 s0 s2 s1 hk h2 h0 h2 h1
 have q6:=q4.mul q5
 have g6:=r24mul_c (8*k+5) (by omega) q4 q5 (by omega) (by omega)
 have g7:=r24sub_c (16*k+10) (by omega) q3 q6 (by omega) (by omega)
 ((repeat(first|refine wKB ?_|refine awp_seq_k fun K hK=>?_|(refine wH ?_;clear hK)));refine wN fun b4=>?_;(repeat(first|refine wKB ?_|refine awp_seq_k fun K hK=>?_|refine wN fun bx=>?_|(refine wH ?_;clear hK))))
 refine awp_freeze [] (s:=4) rfl rfl ?_
 refine areg_soft mixed tyok [8,21,22,31,44,45,46] [(47,[])] (List.range 49) (by decide +kernel) ?_
 repeat(first|refine wDB ?_|refine awp_seq_k fun K hK=>?_|refine wN fun bx=>?_|refine qpc rfl rfl rfl (g1) ?_|refine qpc rfl rfl rfl (g2) ?_|refine qpc rfl rfl rfl (g3) ?_|refine qpc rfl rfl rfl (g4) ?_|refine qpc rfl rfl rfl (g5) ?_|refine qpc rfl rfl rfl (g6) ?_|refine qpc rfl rfl rfl (g7) ?_|refine qpo rfl rfl rfl rfl rfl rfl (fun _=>g1) ?_|refine qpo rfl rfl rfl rfl rfl rfl (fun _=>g2) ?_|refine qpo rfl rfl rfl rfl rfl rfl (fun _=>g3) ?_|refine qpo rfl rfl rfl rfl rfl rfl (fun _=>g4) ?_|refine qpo rfl rfl rfl rfl rfl rfl (fun _=>g5) ?_|refine qpo rfl rfl rfl rfl rfl rfl (fun _=>g6) ?_|refine qpo rfl rfl rfl rfl rfl rfl (fun _=>g7) ?_|(refine wH ?_;clear hK))
 refine r1 ?_
 exact(Sub.view _ _ _ _).trans (Sub.els fun i hi=>match i,hi with
  |0,_=>SubL.refl _)
theorem r24lines_tangent (k:Nat) (hk:k≤1000) (p s0 s1:SQ) (hp:SQOk k p) (h0:SQOk k s0) (h1:SQOk k s1):
  PCalls Tryz.prog 34 [.str [116,97,110,103,101,110,116],.agg (sqE p),spotsQ [s0,s1]] (ratQ [dotQ s0.p p.p s0.p s1.p]):=by
 refine pcalls_of_awp tyok cbR24lines Tryz.func34 rfl rfl ?_
 have g1:=r24dot_c k s0 p s0 s1 hk h0 hp h0 h1
 ((repeat(first|refine wKB ?_|refine awp_seq_k fun K hK=>?_|(refine wH ?_;clear hK)));refine wN fun b4=>?_;(repeat(first|refine wKB ?_|refine awp_seq_k fun K hK=>?_|refine wN fun bx=>?_|(refine wH ?_;clear hK))))
 refine awp_freeze [] (s:=4) rfl rfl ?_
 refine areg_soft mixed tyok [10] [(11,[])] (List.range 13) (by decide +kernel) ?_
 repeat(first|refine wDB ?_|refine awp_seq_k fun K hK=>?_|refine wN fun bx=>?_|refine qpc rfl rfl rfl (g1) ?_|refine qpo rfl rfl rfl rfl rfl rfl (fun _=>g1) ?_|(refine wH ?_;clear hK))
 refine r1 ?_
 exact(Sub.view _ _ _ _).trans (Sub.els fun i hi=>match i,hi with
  |0,_=>SubL.refl _)
theorem r24lines_no (w:List UInt8) (p:SQ) (l:List SQ) (hw:w∈([[109,105,100,112,111,105,110,116],[114,101,102,108,101,99,116],[99,101,110,116,114,111,105,100],[116,114,97,110,115,108,97,116,101],[116,117,114,110],[114,97,116,105,111],[102,111,111,116],[109,105,114,114,111,114],[109,101,101,116],[112,97,114,109,101,101,116],[112,101,114,112,109,101,101,116],[112,97,114,112,97,114],[112,101,114,112,112,101,114,112],[112,97,114,112,101,114,112],[98,105,109,101,101,116],[98,105,115,98,105,115],[99,105,114,99,117,109,99,101,110,116,114,101],[111,114,116,104,111,99,101,110,116,114,101],[115,101,99,111,110,100],[111,116,104,101,114],[105,110,118,101,114,115,101]]:List (List UInt8))):PCalls Tryz.prog 34 [.str w,.agg (sqE p),spotsQ l] (ratQ []):=by
 refine pcalls_of_awp tyok cbR24lines Tryz.func34 rfl rfl ?_
 simp only[List.mem_cons,List.mem_nil_iff,or_false]at hw
 rcases hw with rfl|rfl|rfl|rfl|rfl|rfl|rfl|rfl|rfl|rfl|rfl|rfl|rfl|rfl|rfl|rfl|rfl|rfl|rfl|rfl|rfl
 all_goals
  repeat(first|refine wKB ?_|refine awp_seq_k fun K hK=>?_|refine wN fun bx=>?_|(refine wH ?_;clear hK))
  refine r1 ?_
  exact Sub.nilsv _ _
end Go.Proofs.YthfglhjdnpoepaaGreatDoor
