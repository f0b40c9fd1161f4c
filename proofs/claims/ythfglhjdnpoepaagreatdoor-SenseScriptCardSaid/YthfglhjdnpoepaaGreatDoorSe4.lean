/-
  Layer 24 (sense): Made, Asked, Condition.
-/
import Derived.Test.YthfglhjdnpoepaaGreatDoorSeM
import Derived.Test.YthfglhjdnpoepaaGreatDoorFz
import Derived.Test.YthfglhjdnpoepaaGreatDoorAb35
set_option maxRecDepth 100000
set_option maxHeartbeats 6400000
namespace Go.Proofs.YthfglhjdnpoepaaGreatDoor
open Go.Ab
def spP (l:List SpotR):Nat→Rat×Rat:=fun i=>(l.getD i default).p
noncomputable def madeQ (w:List UInt8) (p:SpotR) (l:List SpotR) (nums:List Int):List Rat×Int:=
 match conF w with
 |none=>([],5)
 |some f=>if(l.length:Int)=f.pts∧(nums.length:Int)=f.nums then(f.eqs.map (eqQ (spP (p::l)) nums),0) else([],13)
noncomputable def askedQ (w:List UInt8) (l:List SpotR):List Rat×Int:=
 match preF w with
 |none=>([],5)
 |some f=>if(l.length:Int)=f.pts then(f.eqs.map (eqQ (spP l) []),0) else([],13)
theorem cons_subS {x:SpotR} {r:List SpotR} {o:Go.Ab.Own} {el1 el2:Nat→List AV} (h:SubL (el1 0) (spE x)) (h2:el2=fun i=>spE (r.getD i default)):Sub (.slice 8 (1+r.length) (glue 1 el1 el2) o) (sl spE 8 (x::r) o):=by
 subst h2
 unfold sl
 rw[List.length_cons,Nat.add_comm]
 refine Sub.els fun i _=>?_
 unfold glue
 cases i with
 |zero=>exact h
 |succ i=>
  rw[if_neg (by omega)]
  exact SubL.refl _
theorem cbSMade:Callable Tryz.prog 9:=fun _ _=>by kernel_rfl
theorem smade_c (k:Nat) (w:List UInt8) (p:SpotR) (l:List SpotR) (nums:List Int) (hk1:1≤k) (hk:k≤100) (hp:SpotOk k p) (h:SpotsOk k l) (hl:l.length≤1000000) (hN:∀z∈nums,-9223372036854775808≤z∧z≤9223372036854775807) (hNl:nums.length≤1000000):
  PCalls Tryz.prog 9 [.str w,.agg (spE p),spots l,nums30 nums] (.tuple [ratL (madeQ w p l nums).1,.int .i64 (madeQ w p l nums).2]):=by
 refine pcalls_of_awp tyok cbSMade Tryz.func9 rfl rfl ?_
 have g:=construction_c w
 rw[figV_eq]at g
 unfold madeQ
 cases hc:conF w with
 |none=>
  rw[hc]at g
  have g:PCalls Tryz.prog 30 [.str w] (.tuple [.agg (figE figZ),.bool false]):=g
  repeat(first|refine wDB ?_|refine awp_seq_k fun K hK=>?_|refine wN fun bx=>?_|refine qpc rfl rfl rfl (g) ?_|refine qpo rfl rfl rfl rfl rfl rfl (fun _=>g) ?_|(refine wH ?_;clear hK))
  refine r2 ?_ ?_
  ·exact Sub.nilsv _ _
  ·exact Sub.refl _
 |some f=>
  rw[hc]at g
  have g:PCalls Tryz.prog 30 [.str w] (.tuple [.agg (figE f),.bool true]):=g
  simp only
  have hin:=con_in hc
  by_cases h1:(l.length:Int)=f.pts
  rotate_left
  ·rw[if_neg (fun e=>h1 e.1)]
   ((repeat(first|refine wDB ?_|refine awp_seq_k fun K hK=>?_|refine qpc rfl rfl rfl (g) ?_|refine qpo rfl rfl rfl rfl rfl rfl (fun _=>g) ?_|(refine wH ?_;clear hK)));refine wN fun b5=>?_;(repeat(first|refine wDB ?_|refine awp_seq_k fun K hK=>?_|refine qpc rfl rfl rfl (g) ?_|refine qpo rfl rfl rfl rfl rfl rfl (fun _=>g) ?_|(refine wH ?_;clear hK)));refine wN fun b10=>?_;(repeat(first|refine wDB ?_|refine awp_seq_k fun K hK=>?_|refine wN fun bx=>?_|refine qpc rfl rfl rfl (g) ?_|refine qpo rfl rfl rfl rfl rfl rfl (fun _=>g) ?_|(refine wH ?_;clear hK))))
   refine r2 ?_ ?_
   ·exact Sub.nilsv _ _
   ·exact Sub.refl _
  by_cases h2:(nums.length:Int)=f.nums
  rotate_left
  ·rw[if_neg (fun e=>h2 e.2)]
   ((repeat(first|refine wDB ?_|refine awp_seq_k fun K hK=>?_|refine qpc rfl rfl rfl (g) ?_|refine qpo rfl rfl rfl rfl rfl rfl (fun _=>g) ?_|(refine wH ?_;clear hK)));refine wN fun b5=>?_;(repeat(first|refine wDB ?_|refine awp_seq_k fun K hK=>?_|refine qpc rfl rfl rfl (g) ?_|refine qpo rfl rfl rfl rfl rfl rfl (fun _=>g) ?_|(refine wH ?_;clear hK)));refine wN fun b10=>?_;(repeat(first|refine wDB ?_|refine awp_seq_k fun K hK=>?_|refine wN fun bx=>?_|refine qpc rfl rfl rfl (g) ?_|refine qpo rfl rfl rfl rfl rfl rfl (fun _=>g) ?_|(refine wH ?_;clear hK))))
   refine r2 ?_ ?_
   ·exact Sub.nilsv _ _
   ·exact Sub.refl _
  rw[if_pos ⟨h1,h2⟩]
  have hfin:=(figB_in (n:=(p::l).length) (m:=nums.length) hin (by rw[List.length_cons];omega) h2).1
  have hall:SpotsOk k (p::l):=fun s hs=>by
   rcases List.mem_cons.1 hs with rfl|hs
   ·exact hp
   ·exact h s hs
  have gv:=svalues_c k (p::l) nums f hk1 hk hall hN hNl hfin
  ((repeat(first|refine wKB ?_|refine awp_seq_k fun K hK=>?_|refine qpc rfl rfl rfl (g) ?_|refine qpo rfl rfl rfl rfl rfl rfl (fun _=>g) ?_|(refine wH ?_;clear hK)));refine wN fun b5=>?_;(repeat(first|refine wKB ?_|refine awp_seq_k fun K hK=>?_|refine qpc rfl rfl rfl (g) ?_|refine qpo rfl rfl rfl rfl rfl rfl (fun _=>g) ?_|(refine wH ?_;clear hK)));refine wN fun b10=>?_;(repeat(first|refine wKB ?_|refine awp_seq_k fun K hK=>?_|refine wN fun bx=>?_|refine qpc rfl rfl rfl (g) ?_|refine qpo rfl rfl rfl rfl rfl rfl (fun _=>g) ?_|(refine wH ?_;clear hK))))
  refine awp_boxSub [] (v':=.agg (figE f)) (Sub.of_eq rfl) ?_
  refine awp_freeze [] (s:=10) rfl rfl ?_
  refine awp_freeze [] (s:=5) rfl rfl ?_
  refine areg_kept mixed tyok [] [0,2,4,5,1,3,6,7,8] (by decide +kernel) ?_
  repeat(first|refine wDB ?_|refine awp_seq_k fun K hK=>?_|refine wN fun bx=>?_|(refine wH ?_;clear hK))
  refine TR.appendF2 tyok (fun ad cp=>sl spE 8 (p::l) (.own ad cp)) rfl rfl rfl rfl True.intro rfl rfl rfl rfl rfl rfl rfl rfl rfl rfl rfl ?_ (fun ad cp=>?_) fun ad cp=>?_
  ·simp only
   omega
  ·exact cons_subS (SubL.refl _) rfl
  have gv2:=PCalls.sub gv (vs:=[sl spE 8 (p::l) (.own ad cp),.agg (figE f),nums30 nums]) (.cons (Sub.view _ _ _ _) (SubL.refl _))
  repeat(first|refine wDB ?_|refine awp_seq_k fun K hK=>?_|refine wN fun bx=>?_|refine qpc rfl rfl rfl (gv2) ?_|refine qpo rfl rfl rfl rfl rfl rfl (fun _=>gv2) ?_|(refine wH ?_;clear hK))
  refine r2 ?_ ?_
  ·exact Sub.refl _
  ·exact Sub.refl _
theorem cbSAsked:Callable Tryz.prog 13:=fun _ _=>by kernel_rfl
theorem sasked_c (k:Nat) (w:List UInt8) (l:List SpotR) (hk1:1≤k) (hk:k≤100) (h:SpotsOk k l) (_:l.length≤1000000):
  PCalls Tryz.prog 13 [.str w,spots l] (.tuple [ratL (askedQ w l).1,.int .i64 (askedQ w l).2]):=by
 refine pcalls_of_awp tyok cbSAsked Tryz.func13 rfl rfl ?_
 have g:=predicate_c w
 rw[figV_eq]at g
 unfold askedQ
 cases hc:preF w with
 |none=>
  rw[hc]at g
  have g:PCalls Tryz.prog 37 [.str w] (.tuple [.agg (figE figZ),.bool false]):=g
  repeat(first|refine wDB ?_|refine awp_seq_k fun K hK=>?_|refine wN fun bx=>?_|refine qpc rfl rfl rfl (g) ?_|refine qpo rfl rfl rfl rfl rfl rfl (fun _=>g) ?_|(refine wH ?_;clear hK))
  refine r2 ?_ ?_
  ·exact Sub.nilsv _ _
  ·exact Sub.refl _
 |some f=>
  rw[hc]at g
  have g:PCalls Tryz.prog 37 [.str w] (.tuple [.agg (figE f),.bool true]):=g
  simp only
  have hin:=pre_in hc
  by_cases h1:(l.length:Int)=f.pts
  rotate_left
  ·rw[if_neg h1]
   repeat(first|refine wDB ?_|refine awp_seq_k fun K hK=>?_|refine wN fun bx=>?_|refine qpc rfl rfl rfl (g) ?_|refine qpo rfl rfl rfl rfl rfl rfl (fun _=>g) ?_|(refine wH ?_;clear hK))
   refine r2 ?_ ?_
   ·exact Sub.nilsv _ _
   ·exact Sub.refl _
  rw[if_pos h1]
  have hnm:f.nums=0:=by
   have:preL.all (fun f=>decide (f.nums=0))=true:=by decide +kernel
   exact of_decide_eq_true (List.all_eq_true.1 this f (pre_mem hc).1)
  have hfin:=(figB_in (n:=l.length) (m:=([]:List Int).length) hin (by omega) (by rw[hnm];rfl)).1
  have gv:=svalues_c k l [] f hk1 hk h (fun z hz=>absurd hz List.not_mem_nil) (by decide) hfin
  have gv2:=PCalls.sub gv (vs:=[spots l,.agg (figE f),.nils]) (.cons (Sub.refl _) (.cons (Sub.refl _) (.cons (Sub.nilsv _ _) .nil)))
  repeat(first|refine wDB ?_|refine awp_seq_k fun K hK=>?_|refine wN fun bx=>?_|refine qpc rfl rfl rfl (g) ?_|refine qpc rfl rfl rfl (gv2) ?_|refine qpo rfl rfl rfl rfl rfl rfl (fun _=>g) ?_|refine qpo rfl rfl rfl rfl rfl rfl (fun _=>gv2) ?_|(refine wH ?_;clear hK))
  refine r2 ?_ ?_
  ·exact Sub.refl _
  ·exact Sub.refl _
def condL:List (List UInt8):=[[117,110,108,105,107,101],[97,112,97,114,116],[99,114,111,115,115],[100,111,116]]
def condQ (w:List UInt8) (n:Nat) (P:Nat→Rat×Rat):Option Rat×Int:=
 if w=[117,110,108,105,107,101] then(if n=2 then(some (dotQ (P 0) (P 1) (P 0) (P 1)),0) else(none,13))
 else if w=[97,112,97,114,116] then(if n=3 then(some (crossQ (P 0) (P 1) (P 0) (P 2)),0) else(none,13))
 else if w=[99,114,111,115,115] then(if n=4 then(some (crossQ (P 0) (P 1) (P 2) (P 3)),0) else(none,13))
 else if w=[100,111,116] then(if n=4 then(some (dotQ (P 0) (P 1) (P 2) (P 3)),0) else(none,13))
 else(none,5)
def ratO:Option Rat→RatR
 |some q=>ratC q
 |none=>⟨⟨false,[]⟩,⟨false,[]⟩⟩
theorem conds_sub:Sub (.slice 1 4 (chunk [.str [117,110,108,105,107,101],.str [97,112,97,114,116],.str [99,114,111,115,115],.str [100,111,116]] 1) .full) (sl txtE 1 condL .view):=
 (Sub.view _ _ _ _).trans (Sub.els fun i hi=>match i,hi with
   |0,_=>SubL.refl _
   |1,_=>SubL.refl _
   |2,_=>SubL.refl _
   |3,_=>SubL.refl _)
theorem condIx_c (w:List UInt8):PCalls Tryz.prog 41 [.slice 1 4 (chunk [.str [117,110,108,105,107,101],.str [97,112,97,114,116],.str [99,114,111,115,115],.str [100,111,116]] 1) .full,.str w] (.int .i64 (idxL w condL)):=
 PCalls.sub (index_c condL w (by decide)) (.cons conds_sub (SubL.refl _))
theorem zrat_sub:Sub (.agg [.bool false,.nils,.bool false,.nils]) (.agg (ratEs ⟨⟨false,[]⟩,⟨false,[]⟩⟩)):=subAgg (.cons (Sub.refl _) (.cons (Sub.nilsv _ _) (.cons (Sub.refl _) (.cons (Sub.nilsv _ _) .nil))))
theorem cbSCond:Callable Tryz.prog 15:=fun _ _=>by kernel_rfl
theorem scond_c (k:Nat) (w:List UInt8) (l:List SpotR) (hk1:1≤k) (hk:k≤100) (h:SpotsOk k l) (_:l.length≤1000000):
  PCalls Tryz.prog 15 [.str w,spots l] (.tuple [.agg (ratEs (ratO (condQ w l.length (spP l)).1)),.int .i64 (condQ w l.length (spP l)).2]):=by
 refine pcalls_of_awp tyok cbSCond Tryz.func15 rfl rfl ?_
 have g:=condIx_c w
 unfold condQ
 by_cases w0:w=[117,110,108,105,107,101]
 ·subst w0
  rw[if_pos rfl]
  rw[show idxL [117,110,108,105,107,101] condL=0 by decide]at g
  by_cases hn:l.length=2
  ·rw[if_pos hn]
   have hn':(l.length:Int)=2:=by omega
   have g2:=sdot_c k l ⟨0,0,1,0,1⟩ hk1 (by omega) h ⟨by show 0<l.length;omega,by show 1<l.length;omega,by show 0<l.length;omega,by show 1<l.length;omega⟩
   repeat(first|refine wDB ?_|refine awp_seq_k fun K hK=>?_|refine wN fun bx=>?_|refine qpc rfl rfl rfl (g) ?_|refine qpo rfl rfl rfl rfl rfl rfl (fun _=>g) ?_|(refine wH ?_;clear hK))
   refine qarr tyok (cells:=[.int .i64 2,.int .i64 3,.int .i64 4,.int .i64 4]) ?_
   repeat(first|refine wDB ?_|refine awp_seq_k fun K hK=>?_|refine wN fun bx=>?_|refine qpc rfl rfl rfl (g) ?_|refine qpo rfl rfl rfl rfl rfl rfl (fun _=>g) ?_|(refine wH ?_;clear hK))
   refine qaix tyok (v:=.int .i64 2) ?_
   repeat(first|refine wDB ?_|refine awp_seq_k fun K hK=>?_|refine wN fun bx=>?_|refine qpc rfl rfl rfl (g) ?_|refine qpc rfl rfl rfl (g2) ?_|refine qpo rfl rfl rfl rfl rfl rfl (fun _=>g) ?_|refine qpo rfl rfl rfl rfl rfl rfl (fun _=>g2) ?_|(refine wH ?_;clear hK))
   refine rcB ?_ ?_
   ·exact Sub.refl _
   ·exact Sub.refl _
  ·rw[if_neg hn]
   have hn':¬(l.length:Int)=2:=by omega
   repeat(first|refine wDB ?_|refine awp_seq_k fun K hK=>?_|refine wN fun bx=>?_|refine qpc rfl rfl rfl (g) ?_|refine qpo rfl rfl rfl rfl rfl rfl (fun _=>g) ?_|(refine wH ?_;clear hK))
   refine qarr tyok (cells:=[.int .i64 2,.int .i64 3,.int .i64 4,.int .i64 4]) ?_
   repeat(first|refine wDB ?_|refine awp_seq_k fun K hK=>?_|refine wN fun bx=>?_|refine qpc rfl rfl rfl (g) ?_|refine qpo rfl rfl rfl rfl rfl rfl (fun _=>g) ?_|(refine wH ?_;clear hK))
   refine qaix tyok (v:=.int .i64 2) ?_
   repeat(first|refine wDB ?_|refine awp_seq_k fun K hK=>?_|refine wN fun bx=>?_|refine qpc rfl rfl rfl (g) ?_|refine qpo rfl rfl rfl rfl rfl rfl (fun _=>g) ?_|(refine wH ?_;clear hK))
   refine rcB ?_ ?_
   ·exact zrat_sub
   ·exact Sub.refl _
 by_cases w1:w=[97,112,97,114,116]
 ·subst w1
  rw[if_neg (by decide),if_pos rfl]
  rw[show idxL [97,112,97,114,116] condL=1 by decide]at g
  by_cases hn:l.length=3
  ·rw[if_pos hn]
   have hn':(l.length:Int)=3:=by omega
   have g2:=scross_c k l ⟨0,0,1,0,2⟩ hk1 (by omega) h ⟨by show 0<l.length;omega,by show 1<l.length;omega,by show 0<l.length;omega,by show 2<l.length;omega⟩
   repeat(first|refine wDB ?_|refine awp_seq_k fun K hK=>?_|refine wN fun bx=>?_|refine qpc rfl rfl rfl (g) ?_|refine qpo rfl rfl rfl rfl rfl rfl (fun _=>g) ?_|(refine wH ?_;clear hK))
   refine qarr tyok (cells:=[.int .i64 2,.int .i64 3,.int .i64 4,.int .i64 4]) ?_
   repeat(first|refine wDB ?_|refine awp_seq_k fun K hK=>?_|refine wN fun bx=>?_|refine qpc rfl rfl rfl (g) ?_|refine qpo rfl rfl rfl rfl rfl rfl (fun _=>g) ?_|(refine wH ?_;clear hK))
   refine qaix tyok (v:=.int .i64 3) ?_
   repeat(first|refine wDB ?_|refine awp_seq_k fun K hK=>?_|refine wN fun bx=>?_|refine qpc rfl rfl rfl (g) ?_|refine qpc rfl rfl rfl (g2) ?_|refine qpo rfl rfl rfl rfl rfl rfl (fun _=>g) ?_|refine qpo rfl rfl rfl rfl rfl rfl (fun _=>g2) ?_|(refine wH ?_;clear hK))
   refine rcB ?_ ?_
   ·exact Sub.refl _
   ·exact Sub.refl _
  ·rw[if_neg hn]
   have hn':¬(l.length:Int)=3:=by omega
   repeat(first|refine wDB ?_|refine awp_seq_k fun K hK=>?_|refine wN fun bx=>?_|refine qpc rfl rfl rfl (g) ?_|refine qpo rfl rfl rfl rfl rfl rfl (fun _=>g) ?_|(refine wH ?_;clear hK))
   refine qarr tyok (cells:=[.int .i64 2,.int .i64 3,.int .i64 4,.int .i64 4]) ?_
   repeat(first|refine wDB ?_|refine awp_seq_k fun K hK=>?_|refine wN fun bx=>?_|refine qpc rfl rfl rfl (g) ?_|refine qpo rfl rfl rfl rfl rfl rfl (fun _=>g) ?_|(refine wH ?_;clear hK))
   refine qaix tyok (v:=.int .i64 3) ?_
   repeat(first|refine wDB ?_|refine awp_seq_k fun K hK=>?_|refine wN fun bx=>?_|refine qpc rfl rfl rfl (g) ?_|refine qpo rfl rfl rfl rfl rfl rfl (fun _=>g) ?_|(refine wH ?_;clear hK))
   refine rcB ?_ ?_
   ·exact zrat_sub
   ·exact Sub.refl _
 by_cases w2:w=[99,114,111,115,115]
 ·subst w2
  rw[if_neg (by decide),if_neg (by decide),if_pos rfl]
  rw[show idxL [99,114,111,115,115] condL=2 by decide]at g
  by_cases hn:l.length=4
  ·rw[if_pos hn]
   have hn':(l.length:Int)=4:=by omega
   have g2:=scross_c k l ⟨0,0,1,2,3⟩ hk1 (by omega) h ⟨by show 0<l.length;omega,by show 1<l.length;omega,by show 2<l.length;omega,by show 3<l.length;omega⟩
   repeat(first|refine wDB ?_|refine awp_seq_k fun K hK=>?_|refine wN fun bx=>?_|refine qpc rfl rfl rfl (g) ?_|refine qpo rfl rfl rfl rfl rfl rfl (fun _=>g) ?_|(refine wH ?_;clear hK))
   refine qarr tyok (cells:=[.int .i64 2,.int .i64 3,.int .i64 4,.int .i64 4]) ?_
   repeat(first|refine wDB ?_|refine awp_seq_k fun K hK=>?_|refine wN fun bx=>?_|refine qpc rfl rfl rfl (g) ?_|refine qpo rfl rfl rfl rfl rfl rfl (fun _=>g) ?_|(refine wH ?_;clear hK))
   refine qaix tyok (v:=.int .i64 4) ?_
   repeat(first|refine wDB ?_|refine awp_seq_k fun K hK=>?_|refine wN fun bx=>?_|refine qpc rfl rfl rfl (g) ?_|refine qpc rfl rfl rfl (g2) ?_|refine qpo rfl rfl rfl rfl rfl rfl (fun _=>g) ?_|refine qpo rfl rfl rfl rfl rfl rfl (fun _=>g2) ?_|(refine wH ?_;clear hK))
   refine rcB ?_ ?_
   ·exact Sub.refl _
   ·exact Sub.refl _
  ·rw[if_neg hn]
   have hn':¬(l.length:Int)=4:=by omega
   repeat(first|refine wDB ?_|refine awp_seq_k fun K hK=>?_|refine wN fun bx=>?_|refine qpc rfl rfl rfl (g) ?_|refine qpo rfl rfl rfl rfl rfl rfl (fun _=>g) ?_|(refine wH ?_;clear hK))
   refine qarr tyok (cells:=[.int .i64 2,.int .i64 3,.int .i64 4,.int .i64 4]) ?_
   repeat(first|refine wDB ?_|refine awp_seq_k fun K hK=>?_|refine wN fun bx=>?_|refine qpc rfl rfl rfl (g) ?_|refine qpo rfl rfl rfl rfl rfl rfl (fun _=>g) ?_|(refine wH ?_;clear hK))
   refine qaix tyok (v:=.int .i64 4) ?_
   repeat(first|refine wDB ?_|refine awp_seq_k fun K hK=>?_|refine wN fun bx=>?_|refine qpc rfl rfl rfl (g) ?_|refine qpo rfl rfl rfl rfl rfl rfl (fun _=>g) ?_|(refine wH ?_;clear hK))
   refine rcB ?_ ?_
   ·exact zrat_sub
   ·exact Sub.refl _
 by_cases w3:w=[100,111,116]
 ·subst w3
  rw[if_neg (by decide),if_neg (by decide),if_neg (by decide),if_pos rfl]
  rw[show idxL [100,111,116] condL=3 by decide]at g
  by_cases hn:l.length=4
  ·rw[if_pos hn]
   have hn':(l.length:Int)=4:=by omega
   have g2:=sdot_c k l ⟨0,0,1,2,3⟩ hk1 (by omega) h ⟨by show 0<l.length;omega,by show 1<l.length;omega,by show 2<l.length;omega,by show 3<l.length;omega⟩
   repeat(first|refine wDB ?_|refine awp_seq_k fun K hK=>?_|refine wN fun bx=>?_|refine qpc rfl rfl rfl (g) ?_|refine qpo rfl rfl rfl rfl rfl rfl (fun _=>g) ?_|(refine wH ?_;clear hK))
   refine qarr tyok (cells:=[.int .i64 2,.int .i64 3,.int .i64 4,.int .i64 4]) ?_
   repeat(first|refine wDB ?_|refine awp_seq_k fun K hK=>?_|refine wN fun bx=>?_|refine qpc rfl rfl rfl (g) ?_|refine qpo rfl rfl rfl rfl rfl rfl (fun _=>g) ?_|(refine wH ?_;clear hK))
   refine qaix tyok (v:=.int .i64 4) ?_
   repeat(first|refine wDB ?_|refine awp_seq_k fun K hK=>?_|refine wN fun bx=>?_|refine qpc rfl rfl rfl (g) ?_|refine qpc rfl rfl rfl (g2) ?_|refine qpo rfl rfl rfl rfl rfl rfl (fun _=>g) ?_|refine qpo rfl rfl rfl rfl rfl rfl (fun _=>g2) ?_|(refine wH ?_;clear hK))
   refine rcB ?_ ?_
   ·exact Sub.refl _
   ·exact Sub.refl _
  ·rw[if_neg hn]
   have hn':¬(l.length:Int)=4:=by omega
   repeat(first|refine wDB ?_|refine awp_seq_k fun K hK=>?_|refine wN fun bx=>?_|refine qpc rfl rfl rfl (g) ?_|refine qpo rfl rfl rfl rfl rfl rfl (fun _=>g) ?_|(refine wH ?_;clear hK))
   refine qarr tyok (cells:=[.int .i64 2,.int .i64 3,.int .i64 4,.int .i64 4]) ?_
   repeat(first|refine wDB ?_|refine awp_seq_k fun K hK=>?_|refine wN fun bx=>?_|refine qpc rfl rfl rfl (g) ?_|refine qpo rfl rfl rfl rfl rfl rfl (fun _=>g) ?_|(refine wH ?_;clear hK))
   refine qaix tyok (v:=.int .i64 4) ?_
   repeat(first|refine wDB ?_|refine awp_seq_k fun K hK=>?_|refine wN fun bx=>?_|refine qpc rfl rfl rfl (g) ?_|refine qpo rfl rfl rfl rfl rfl rfl (fun _=>g) ?_|(refine wH ?_;clear hK))
   refine rcB ?_ ?_
   ·exact zrat_sub
   ·exact Sub.refl _
 rw[if_neg w0,if_neg w1,if_neg w2,if_neg w3]
 have hi:idxL w condL<0:=by
  simp[condL,idxL,w0,w1,w2,w3]
 generalize idxL w condL=ix at g hi
 repeat(first|refine wDB ?_|refine awp_seq_k fun K hK=>?_|refine wN fun bx=>?_|refine qpc rfl rfl rfl (g) ?_|refine qpo rfl rfl rfl rfl rfl rfl (fun _=>g) ?_|(refine wH ?_;clear hK))
 refine rcB ?_ ?_
 ·exact zrat_sub
 ·exact Sub.refl _
end Go.Proofs.YthfglhjdnpoepaaGreatDoor
