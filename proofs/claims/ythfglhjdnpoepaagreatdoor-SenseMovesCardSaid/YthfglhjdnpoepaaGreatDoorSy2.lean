/-
  Layer 24 (sense): Script.
-/
import Derived.Test.YthfglhjdnpoepaaGreatDoorSy1
set_option maxRecDepth 100000
set_option maxHeartbeats 6400000
namespace Go.Proofs.YthfglhjdnpoepaaGreatDoor
open Go.Ab
def spotF (l:List SpotR) (ns:List (List UInt8)):AV:=.func (.func 60) [] [.rptr [spots l],.rptr [sl txtE 1 ns .view]]
theorem cbSScr:Callable Tryz.prog 27:=fun _ _=>by kernel_rfl
theorem sscript_c (k:Nat) (l:List StI) (p:List SpotR) (hk1:1≤k) (hk:k≤100) (hl:l.length≤10000000000000000) (hA:∀x∈l,x.args.length≤10000000000000000)
  (hN:∀x∈l,∀t∈x.args,-9223372036854775808≤t.n∧t.n≤9223372036854775807) (hp:SpotsOk k p) (_:p.length≤1000000):
  PCalls Tryz.prog 27 [stmtsI l,spots p] (senseV (senseF l p)):=by
 refine pcalls_of_awp tyok cbSScr Tryz.func27 rfl rfl ?_
 have g1:=check_c l hl hA
 have g2:=shpoints_c l hl hA
 unfold senseF
 by_cases he:(lookF l).e=0
 rotate_left
 ·rw[if_pos he]
  ((repeat(first|refine wDB ?_|refine awp_seq_k fun K hK=>?_|refine qpc rfl rfl rfl (g1) ?_|refine qpo rfl rfl rfl rfl rfl rfl (fun _=>g1) ?_|(refine wH ?_;clear hK)));refine wN fun b3=>?_;(repeat(first|refine wDB ?_|refine awp_seq_k fun K hK=>?_|refine qpc rfl rfl rfl (g1) ?_|refine qpo rfl rfl rfl rfl rfl rfl (fun _=>g1) ?_|(refine wH ?_;clear hK)));refine wN fun b7=>?_;(repeat(first|refine wDB ?_|refine awp_seq_k fun K hK=>?_|refine wN fun bx=>?_|refine qpc rfl rfl rfl (g1) ?_|refine qpo rfl rfl rfl rfl rfl rfl (fun _=>g1) ?_|(refine wH ?_;clear hK))))
  refine r3 ?_ ?_ ?_
  all_goals exact Sub.refl _
 obtain⟨_,e2,hnd,h40,_⟩:=lookF_id he
 have ens:(lookF l).ns=namesF l:=by rw[e2]
 rw[if_pos he,ens]at g2
 rw[if_neg (fun h=>h he)]
 have wf:=fun i hi hk=>wf_stmt he (i:=i) hi hk
 generalize namesF l=ns at g2 hnd h40 wf ⊢
 by_cases hlen:p.length=ns.length
 rotate_left
 ·rw[if_pos hlen]
  have hlen':¬(p.length:Int)=ns.length:=by omega
  ((repeat(first|refine wDB ?_|refine awp_seq_k fun K hK=>?_|refine qpc rfl rfl rfl (g1) ?_|refine qpc rfl rfl rfl (g2) ?_|refine qpo rfl rfl rfl rfl rfl rfl (fun _=>g1) ?_|refine qpo rfl rfl rfl rfl rfl rfl (fun _=>g2) ?_|(refine wH ?_;clear hK)));refine wN fun b3=>?_;(repeat(first|refine wDB ?_|refine awp_seq_k fun K hK=>?_|refine qpc rfl rfl rfl (g1) ?_|refine qpc rfl rfl rfl (g2) ?_|refine qpo rfl rfl rfl rfl rfl rfl (fun _=>g1) ?_|refine qpo rfl rfl rfl rfl rfl rfl (fun _=>g2) ?_|(refine wH ?_;clear hK)));refine wN fun b7=>?_;(repeat(first|refine wDB ?_|refine awp_seq_k fun K hK=>?_|refine qpc rfl rfl rfl (g1) ?_|refine qpc rfl rfl rfl (g2) ?_|refine qpo rfl rfl rfl rfl rfl rfl (fun _=>g1) ?_|refine qpo rfl rfl rfl rfl rfl rfl (fun _=>g2) ?_|(refine wH ?_;clear hK)));refine wN fun b9=>?_;(repeat(first|refine wDB ?_|refine awp_seq_k fun K hK=>?_|refine wN fun bx=>?_|refine qpc rfl rfl rfl (g1) ?_|refine qpc rfl rfl rfl (g2) ?_|refine qpo rfl rfl rfl rfl rfl rfl (fun _=>g1) ?_|refine qpo rfl rfl rfl rfl rfl rfl (fun _=>g2) ?_|(refine wH ?_;clear hK))))
  refine r3 ?_ ?_ ?_
  all_goals exact Sub.refl _
 rw[if_neg (fun h=>h hlen)]
 have hlen':(p.length:Int)=ns.length:=by omega
 ((repeat(first|refine wDB ?_|refine awp_seq_k fun K hK=>?_|(refine wH ?_;clear hK)));refine wN fun b3=>?_)
 (((repeat(first|refine wT ?_|refine wN fun bx=>?_)));(try refine wP ?_);repeat(refine wH ?_;clear hK))
 refine awp_freeze [] (s:=3) rfl rfl ?_
 ((repeat(first|refine wDB ?_|refine awp_seq_k fun K hK=>?_|refine qpc rfl rfl rfl (g1) ?_|refine qpc rfl rfl rfl (g2) ?_|refine qpo rfl rfl rfl rfl rfl rfl (fun _=>g1) ?_|refine qpo rfl rfl rfl rfl rfl rfl (fun _=>g2) ?_|(refine wH ?_;clear hK)));refine wN fun b7=>?_;(repeat(first|refine wDB ?_|refine awp_seq_k fun K hK=>?_|refine qpc rfl rfl rfl (g1) ?_|refine qpc rfl rfl rfl (g2) ?_|refine qpo rfl rfl rfl rfl rfl rfl (fun _=>g1) ?_|refine qpo rfl rfl rfl rfl rfl rfl (fun _=>g2) ?_|(refine wH ?_;clear hK)));refine wN fun b9=>?_)
 (((repeat(first|refine wT ?_|refine wN fun bx=>?_)));(try refine wP ?_);repeat(refine wH ?_;clear hK))
 refine awp_freeze [] (s:=9) rfl rfl ?_
 repeat(first|refine wDB ?_|refine awp_seq_k fun K hK=>?_|refine wN fun bx=>?_|(refine wH ?_;clear hK))
 refine awp_loop0 (ι:={y:Nat×Bool×Bool//y.1≤l.length∧(l.drop y.1).foldl (stepS ns p) (y.2.1,y.2.2)=l.foldl (stepS ns p) (true,false)})
  (fun y=>[(4,.bool y.1.2.1),(5,.bool y.1.2.2),(10,spotF p ns),(37,stmtsI l),(38,.int .i64 l.length),(39,.int .i64 y.1.1)]) (fun _=>[]) (fun y=>l.length-y.1.1) ⟨(0,true,false),Nat.zero_le _,rfl⟩ wk dp ?_
 rintro⟨⟨i,a,b⟩,hi,hf⟩
 simp only at hi hf ⊢
 by_cases hlt:i<l.length
 rotate_left
 ·have hge:¬(i:Int)<l.length:=by omega
  obtain rfl:i=l.length:=by omega
  rw[List.drop_length]at hf
  repeat(first|refine wDB ?_|refine awp_seq_k fun K hK=>?_|refine wN fun bx=>?_|(refine wH ?_;clear hK))
  rw[←hf]
  refine r3 ?_ ?_ ?_
  all_goals exact Sub.refl _
 have hlt':(i:Int)<l.length:=by omega
 rw[List.drop_eq_getElem_cons hlt,←getD_eq_getElem' hlt,List.foldl_cons]at hf
 have w:=wf i hlt
 have hxn:=hN (l.getD i default) (getD_mem hlt)
 have hxa:=hA (l.getD i default) (getD_mem hlt)
 ((repeat(first|refine wDB ?_|refine awp_seq_k fun K hK=>?_|(refine wH ?_;clear hK)));refine wN fun b12=>?_)
 (((repeat(first|refine wT ?_|refine wN fun bx=>?_)));(try refine wP ?_);repeat(refine wH ?_;clear hK))
 refine awp_boxSub [] (v':=.agg (stmtEI (l.getD i default))) (Sub.of_eq rfl) ?_
 refine awp_freeze [] (s:=12) rfl rfl ?_
 generalize l.getD i default=x at hf w hxn hxa ⊢
 by_cases hk3:x.k<3
 ·have es:stepS ns p (a,b) x=(a,b):=by unfold stepS;rw[if_neg (by omega),if_neg (by omega)]
  rw[es]at hf
  repeat(first|refine wDB ?_|refine awp_seq_k fun K hK=>?_|refine wN fun bx=>?_|(refine wH ?_;clear hK))
  refine awp_loop0 (ι:={j:Nat//j≤x.args.length})
   (fun j=>[(4,.bool a),(5,.bool b),(10,spotF p ns),(12,.rptr (stmtEI x)),(37,stmtsI l),(38,.int .i64 l.length),(39,.int .i64 i),(44,sl tokEI 5 x.args .view),(45,.int .i64 x.args.length),(46,.int .i64 j.1)])
   (fun _=>[]) (fun j=>x.args.length-j.1) ⟨0,Nat.zero_le _⟩ wk dp ?_
  rintro⟨j,hj⟩
  simp only at hj ⊢
  by_cases hjl:j<x.args.length
  ·have hjl':(j:Int)<x.args.length:=by omega
   ((repeat(first|refine wDB ?_|refine awp_seq_k fun K hK=>?_|(refine wH ?_;clear hK)));refine wN fun b16=>?_;(repeat(first|refine wDB ?_|refine awp_seq_k fun K hK=>?_|refine wN fun bx=>?_|(refine wH ?_;clear hK))))
   exact⟨⟨j+1,hjl⟩,wk,dp,by simp only;omega⟩
  ·have hge:¬(j:Int)<x.args.length:=by omega
   have n4:¬x.k=4:=by omega
   have n5:¬x.k=5:=by omega
   repeat(first|refine wDB ?_|refine awp_seq_k fun K hK=>?_|refine wN fun bx=>?_|(refine wH ?_;clear hK))
   exact⟨⟨(i+1,a,b),hlt,hf⟩,wk,dp,by simp only;omega⟩
 have hk3':3≤x.k:=by omega
 obtain⟨w1,w2,w3,_⟩:=w hk3'
 repeat(first|refine wDB ?_|refine awp_seq_k fun K hK=>?_|refine wN fun bx=>?_|(refine wH ?_;clear hK))
 refine awp_tok0 8 28 ?_
 refine awp_tok0 1 3 ?_
 refine awp_loop0 (ι:={y:Nat×(Option Addr×Nat)×(Option Addr×Nat)//y.1≤x.args.length})
  (fun y=>[(4,.bool a),(5,.bool b),(10,spotF p ns),(12,.rptr (stmtEI x)),(13,sl spE 8 (ptsS ns p (x.args.take y.1.1)) (.own y.1.2.1.1 y.1.2.1.2)),(14,sl numE 1 (numS (x.args.take y.1.1)) (.own y.1.2.2.1 y.1.2.2.2)),(37,stmtsI l),(38,.int .i64 l.length),(39,.int .i64 i),(44,sl tokEI 5 x.args .view),(45,.int .i64 x.args.length),(46,.int .i64 y.1.1)])
  (fun y=>[.tok y.1.2.2.1 y.1.2.2.2 (numS (x.args.take y.1.1)).length 1 3,.tok y.1.2.1.1 y.1.2.1.2 (ptsS ns p (x.args.take y.1.1)).length 8 28]) (fun y=>x.args.length-y.1.1) ⟨(0,(none,0),(none,0)),Nat.zero_le _⟩ wk ⟨0,rfl⟩ ?_
 rintro⟨⟨j,⟨a1,c1⟩,⟨a2,c2⟩⟩,hj⟩
 simp only at hj ⊢
 have b1:=ptsS_len ns p (x.args.take j)
 have b2:=numS_len (x.args.take j)
 rw[List.length_take]at b1 b2
 by_cases hjl:j<x.args.length
 ·have hjl':(j:Int)<x.args.length:=by omega
  have s1:=ptsS_succ ns p hjl
  have s2:=numS_succ hjl
  have wt:=w2 (x.args.getD j default) (getD_mem hjl)
  ((repeat(first|refine wDB ?_|refine awp_seq_k fun K hK=>?_|(refine wH ?_;clear hK)));refine wN fun b16=>?_)
  (((repeat(first|refine wT ?_|refine wN fun bx=>?_)));(try refine wP ?_);repeat(refine wH ?_;clear hK))
  refine awp_boxSub [] (v':=.agg (tokEI (x.args.getD j default))) (Sub.of_eq rfl) ?_
  refine awp_freeze [] (s:=16) rfl rfl ?_
  generalize x.args.getD j default=t at s1 s2 wt ⊢
  by_cases ht:t.k=3
  ·rw[if_pos ht]at s1 s2
   repeat(first|refine wDB ?_|refine awp_seq_k fun K hK=>?_|refine wN fun bx=>?_|(refine wH ?_;clear hK))
   refine qapp tyok numE _ t.n (SubL.refl _) ?_ fun ad cp=>?_
   ·simp only
    omega
   rw[←s1,←s2]
   repeat(first|refine wDB ?_|refine awp_seq_k fun K hK=>?_|refine wN fun bx=>?_|(refine wH ?_;clear hK))
   exact⟨⟨(j+1,(a1,c1),(ad,cp)),hjl⟩,wk,⟨0,rfl⟩,by simp only;omega⟩
  ·rw[if_neg ht]at s1 s2
   have gs:PCalls Tryz.prog 60 ([]++[.agg (tokEI t)]++[.rptr [spots p],.rptr [sl txtE 1 ns .view]]) (.agg (spE (whP ns p t.w))):=spot_c ns p t (by omega) hlen (wt ht)
   repeat(first|refine wDB ?_|refine awp_seq_k fun K hK=>?_|refine wN fun bx=>?_|refine qpc rfl rfl rfl (gs) ?_|refine qpo rfl rfl rfl rfl rfl rfl (fun _=>gs) ?_|(refine wH ?_;clear hK))
   refine qapp tyok spE _ (whP ns p t.w) (SubL.refl _) ?_ fun ad cp=>?_
   ·simp only
    omega
   rw[←s1,←s2]
   repeat(first|refine wDB ?_|refine awp_seq_k fun K hK=>?_|refine wN fun bx=>?_|(refine wH ?_;clear hK))
   exact⟨⟨(j+1,(ad,cp),(a2,c2)),hjl⟩,wk,⟨0,rfl⟩,by simp only;omega⟩
 have hge:¬(j:Int)<x.args.length:=by omega
 obtain rfl:j=x.args.length:=by omega
 rw[List.take_length]at b1 b2 ⊢
 have pok:=ptsS_ok hp hlen w2
 have no:=numS_ok hxn
 by_cases h4:x.k=4
 ·have gs:PCalls Tryz.prog 60 ([]++[.agg (tokEI x.new)]++[.rptr [spots p],.rptr [sl txtE 1 ns .view]]) (.agg (spE (whP ns p x.new.w))):=spot_c ns p x.new (by omega) hlen (w3 h4)
  have gm:=smade_c k x.word.w (whP ns p x.new.w) (ptsS ns p x.args) (numS x.args) hk1 hk (whP_ok hp hlen (w3 h4)) pok (by omega) no (by omega)
  have gm2:=PCalls.sub gm (vs:=[.str x.word.w,.agg (spE (whP ns p x.new.w)),sl spE 8 (ptsS ns p x.args) (.own a1 c1),sl numE 1 (numS x.args) (.own a2 c2)]) (.cons (Sub.refl _) (.cons (Sub.refl _) (.cons (Sub.view _ _ _ _) (.cons (Sub.view _ _ _ _) .nil))))
  have hok:=madeK_ok (w:=x.word.w) hk1 hk (whP_ok hp hlen (w3 h4)) pok no
  have gn:=nought_c (madeQ x.word.w (whP ns p x.new.w) (ptsS ns p x.args) (numS x.args)).1 (by omega) hok.1
  have es:stepS ns p (a,b) x=(a&&zeroL (madeQ x.word.w (whP ns p x.new.w) (ptsS ns p x.args) (numS x.args)).1,b):=by unfold stepS;rw[if_pos h4]
  rw[es]at hf
  unfold zeroL at hf
  have n5:¬x.k=5:=by omega
  cases a with
  |true=>
   repeat(first|refine wKB ?_|refine awp_seq_k fun K hK=>?_|refine wN fun bx=>?_|(refine wH ?_;clear hK))
   refine areg_kept mixed tyok [(6,[])] [0,1,2,3,4,5,7,8,6,9,10,11,12,13,14] (by decide +kernel) ?_
   repeat(first|refine wDB ?_|refine awp_seq_k fun K hK=>?_|refine wN fun bx=>?_|refine qpc rfl rfl rfl (gs) ?_|refine qpc rfl rfl rfl (gm2) ?_|refine qpc rfl rfl rfl (gn) ?_|refine qpo rfl rfl rfl rfl rfl rfl (fun _=>gs) ?_|refine qpo rfl rfl rfl rfl rfl rfl (fun _=>gm2) ?_|refine qpo rfl rfl rfl rfl rfl rfl (fun _=>gn) ?_|(refine wH ?_;clear hK))
   exact⟨⟨(i+1,_,b),hlt,hf⟩,wk,dp,by simp only;omega⟩
  |false=>
   repeat(first|refine wKB ?_|refine awp_seq_k fun K hK=>?_|refine wN fun bx=>?_|(refine wH ?_;clear hK))
   refine areg_kept mixed tyok [(6,[])] [0,1,2,3,4,5,7,8,6,9,10,11,12,13,14] (by decide +kernel) ?_
   repeat(first|refine wDB ?_|refine awp_seq_k fun K hK=>?_|refine wN fun bx=>?_|refine qpc rfl rfl rfl (gs) ?_|refine qpc rfl rfl rfl (gm2) ?_|refine qpc rfl rfl rfl (gn) ?_|refine qpo rfl rfl rfl rfl rfl rfl (fun _=>gs) ?_|refine qpo rfl rfl rfl rfl rfl rfl (fun _=>gm2) ?_|refine qpo rfl rfl rfl rfl rfl rfl (fun _=>gn) ?_|(refine wH ?_;clear hK))
   exact⟨⟨(i+1,false,b),hlt,hf⟩,wk,dp,by simp only;omega⟩
 by_cases h5:x.k=5
 ·have ga:=sasked_c k x.word.w (ptsS ns p x.args) hk1 hk pok (by omega)
  have ga2:=PCalls.sub ga (vs:=[.str x.word.w,sl spE 8 (ptsS ns p x.args) (.own a1 c1)]) (.cons (Sub.refl _) (.cons (Sub.view _ _ _ _) .nil))
  have hok:=askedK_ok (w:=x.word.w) hk1 hk pok
  have gn:=nought_c (askedQ x.word.w (ptsS ns p x.args)).1 (by omega) hok.1
  have es:stepS ns p (a,b) x=(a,zeroL (askedQ x.word.w (ptsS ns p x.args)).1):=by unfold stepS;rw[if_neg h4,if_pos h5]
  rw[es]at hf
  unfold zeroL at hf
  repeat(first|refine wDB ?_|refine awp_seq_k fun K hK=>?_|refine wN fun bx=>?_|refine qpc rfl rfl rfl (ga2) ?_|refine qpc rfl rfl rfl (gn) ?_|refine qpo rfl rfl rfl rfl rfl rfl (fun _=>ga2) ?_|refine qpo rfl rfl rfl rfl rfl rfl (fun _=>gn) ?_|(refine wH ?_;clear hK))
  exact⟨⟨(i+1,a,_),hlt,hf⟩,wk,dp,by simp only;omega⟩
 ·have es:stepS ns p (a,b) x=(a,b):=by unfold stepS;rw[if_neg h4,if_neg h5]
  rw[es]at hf
  repeat(first|refine wDB ?_|refine awp_seq_k fun K hK=>?_|refine wN fun bx=>?_|(refine wH ?_;clear hK))
  exact⟨⟨(i+1,a,b),hlt,hf⟩,wk,dp,by simp only;omega⟩
end Go.Proofs.YthfglhjdnpoepaaGreatDoor
