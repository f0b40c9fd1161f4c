/-
  SenseValues returns true.
-/
import Derived.Test.YthfglhjdnpoepaaGreatDoorSx1
import Derived.Test.YthfglhjdnpoepaaGreatDoorSw7
import Derived.Test.YthfglhjdnpoepaaGreatDoorSw8
set_option maxRecDepth 100000
set_option maxHeartbeats 12800000
namespace Go.Proofs.YthfglhjdnpoepaaGreatDoor
open Go.Ab
theorem sqP_of (l:List SpotR):sqP (l.map ofSpot)=spP l:=by
 funext i
 unfold sqP spP
 rw[List.getD_eq_getElem?_getD,List.getD_eq_getElem?_getD,List.getElem?_map]
 cases l[i]? with
 |some s=>exact ofSpot_p s
 |none=>
  show(default:SQ).p=(default:SpotR).p
  decide +kernel
theorem sqP_cons (p:SpotR) (l:List SpotR):sqP (ofSpot p::l.map ofSpot)=spP (p::l):=sqP_of (p::l)
theorem spP_ok {k:Nat} {l:List SpotR} (h:SpotsOk (k+1) l) (i:Nat) (hi:i<l.length):POk (k+1) (spP l i):=(h.at hi).p
theorem eqs_ok {n:Nat} {P:Nat→Rat×Rat} {nums:List Int} {f:FigR} (hP:∀i,i<n→POk 3 (P i)) (hN:∀z∈nums,z.natAbs<18446744073709551616) (h:FigIn n nums.length f):∀q∈f.eqs.map (eqQ P nums),QOk 5902 q:=fun q hq=>by
 obtain⟨e,he,rfl⟩:=List.mem_map.1 hq
 have:=eqQ_ok hP hN (h.eqs e he) e.length
 rw[List.take_length]at this
 exact this
theorem madeQ_ok {w:List UInt8} {p:SpotR} {l:List SpotR} {nums:List Int} (hp:SpotsOk 3 (p::l)) (hN:∀z∈nums,z.natAbs<18446744073709551616):(∀q∈(madeQ w p l nums).1,QOk 5902 q)∧(madeQ w p l nums).1.length≤20:=by
 unfold madeQ
 cases hc:conF w with
 |none=>exact⟨fun q hq=>absurd hq List.not_mem_nil,Nat.zero_le _⟩
 |some f=>
  simp only
  by_cases h:(l.length:Int)=f.pts∧(nums.length:Int)=f.nums
  ·rw[if_pos h]
   have hfin:=(figB_in (n:=(p::l).length) (m:=nums.length) (con_in hc) (by rw[List.length_cons];omega) h.2).1
   exact⟨eqs_ok (n:=(p::l).length) (fun i hi=>spP_ok hp i hi) hN hfin,by rw[List.length_map];exact hfin.len⟩
  ·rw[if_neg h]
   exact⟨fun q hq=>absurd hq List.not_mem_nil,Nat.zero_le _⟩
theorem askedQ_ok {w:List UInt8} {l:List SpotR} (hp:SpotsOk 3 l):(∀q∈(askedQ w l).1,QOk 5902 q)∧(askedQ w l).1.length≤20:=by
 unfold askedQ
 cases hc:preF w with
 |none=>exact⟨fun q hq=>absurd hq List.not_mem_nil,Nat.zero_le _⟩
 |some f=>
  simp only
  by_cases h:(l.length:Int)=f.pts
  ·rw[if_pos h]
   have hnm:f.nums=0:=by
    have:preL.all (fun f=>decide (f.nums=0))=true:=by decide +kernel
    exact of_decide_eq_true (List.all_eq_true.1 this f (pre_mem hc).1)
   have hfin:=(figB_in (n:=l.length) (m:=([]:List Int).length) (pre_in hc) (by omega) (by rw[hnm];rfl)).1
   exact⟨eqs_ok (n:=l.length) (fun i hi=>spP_ok hp i hi) (fun z hz=>absurd hz List.not_mem_nil) hfin,by rw[List.length_map];exact hfin.len⟩
  ·rw[if_neg h]
   exact⟨fun q hq=>absurd hq List.not_mem_nil,Nat.zero_le _⟩
theorem condQ_ok {w:List UInt8} {l:List SpotR} (hp:SpotsOk 3 l):∀q,(condQ w l.length (spP l)).1=some q→QOk 29 q:=fun q hq=>by
 have hP:=fun i hi=>spP_ok hp i hi
 unfold condQ at hq
 repeat' split at hq
 all_goals first
  |(cases hq;done)
  |(cases hq
    first
     |exact(hP 0 (by omega)).dot (hP 1 (by omega)) (hP 0 (by omega)) (hP 1 (by omega))
     |exact(hP 0 (by omega)).cross (hP 1 (by omega)) (hP 0 (by omega)) (hP 2 (by omega))
     |exact(hP 0 (by omega)).cross (hP 1 (by omega)) (hP 2 (by omega)) (hP 3 (by omega))
     |exact(hP 0 (by omega)).dot (hP 1 (by omega)) (hP 2 (by omega)) (hP 3 (by omega)))
theorem condQ_e {w:List UInt8} {n:Nat} {P:Nat→Rat×Rat}:((condQ w n P).2=0∧∃q,(condQ w n P).1=some q)∨((condQ w n P).2≠0∧(condQ w n P).1=none):=by
 unfold condQ
 repeat' split
 all_goals first
  |exact .inl ⟨rfl,_,rfl⟩
  |exact .inr ⟨by decide,rfl⟩
theorem cbLvals:Callable Tryz.prog 3:=fun _ _=>by kernel_rfl
theorem senseValues_w (m:Nat) (w:List UInt8) (p:SpotR) (l:List SpotR) (nums:List Int) (hp:SpotOk m p) (hl:SpotsOk m l) (hll:l.length≤1099511627744) (hnl:nums.length≤17592186043904):PCalls Tryz.prog 3 [.str w,.agg (spE p),spots l,nums30 nums] (.bool true):=by
 refine pcalls_of_awp tyok cbLvals Tryz.func3 rfl rfl ?_
 have gg:=lgreat_c (p::l) (by rw[List.length_cons];omega)
 have gk:=lknown_c
 ((repeat(first|refine wKB ?_|refine awp_seq_k fun K hK=>?_|(refine wH ?_;clear hK)));refine wN fun b5=>?_;(repeat(first|refine wKB ?_|refine awp_seq_k fun K hK=>?_|refine wN fun bx=>?_|(refine wH ?_;clear hK))))
 refine TR.appendF2 tyok (fun ad cp=>sl spE 8 (p::l) (.own ad cp)) rfl rfl rfl rfl True.intro rfl rfl rfl rfl rfl rfl rfl rfl rfl rfl rfl ?_ (fun ad cp=>?_) fun ad cp=>?_
 ·simp only
  omega
 ·exact cons_subS (SubL.refl _) rfl
 have gg2:=PCalls.sub gg (vs:=[sl spE 8 (p::l) (.own ad cp)]) (.cons (Sub.view _ _ _ _) .nil)
 cases hg:greatB (p::l)with
 |true=>
  rw[hg]at gg2
  repeat(first|refine wDB ?_|refine awp_seq_k fun K hK=>?_|refine wN fun bx=>?_|refine qpc rfl rfl rfl (gg2) ?_|refine qpc rfl rfl rfl (gk) ?_|refine qpo rfl rfl rfl rfl rfl rfl (fun _=>gg2) ?_|refine qpo rfl rfl rfl rfl rfl rfl (fun _=>gk) ?_|(refine wH ?_;clear hK))
  refine r1 ?_
  exact Sub.refl _
 |false=>
 rw[hg]at gg2
 have hall:=(greatB_no hg (k:=m) (fun s hs=>by
  rcases List.mem_cons.1 hs with rfl|hs
  ·exact hp
  ·exact hl s hs))
 have h3p:SpotOk 3 p:=hall.1 p (List.mem_cons_self ..)
 have h3l:SpotsOk 3 l:=fun s hs=>hall.1 s (List.mem_cons_of_mem _ hs)
 have hl45:l.length≤44:=by
  have:=hall.2
  rw[List.length_cons]at this
  omega
 by_cases h5:5<nums.length
 ·have h5':(nums.length:Int)>5:=by omega
  repeat(first|refine wDB ?_|refine awp_seq_k fun K hK=>?_|refine wN fun bx=>?_|refine qpc rfl rfl rfl (gg2) ?_|refine qpc rfl rfl rfl (gk) ?_|refine qpo rfl rfl rfl rfl rfl rfl (fun _=>gg2) ?_|refine qpo rfl rfl rfl rfl rfl rfl (fun _=>gk) ?_|(refine wH ?_;clear hK))
  refine r1 ?_
  exact Sub.refl _
 have h5':¬(nums.length:Int)>5:=by omega
 repeat(first|refine wDB ?_|refine awp_seq_k fun K hK=>?_|refine wN fun bx=>?_|refine qpc rfl rfl rfl (gg2) ?_|refine qpo rfl rfl rfl rfl rfl rfl (fun _=>gg2) ?_|(refine wH ?_;clear hK))
 refine awp_freeze [_] (s:=5) rfl rfl ?_
 refine awp_loop0 (ι:={i:Nat//i≤nums.length∧∀z∈nums.take i,z.natAbs≤1099511627776}) (fun i=>[(0,.str w),(5,.rptr (spE p)),(2,spots l),(3,nums30 nums),(34,.int .i64 nums.length),(35,.int .i64 i.1)]) (fun _=>[]) (fun i=>nums.length-i.1) ⟨0,Nat.zero_le _,fun s hs=>absurd hs (by simp)⟩ wk dp ?_
 rintro⟨i,hi,hb⟩
 simp only at hi hb ⊢
 by_cases hlt:i<nums.length
 ·have hlt':(i:Int)<nums.length:=by omega
  have htk:nums.take (i+1)=nums.take i++[nums.getD i default]:=by
   rw[List.take_succ_eq_append_getElem hlt,List.getD_eq_getElem?_getD,List.getElem?_eq_getElem hlt]
   rfl
  by_cases c1:nums.getD i default>1099511627776
  ·repeat(first|refine wDB ?_|refine awp_seq_k fun K hK=>?_|refine wN fun bx=>?_|refine qpc rfl rfl rfl (gk) ?_|refine qpo rfl rfl rfl rfl rfl rfl (fun _=>gk) ?_|(refine wH ?_;clear hK))
   refine r1 ?_
   exact Sub.refl _
  by_cases c2:nums.getD i default< -1099511627776
  ·repeat(first|refine wDB ?_|refine awp_seq_k fun K hK=>?_|refine wN fun bx=>?_|refine qpc rfl rfl rfl (gk) ?_|refine qpo rfl rfl rfl rfl rfl rfl (fun _=>gk) ?_|(refine wH ?_;clear hK))
   refine r1 ?_
   exact Sub.refl _
  repeat(first|refine wDB ?_|refine awp_seq_k fun K hK=>?_|refine wN fun bx=>?_|(refine wH ?_;clear hK))
  exact⟨⟨i+1,by omega,fun z hz=>by
   rw[htk]at hz
   rcases List.mem_append.1 hz with hz|hz
   ·exact hb z hz
   ·rw[List.mem_singleton.1 hz]
    omega⟩,wk,dp,by simp only;omega⟩
 have hie:i=nums.length:=by omega
 subst hie
 rw[List.take_length]at hb
 have hnlt:¬((nums.length:Int)<nums.length):=by omega
 have m1:=smade_c 3 w p l nums (by decide) (by decide) h3p h3l (by omega) (fun z hz=>by have:=hb z hz;omega) (by omega)
 have kof:=r24Of_c p ⟨h3p.x.mono (by decide),h3p.y.mono (by decide)⟩
 have kall:=r24All_c l (by omega) (fun s hs=>⟨(h3l s hs).x.mono (by decide),(h3l s hs).y.mono (by decide)⟩)
 have m2:=r24Made_c 3 w (ofSpot p) (l.map ofSpot) nums (by decide) (ofSpot_ok h3p) (fun s hs=>by
  obtain⟨z,hz,rfl⟩:=List.mem_map.1 hs
  exact ofSpot_ok (h3l z hz)) (fun z hz=>by have:=hb z hz;omega)
 rw[List.length_map,sqP_cons,←madeV_eq]at m2
 have a1:=sasked_c 3 w l (by decide) (by decide) h3l (by omega)
 have a2:=r24Asked_c 3 w (l.map ofSpot) (by decide) (fun s hs=>by
  obtain⟨z,hz,rfl⟩:=List.mem_map.1 hs
  exact ofSpot_ok (h3l z hz))
 rw[List.length_map,sqP_of,←askedV_eq]at a2
 have x1:=scond_c 3 w l (by decide) (by decide) h3l (by omega)
 have x2:=r24Cond_c 3 w (l.map ofSpot) (by decide) (fun s hs=>by
  obtain⟨z,hz,rfl⟩:=List.mem_map.1 hs
  exact ofSpot_ok (h3l z hz))
 rw[List.length_map,show(fun i=>((l.map ofSpot).getD i default).p)=spP l from sqP_of l]at x2
 have oA:=madeQ_ok (w:=w) hall.1 (nums:=nums) (fun z hz=>by have:=hb z hz;omega)
 have oC:=askedQ_ok (w:=w) h3l
 have oX:=condQ_ok (w:=w) h3l
 have eX:=condQ_e (w:=w) (n:=l.length) (P:=spP l)
 generalize madeQ w p l nums=A at*
 generalize askedQ w l=C at*
 generalize condQ w l.length (spP l)=X at*
 have s1:=r24Same_c 5902 A.1 A.1 (by decide) (by omega) (by omega) oA.1 oA.1
 have s2:=r24Same_c 5902 C.1 C.1 (by decide) (by omega) (by omega) oC.1 oC.1
 rw[decide_eq_true rfl]at s1 s2
 obtain⟨x,xe⟩:=X
 simp only at eX oX x1 x2
 rcases eX with⟨rfl,q,rfl⟩|⟨hxe,rfl⟩
 ·have hq:=oX q rfl
  have x1:PCalls Tryz.prog 15 [.str w,spots l] (.tuple [.agg (ratEs (ratC q)),.int .i64 0]):=x1
  have x2:PCalls Tryz.prog 16 [.str w,spotsQ (l.map ofSpot)] (.tuple [.agg (qE (qrC q)),.int .i64 0]):=x2
  have krat:=qRat_c 29 (qrC q) (by decide) (qrC_ok hq)
  rw[qrC_q]at krat
  have kq:=(ratC_ok hq).mono (show 29≤1000000000 by decide)
  have s3:=qSame_c (ratC q) (ratC q) kq kq
  rw[sameR_C,decide_eq_true rfl]at s3
  ((repeat(first|refine wKB ?_|refine awp_seq_k fun K hK=>?_|refine qpc rfl rfl rfl (m1) ?_|refine qpc rfl rfl rfl (kof) ?_|refine qpc rfl rfl rfl (kall) ?_|refine qpc rfl rfl rfl (m2) ?_|refine qpc rfl rfl rfl (a1) ?_|refine qpc rfl rfl rfl (a2) ?_|refine qpc rfl rfl rfl (x1) ?_|refine qpc rfl rfl rfl (x2) ?_|refine qpo rfl rfl rfl rfl rfl rfl (fun _=>m1) ?_|refine qpo rfl rfl rfl rfl rfl rfl (fun _=>kof) ?_|refine qpo rfl rfl rfl rfl rfl rfl (fun _=>kall) ?_|refine qpo rfl rfl rfl rfl rfl rfl (fun _=>m2) ?_|refine qpo rfl rfl rfl rfl rfl rfl (fun _=>a1) ?_|refine qpo rfl rfl rfl rfl rfl rfl (fun _=>a2) ?_|refine qpo rfl rfl rfl rfl rfl rfl (fun _=>x1) ?_|refine qpo rfl rfl rfl rfl rfl rfl (fun _=>x2) ?_|(refine wH ?_;clear hK)));refine wN fun b18=>?_;(repeat(first|refine wKB ?_|refine awp_seq_k fun K hK=>?_|refine qpc rfl rfl rfl (m1) ?_|refine qpc rfl rfl rfl (kof) ?_|refine qpc rfl rfl rfl (kall) ?_|refine qpc rfl rfl rfl (m2) ?_|refine qpc rfl rfl rfl (a1) ?_|refine qpc rfl rfl rfl (a2) ?_|refine qpc rfl rfl rfl (x1) ?_|refine qpc rfl rfl rfl (x2) ?_|refine qpo rfl rfl rfl rfl rfl rfl (fun _=>m1) ?_|refine qpo rfl rfl rfl rfl rfl rfl (fun _=>kof) ?_|refine qpo rfl rfl rfl rfl rfl rfl (fun _=>kall) ?_|refine qpo rfl rfl rfl rfl rfl rfl (fun _=>m2) ?_|refine qpo rfl rfl rfl rfl rfl rfl (fun _=>a1) ?_|refine qpo rfl rfl rfl rfl rfl rfl (fun _=>a2) ?_|refine qpo rfl rfl rfl rfl rfl rfl (fun _=>x1) ?_|refine qpo rfl rfl rfl rfl rfl rfl (fun _=>x2) ?_|(refine wH ?_;clear hK)));refine wN fun b20=>?_;(repeat(first|refine wKB ?_|refine awp_seq_k fun K hK=>?_|refine wN fun bx=>?_|refine qpc rfl rfl rfl (m1) ?_|refine qpc rfl rfl rfl (kof) ?_|refine qpc rfl rfl rfl (kall) ?_|refine qpc rfl rfl rfl (m2) ?_|refine qpc rfl rfl rfl (a1) ?_|refine qpc rfl rfl rfl (a2) ?_|refine qpc rfl rfl rfl (x1) ?_|refine qpc rfl rfl rfl (x2) ?_|refine qpo rfl rfl rfl rfl rfl rfl (fun _=>m1) ?_|refine qpo rfl rfl rfl rfl rfl rfl (fun _=>kof) ?_|refine qpo rfl rfl rfl rfl rfl rfl (fun _=>kall) ?_|refine qpo rfl rfl rfl rfl rfl rfl (fun _=>m2) ?_|refine qpo rfl rfl rfl rfl rfl rfl (fun _=>a1) ?_|refine qpo rfl rfl rfl rfl rfl rfl (fun _=>a2) ?_|refine qpo rfl rfl rfl rfl rfl rfl (fun _=>x1) ?_|refine qpo rfl rfl rfl rfl rfl rfl (fun _=>x2) ?_|(refine wH ?_;clear hK))))
  refine awp_boxSub [] (v':=.agg (qE (qrC q))) (Sub.of_eq rfl) ?_
  refine awp_freeze [] (s:=20) rfl rfl ?_
  refine awp_boxSub [] (v':=.agg (ratEs (ratC q))) (Sub.of_eq rfl) ?_
  refine awp_freeze [] (s:=18) rfl rfl ?_
  refine areg_soft mixed tyok [2,11,25,26,29] [] (List.range 32) (by decide +kernel) ?_
  repeat(first|refine wDB ?_|refine awp_seq_k fun K hK=>?_|refine wN fun bx=>?_|refine qpc rfl rfl rfl (s1) ?_|refine qpc rfl rfl rfl (s2) ?_|refine qpc rfl rfl rfl (krat) ?_|refine qpc rfl rfl rfl (s3) ?_|refine qpc rfl rfl rfl (gk) ?_|refine qpo rfl rfl rfl rfl rfl rfl (fun _=>s1) ?_|refine qpo rfl rfl rfl rfl rfl rfl (fun _=>s2) ?_|refine qpo rfl rfl rfl rfl rfl rfl (fun _=>krat) ?_|refine qpo rfl rfl rfl rfl rfl rfl (fun _=>s3) ?_|refine qpo rfl rfl rfl rfl rfl rfl (fun _=>gk) ?_|(refine wH ?_;clear hK))
  refine r1 ?_
  exact Sub.refl _
 ·have x1:PCalls Tryz.prog 15 [.str w,spots l] (.tuple [.agg [.bool false,sl limE 1 [] .view,.bool false,sl limE 1 [] .view],.int .i64 xe]):=x1
  have x2:PCalls Tryz.prog 16 [.str w,spotsQ (l.map ofSpot)] (.tuple [.agg (qE (qrC 0)),.int .i64 xe]):=x2
  have hz0:(([]:List Nat).length:Int)=0:=rfl
  ((repeat(first|refine wDB ?_|refine awp_seq_k fun K hK=>?_|refine qpc rfl rfl rfl (m1) ?_|refine qpc rfl rfl rfl (kof) ?_|refine qpc rfl rfl rfl (kall) ?_|refine qpc rfl rfl rfl (m2) ?_|refine qpc rfl rfl rfl (a1) ?_|refine qpc rfl rfl rfl (a2) ?_|refine qpc rfl rfl rfl (x1) ?_|refine qpc rfl rfl rfl (x2) ?_|refine qpc rfl rfl rfl (s1) ?_|refine qpc rfl rfl rfl (s2) ?_|refine qpc rfl rfl rfl (gk) ?_|refine qpo rfl rfl rfl rfl rfl rfl (fun _=>m1) ?_|refine qpo rfl rfl rfl rfl rfl rfl (fun _=>kof) ?_|refine qpo rfl rfl rfl rfl rfl rfl (fun _=>kall) ?_|refine qpo rfl rfl rfl rfl rfl rfl (fun _=>m2) ?_|refine qpo rfl rfl rfl rfl rfl rfl (fun _=>a1) ?_|refine qpo rfl rfl rfl rfl rfl rfl (fun _=>a2) ?_|refine qpo rfl rfl rfl rfl rfl rfl (fun _=>x1) ?_|refine qpo rfl rfl rfl rfl rfl rfl (fun _=>x2) ?_|refine qpo rfl rfl rfl rfl rfl rfl (fun _=>s1) ?_|refine qpo rfl rfl rfl rfl rfl rfl (fun _=>s2) ?_|refine qpo rfl rfl rfl rfl rfl rfl (fun _=>gk) ?_|(refine wH ?_;clear hK)));refine wN fun b18=>?_;(repeat(first|refine wDB ?_|refine awp_seq_k fun K hK=>?_|refine qpc rfl rfl rfl (m1) ?_|refine qpc rfl rfl rfl (kof) ?_|refine qpc rfl rfl rfl (kall) ?_|refine qpc rfl rfl rfl (m2) ?_|refine qpc rfl rfl rfl (a1) ?_|refine qpc rfl rfl rfl (a2) ?_|refine qpc rfl rfl rfl (x1) ?_|refine qpc rfl rfl rfl (x2) ?_|refine qpc rfl rfl rfl (s1) ?_|refine qpc rfl rfl rfl (s2) ?_|refine qpc rfl rfl rfl (gk) ?_|refine qpo rfl rfl rfl rfl rfl rfl (fun _=>m1) ?_|refine qpo rfl rfl rfl rfl rfl rfl (fun _=>kof) ?_|refine qpo rfl rfl rfl rfl rfl rfl (fun _=>kall) ?_|refine qpo rfl rfl rfl rfl rfl rfl (fun _=>m2) ?_|refine qpo rfl rfl rfl rfl rfl rfl (fun _=>a1) ?_|refine qpo rfl rfl rfl rfl rfl rfl (fun _=>a2) ?_|refine qpo rfl rfl rfl rfl rfl rfl (fun _=>x1) ?_|refine qpo rfl rfl rfl rfl rfl rfl (fun _=>x2) ?_|refine qpo rfl rfl rfl rfl rfl rfl (fun _=>s1) ?_|refine qpo rfl rfl rfl rfl rfl rfl (fun _=>s2) ?_|refine qpo rfl rfl rfl rfl rfl rfl (fun _=>gk) ?_|(refine wH ?_;clear hK)));refine wN fun b20=>?_;(repeat(first|refine wDB ?_|refine awp_seq_k fun K hK=>?_|refine wN fun bx=>?_|refine qpc rfl rfl rfl (m1) ?_|refine qpc rfl rfl rfl (kof) ?_|refine qpc rfl rfl rfl (kall) ?_|refine qpc rfl rfl rfl (m2) ?_|refine qpc rfl rfl rfl (a1) ?_|refine qpc rfl rfl rfl (a2) ?_|refine qpc rfl rfl rfl (x1) ?_|refine qpc rfl rfl rfl (x2) ?_|refine qpc rfl rfl rfl (s1) ?_|refine qpc rfl rfl rfl (s2) ?_|refine qpc rfl rfl rfl (gk) ?_|refine qpo rfl rfl rfl rfl rfl rfl (fun _=>m1) ?_|refine qpo rfl rfl rfl rfl rfl rfl (fun _=>kof) ?_|refine qpo rfl rfl rfl rfl rfl rfl (fun _=>kall) ?_|refine qpo rfl rfl rfl rfl rfl rfl (fun _=>m2) ?_|refine qpo rfl rfl rfl rfl rfl rfl (fun _=>a1) ?_|refine qpo rfl rfl rfl rfl rfl rfl (fun _=>a2) ?_|refine qpo rfl rfl rfl rfl rfl rfl (fun _=>x1) ?_|refine qpo rfl rfl rfl rfl rfl rfl (fun _=>x2) ?_|refine qpo rfl rfl rfl rfl rfl rfl (fun _=>s1) ?_|refine qpo rfl rfl rfl rfl rfl rfl (fun _=>s2) ?_|refine qpo rfl rfl rfl rfl rfl rfl (fun _=>gk) ?_|(refine wH ?_;clear hK))))
  refine r1 ?_
  exact Sub.refl _
theorem senseValues_c (w:List UInt8) (p:SpotR) (l:List SpotR) (nums:List Int) (hp:SpotOk reachBytes p) (hl:(∀t∈l,SpotOk reachBytes t)∧l.length≤1099511627744) (hn:(∀t∈nums,-9223372036854775808≤t∧t≤9223372036854775807)∧nums.length≤17592186043904):PCalls Tryz.prog 3 [.str w,.agg (spE p),spots l,nums30 nums] (.bool true):=senseValues_w _ w p l nums hp hl.1 hl.2 hn.2
end Go.Proofs.YthfglhjdnpoepaaGreatDoor
