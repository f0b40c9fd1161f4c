/-
  The statements of layer 24: spots of small numbers, three known values, what is more than is looked at.
-/
import Derived.Test.YthfglhjdnpoepaaGreatDoorSr1
import Derived.Test.YthfglhjdnpoepaaGreatDoorSe4
set_option maxRecDepth 100000
set_option maxHeartbeats 6400000
namespace Go.Proofs.YthfglhjdnpoepaaGreatDoor
open Go.Ab
theorem cbLspot:Callable Tryz.prog 29:=fun _ _=>by kernel_rfl
def spotZ (x y:Int):SpotR:=⟨ratC (x:Rat),ratC (y:Rat)⟩
theorem lspot_c (x y:Int) (h1:x.natAbs≤1000000) (h2:y.natAbs≤1000000):PCalls Tryz.prog 29 [.int .i64 x,.int .i64 y] (.agg (spE (spotZ x y))):=by
 refine pcalls_of_awp tyok cbLspot Tryz.func29 rfl rfl ?_
 have g1:=qSmall_c x 1 (by omega) (by omega) (by decide) (by decide)
 have g2:=qSmall_c y 1 (by omega) (by omega) (by decide) (by decide)
 have g3:=qRat_c 2 (qrC (x:Rat)) (by decide) (qrC_ok (small_qok (by omega)))
 have g4:=qRat_c 2 (qrC (y:Rat)) (by decide) (qrC_ok (small_qok (by omega)))
 rw[qrC_q]at g3 g4
 repeat(first|refine wDB ?_|refine awp_seq_k fun K hK=>?_|refine wN fun bx=>?_|refine qpc rfl rfl rfl (g1) ?_|refine qpc rfl rfl rfl (g2) ?_|refine qpc rfl rfl rfl (g3) ?_|refine qpc rfl rfl rfl (g4) ?_|refine qpo rfl rfl rfl rfl rfl rfl (fun _=>g1) ?_|refine qpo rfl rfl rfl rfl rfl rfl (fun _=>g2) ?_|refine qpo rfl rfl rfl rfl rfl rfl (fun _=>g3) ?_|refine qpo rfl rfl rfl rfl rfl rfl (fun _=>g4) ?_|(refine wH ?_;clear hK))
 refine rcA ?_
 exact Sub.refl _
theorem spotZ_ok (x y:Int) (h1:x.natAbs≤1000000) (h2:y.natAbs≤1000000):SpotOk 2 (spotZ x y):=⟨ratC_ok (small_qok (by omega)),ratC_ok (small_qok (by omega))⟩
theorem spotZ_p (x y:Int):(spotZ x y).p=((x:Rat),(y:Rat)):=by
 unfold spotZ SpotR.p
 rw[ratC_q,ratC_q]
def bigR (x:RatR):Bool:=decide (3<x.n.mag.length) || decide (3<x.d.mag.length)
def bigS (s:SpotR):Bool:=bigR s.x || bigR s.y
def greatB (l:List SpotR):Bool:=l.any bigS || decide (45<l.length)
theorem greatB_no {l:List SpotR} {k:Nat} (h:greatB l=false) (hl:SpotsOk k l):SpotsOk 3 l∧l.length≤45:=by
 simp only[greatB,Bool.or_eq_false_iff,List.any_eq_false,decide_eq_false_iff_not]at h
 refine⟨fun s hs=>?_,by omega⟩
 have h1:=h.1 s hs
 simp only[bigS,bigR,Bool.or_eq_true,decide_eq_true_eq,not_or]at h1
 have h2:=hl s hs
 exact⟨⟨⟨h2.x.n.lt,by omega⟩,⟨h2.x.d.lt,by omega⟩⟩,⟨⟨h2.y.n.lt,by omega⟩,⟨h2.y.d.lt,by omega⟩⟩⟩
theorem cbLgreat:Callable Tryz.prog 7:=fun _ _=>by kernel_rfl
theorem lgreat_c (l:List SpotR) (hl:l.length≤1000000000000000000):PCalls Tryz.prog 7 [spots l] (.bool (greatB l)):=by
 refine pcalls_of_awp tyok cbLgreat Tryz.func7 rfl rfl ?_
 repeat(first|refine wD ?_|refine awp_seq_k fun K hK=>?_|refine wN fun bx=>?_|(refine wH ?_;clear hK))
 refine awp_loop0 (ι:={i:Nat//i≤l.length∧∀s∈l.take i,bigS s=false}) (fun i=>[(0,spots l),(7,.int .i64 l.length),(8,.int .i64 i.1)]) (fun _=>[]) (fun i=>l.length-i.1) ⟨0,Nat.zero_le _,fun s hs=>absurd hs (by simp)⟩ wk dp ?_
 rintro⟨i,hi,hb⟩
 simp only at hi hb ⊢
 by_cases hlt:i<l.length
 ·have hlt':(i:Int)<l.length:=by omega
  have hgm:=getD_mem hlt
  have htk:l.take (i+1)=l.take i++[l.getD i default]:=by
   rw[List.take_succ_eq_append_getElem hlt,List.getD_eq_getElem?_getD,List.getElem?_eq_getElem hlt]
   rfl
  repeat(first|refine wDB ?_|refine awp_seq_k fun K hK=>?_|refine wN fun bx=>?_|(refine wH ?_;clear hK))
  refine qarr tyok (cells:=spE (l.getD i default)) ?_
  generalize l.getD i default=s at hgm htk ⊢
  have hgr:bigS s=true→greatB l=true:=fun hs=>by
   simp only[greatB,Bool.or_eq_true,List.any_eq_true]
   exact .inl ⟨s,hgm,hs⟩
  repeat(first|refine wDB ?_|refine awp_seq_k fun K hK=>?_|refine wN fun bx=>?_|(refine wH ?_;clear hK))
  refine awp_loop0 (ι:={v:Nat//v≤2∧(1≤v→bigR s.x=false)∧(2≤v→bigR s.y=false)}) (fun v=>[(0,spots l),(7,.int .i64 l.length),(8,.int .i64 i),(21,.agg (spE s)),(22,.int .i64 v.1)]) (fun _=>[]) (fun v=>2-v.1) ⟨0,Nat.zero_le _,fun h=>absurd h (by decide),fun h=>absurd h (by decide)⟩ wk ⟨0,rfl⟩ ?_
  rintro⟨v,hv,hv1,hv2⟩
  simp only at hv hv1 hv2 ⊢
  rcases(show v=0∨v=1∨v=2 by omega)with rfl|rfl|rfl
  ·by_cases c1:3<s.x.n.mag.length
   ·have c1':(s.x.n.mag.length:Int)>3:=by omega
    have hr:=hgr (by simp only[bigS,bigR,decide_eq_true c1,Bool.true_or])
    repeat(first|refine wDB ?_|refine awp_seq_k fun K hK=>?_|refine wN fun bx=>?_|(refine wH ?_;clear hK))
    refine qaix tyok (v:=.agg (ratEs s.x)) ?_ (hj:=by decide)
    repeat(first|refine wDB ?_|refine awp_seq_k fun K hK=>?_|refine wN fun bx=>?_|(refine wH ?_;clear hK))
    refine r1 ?_
    exact Sub.of_eq (by rw[hr])
   ·have c1':¬(s.x.n.mag.length:Int)>3:=by omega
    by_cases c2:3<s.x.d.mag.length
    ·have c2':(s.x.d.mag.length:Int)>3:=by omega
     have hr:=hgr (by simp only[bigS,bigR,decide_eq_true c2,Bool.true_or,Bool.or_true])
     repeat(first|refine wDB ?_|refine awp_seq_k fun K hK=>?_|refine wN fun bx=>?_|(refine wH ?_;clear hK))
     refine qaix tyok (v:=.agg (ratEs s.x)) ?_ (hj:=by decide)
     repeat(first|refine wDB ?_|refine awp_seq_k fun K hK=>?_|refine wN fun bx=>?_|(refine wH ?_;clear hK))
     refine r1 ?_
     exact Sub.of_eq (by rw[hr])
    ·have c2':¬(s.x.d.mag.length:Int)>3:=by omega
     repeat(first|refine wDB ?_|refine awp_seq_k fun K hK=>?_|refine wN fun bx=>?_|(refine wH ?_;clear hK))
     refine qaix tyok (v:=.agg (ratEs s.x)) ?_ (hj:=by decide)
     repeat(first|refine wDB ?_|refine awp_seq_k fun K hK=>?_|refine wN fun bx=>?_|(refine wH ?_;clear hK))
     exact⟨⟨1,by decide,fun _=>by simp only[bigR,decide_eq_false c1,decide_eq_false c2,Bool.or_false],fun h=>absurd h (by decide)⟩,wk,dp,by simp only;omega⟩
  ·by_cases c1:3<s.y.n.mag.length
   ·have c1':(s.y.n.mag.length:Int)>3:=by omega
    have hr:=hgr (by simp only[bigS,bigR,decide_eq_true c1,Bool.true_or,Bool.or_true])
    repeat(first|refine wDB ?_|refine awp_seq_k fun K hK=>?_|refine wN fun bx=>?_|(refine wH ?_;clear hK))
    refine qaix tyok (v:=.agg (ratEs s.y)) ?_ (hj:=by decide)
    repeat(first|refine wDB ?_|refine awp_seq_k fun K hK=>?_|refine wN fun bx=>?_|(refine wH ?_;clear hK))
    refine r1 ?_
    exact Sub.of_eq (by rw[hr])
   ·have c1':¬(s.y.n.mag.length:Int)>3:=by omega
    by_cases c2:3<s.y.d.mag.length
    ·have c2':(s.y.d.mag.length:Int)>3:=by omega
     have hr:=hgr (by simp only[bigS,bigR,decide_eq_true c2,Bool.or_true])
     repeat(first|refine wDB ?_|refine awp_seq_k fun K hK=>?_|refine wN fun bx=>?_|(refine wH ?_;clear hK))
     refine qaix tyok (v:=.agg (ratEs s.y)) ?_ (hj:=by decide)
     repeat(first|refine wDB ?_|refine awp_seq_k fun K hK=>?_|refine wN fun bx=>?_|(refine wH ?_;clear hK))
     refine r1 ?_
     exact Sub.of_eq (by rw[hr])
    ·have c2':¬(s.y.d.mag.length:Int)>3:=by omega
     repeat(first|refine wDB ?_|refine awp_seq_k fun K hK=>?_|refine wN fun bx=>?_|(refine wH ?_;clear hK))
     refine qaix tyok (v:=.agg (ratEs s.y)) ?_ (hj:=by decide)
     repeat(first|refine wDB ?_|refine awp_seq_k fun K hK=>?_|refine wN fun bx=>?_|(refine wH ?_;clear hK))
     exact⟨⟨2,by decide,fun _=>hv1 (by decide),fun _=>by simp only[bigR,decide_eq_false c1,decide_eq_false c2,Bool.or_false]⟩,wk,dp,by simp only;omega⟩
  ·have hbs:bigS s=false:=by simp only[bigS,hv1 (by decide),hv2 (by decide),Bool.or_false]
   repeat(first|refine wDB ?_|refine awp_seq_k fun K hK=>?_|refine wN fun bx=>?_|(refine wH ?_;clear hK))
   refine⟨⟨i+1,hlt,fun z hz=>?_⟩,wk,dp,by simp only;omega⟩
   rw[htk]at hz
   rcases List.mem_append.1 hz with hz|hz
   ·exact hb z hz
   ·rw[List.mem_singleton.1 hz]
    exact hbs
 ·have hge:¬(i:Int)<l.length:=by omega
  obtain rfl:i=l.length:=by omega
  rw[List.take_length]at hb
  have hany:l.any bigS=false:=by
   simp only[List.any_eq_false]
   intro z hz
   rw[hb z hz]
   decide
  by_cases c:45<l.length
  ·have c':(l.length:Int)>45:=by omega
   have hr:greatB l=true:=by simp only[greatB,decide_eq_true c,Bool.or_true]
   repeat(first|refine wDB ?_|refine awp_seq_k fun K hK=>?_|refine wN fun bx=>?_|(refine wH ?_;clear hK))
   refine r1 ?_
   exact Sub.of_eq (by rw[hr])
  ·have c':¬(l.length:Int)>45:=by omega
   have hr:greatB l=false:=by simp only[greatB,hany,decide_eq_false c,Bool.or_false]
   repeat(first|refine wDB ?_|refine awp_seq_k fun K hK=>?_|refine wN fun bx=>?_|(refine wH ?_;clear hK))
   refine r1 ?_
   exact Sub.of_eq (by rw[hr])
theorem sps2 (a b:SpotR):Sub (.slice 8 2 (chunk (spE a++spE b) 8) .full) (spots [a,b]):=
 (Sub.view _ _ _ _).trans (Sub.els fun i hi=>match i,hi with
   |0,_=>SubL.refl _
   |1,_=>SubL.refl _)
theorem sps3 (a b c:SpotR):Sub (.slice 8 3 (chunk (spE a++spE b++spE c) 8) .full) (spots [a,b,c]):=
 (Sub.view _ _ _ _).trans (Sub.els fun i hi=>match i,hi with
   |0,_=>SubL.refl _
   |1,_=>SubL.refl _
   |2,_=>SubL.refl _)
theorem sps4 (a b c d:SpotR):Sub (.slice 8 4 (chunk (spE a++spE b++spE c++spE d) 8) .full) (spots [a,b,c,d]):=
 (Sub.view _ _ _ _).trans (Sub.els fun i hi=>match i,hi with
   |0,_=>SubL.refl _
   |1,_=>SubL.refl _
   |2,_=>SubL.refl _
   |3,_=>SubL.refl _)
theorem rqs2 (a b:Rat):Sub (.slice 4 2 (chunk (qE (qrC a)++qE (qrC b)) 4) .full) (ratQ [a,b]):=
 (Sub.view _ _ _ _).trans (Sub.els fun i hi=>match i,hi with
   |0,_=>SubL.refl _
   |1,_=>SubL.refl _)
theorem rqs1 (a:Rat):Sub (.slice 4 1 (chunk (qE (qrC a)) 4) .full) (ratQ [a]):=
 (Sub.view _ _ _ _).trans (Sub.els fun i hi=>match i,hi with
   |0,_=>SubL.refl _)
theorem kn_mid:madeQ [109,105,100,112,111,105,110,116] (spotZ 1 1) [spotZ 0 0,spotZ 2 2] []=([0,0],0):=by
 have hc:conF [109,105,100,112,111,105,110,116]=some cf_midpoint:=by decide +kernel
 unfold madeQ
 rw[hc]
 simp only
 rw[if_pos ⟨rfl,rfl⟩,ce_midpoint]
 have p0:spP [spotZ 1 1,spotZ 0 0,spotZ 2 2] 0=(((1:Int):Rat),((1:Int):Rat)):=spotZ_p 1 1
 have p1:spP [spotZ 1 1,spotZ 0 0,spotZ 2 2] 1=(((0:Int):Rat),((0:Int):Rat)):=spotZ_p 0 0
 have p2:spP [spotZ 1 1,spotZ 0 0,spotZ 2 2] 2=(((2:Int):Rat),((2:Int):Rat)):=spotZ_p 2 2
 rw[p0,p1,p2]
 unfold wx wy
 decide +kernel
theorem kn_col:askedQ [99,111,108,108,105,110,101,97,114] [spotZ 0 0,spotZ 1 1,spotZ 2 3]=([1],0):=by
 have hc:preF [99,111,108,108,105,110,101,97,114]=some pf_collinear:=by decide +kernel
 unfold askedQ
 rw[hc]
 simp only
 rw[if_pos (show((([spotZ 0 0,spotZ 1 1,spotZ 2 3]:List SpotR).length:Nat):Int)=pf_collinear.pts from rfl),pe_collinear]
 have p0:spP [spotZ 0 0,spotZ 1 1,spotZ 2 3] 0=(((0:Int):Rat),((0:Int):Rat)):=spotZ_p 0 0
 have p1:spP [spotZ 0 0,spotZ 1 1,spotZ 2 3] 1=(((1:Int):Rat),((1:Int):Rat)):=spotZ_p 1 1
 have p2:spP [spotZ 0 0,spotZ 1 1,spotZ 2 3] 2=(((2:Int):Rat),((3:Int):Rat)):=spotZ_p 2 3
 rw[p0,p1,p2]
 unfold crossQ wx wy
 decide +kernel
theorem kn_unl:condQ [117,110,108,105,107,101] 2 (spP [spotZ 0 0,spotZ 3 4])=(some 25,0):=by
 unfold condQ
 rw[if_pos rfl,if_pos rfl]
 have p0:spP [spotZ 0 0,spotZ 3 4] 0=(((0:Int):Rat),((0:Int):Rat)):=spotZ_p 0 0
 have p1:spP [spotZ 0 0,spotZ 3 4] 1=(((3:Int):Rat),((4:Int):Rat)):=spotZ_p 3 4
 rw[p0,p1]
 unfold dotQ wx wy
 decide +kernel
theorem cbLknown:Callable Tryz.prog 8:=fun _ _=>by kernel_rfl
theorem lknown_c:PCalls Tryz.prog 8 [] (.bool true):=by
 refine pcalls_of_awp tyok cbLknown Tryz.func8 rfl rfl ?_
 have z:∀x y:Int,x.natAbs≤4→y.natAbs≤4→SpotOk 2 (spotZ x y):=fun x y h1 h2=>spotZ_ok x y (by omega) (by omega)
 have a1:=lspot_c 1 1 (by decide) (by decide)
 have a2:=lspot_c 0 0 (by decide) (by decide)
 have a3:=lspot_c 2 2 (by decide) (by decide)
 have a4:=lspot_c 2 3 (by decide) (by decide)
 have a5:=lspot_c 3 4 (by decide) (by decide)
 have all:∀l:List (Int×Int),(∀p∈l,p.1.natAbs≤4∧p.2.natAbs≤4)→SpotsOk 2 (l.map fun p=>spotZ p.1 p.2):=fun l hl s hs=>by
  obtain⟨p,hp,rfl⟩:=List.mem_map.1 hs
  exact z _ _ (hl p hp).1 (hl p hp).2
 have m1:=smade_c 2 [109,105,100,112,111,105,110,116] (spotZ 1 1) [spotZ 0 0,spotZ 2 2] [] (by decide) (by decide) (z 1 1 (by decide) (by decide)) (all [(0,0),(2,2)] (by decide)) (by simp) (fun z hz=>absurd hz List.not_mem_nil) (by decide)
 rw[kn_mid]at m1
 have m1':=PCalls.sub m1 (vs:=[.str [109,105,100,112,111,105,110,116],.agg (spE (spotZ 1 1)),.slice 8 2 (chunk (spE (spotZ 0 0)++spE (spotZ 2 2)) 8) .full,.nils]) (.cons (Sub.refl _) (.cons (Sub.refl _) (.cons (sps2 _ _) (.cons (Sub.nilsv _ _) .nil))))
 have m2:=sasked_c 2 [99,111,108,108,105,110,101,97,114] [spotZ 0 0,spotZ 1 1,spotZ 2 3] (by decide) (by decide) (all [(0,0),(1,1),(2,3)] (by decide)) (by simp)
 rw[kn_col]at m2
 have m2':=PCalls.sub m2 (vs:=[.str [99,111,108,108,105,110,101,97,114],.slice 8 3 (chunk (spE (spotZ 0 0)++spE (spotZ 1 1)++spE (spotZ 2 3)) 8) .full]) (.cons (Sub.refl _) (.cons (sps3 _ _ _) .nil))
 have m3:=scond_c 2 [117,110,108,105,107,101] [spotZ 0 0,spotZ 3 4] (by decide) (by decide) (all [(0,0),(3,4)] (by decide)) (by simp)
 rw[show([spotZ 0 0,spotZ 3 4]:List SpotR).length=2 from rfl,kn_unl]at m3
 have m3':=PCalls.sub m3 (vs:=[.str [117,110,108,105,107,101],.slice 8 2 (chunk (spE (spotZ 0 0)++spE (spotZ 3 4)) 8) .full]) (.cons (Sub.refl _) (.cons (sps2 _ _) .nil))
 have q0:=qSmall_c 0 1 (by decide) (by decide) (by decide) (by decide)
 have q1:=qSmall_c 1 1 (by decide) (by decide) (by decide) (by decide)
 have q25:=qSmall_c 25 1 (by decide) (by decide) (by decide) (by decide)
 have q25r:=qRat_c 2 (qrC 25) (by decide) (qrC_ok (small_qok (n:=25) (by decide)))
 rw[qrC_q]at q25r
 have ok:∀n:Int,n.natAbs≤100→QOk 2 (n:Rat):=fun n hn=>small_qok (by omega)
 have s1:=r24Same_c 2 [0,0] [0,0] (by decide) (by decide) (by decide) (fun q hq=>by simp at hq;subst hq;exact ok 0 (by decide)) (fun q hq=>by simp at hq;subst hq;exact ok 0 (by decide))
 rw[decide_eq_true rfl]at s1
 have s1':=PCalls.sub s1 (vs:=[ratL [0,0],.slice 4 2 (chunk (qE (qrC 0)++qE (qrC 0)) 4) .full]) (.cons (Sub.refl _) (.cons (rqs2 _ _) .nil))
 have s2:=r24Same_c 2 [1] [1] (by decide) (by decide) (by decide) (fun q hq=>by simp at hq;subst hq;exact ok 1 (by decide)) (fun q hq=>by simp at hq;subst hq;exact ok 1 (by decide))
 rw[decide_eq_true rfl]at s2
 have s2':=PCalls.sub s2 (vs:=[ratL [1],.slice 4 1 (chunk (qE (qrC 1)) 4) .full]) (.cons (Sub.refl _) (.cons (rqs1 _) .nil))
 have k25:=(ratC_ok (ok 25 (by decide))).mono (show 2≤1000000000 by decide)
 have s3:=qSame_c (ratC 25) (ratC 25) k25 k25
 rw[sameR_C,decide_eq_true rfl]at s3
 ((repeat(first|refine wKB ?_|refine awp_seq_k fun K hK=>?_|refine qpc rfl rfl rfl (a1) ?_|refine qpc rfl rfl rfl (a2) ?_|refine qpc rfl rfl rfl (a3) ?_|refine qpc rfl rfl rfl (a4) ?_|refine qpc rfl rfl rfl (a5) ?_|refine qpc rfl rfl rfl (m1') ?_|refine qpc rfl rfl rfl (m2') ?_|refine qpc rfl rfl rfl (m3') ?_|refine qpo rfl rfl rfl rfl rfl rfl (fun _=>a1) ?_|refine qpo rfl rfl rfl rfl rfl rfl (fun _=>a2) ?_|refine qpo rfl rfl rfl rfl rfl rfl (fun _=>a3) ?_|refine qpo rfl rfl rfl rfl rfl rfl (fun _=>a4) ?_|refine qpo rfl rfl rfl rfl rfl rfl (fun _=>a5) ?_|refine qpo rfl rfl rfl rfl rfl rfl (fun _=>m1') ?_|refine qpo rfl rfl rfl rfl rfl rfl (fun _=>m2') ?_|refine qpo rfl rfl rfl rfl rfl rfl (fun _=>m3') ?_|(refine wH ?_;clear hK)));refine wN fun b5=>?_;(repeat(first|refine wKB ?_|refine awp_seq_k fun K hK=>?_|refine wN fun bx=>?_|refine qpc rfl rfl rfl (a1) ?_|refine qpc rfl rfl rfl (a2) ?_|refine qpc rfl rfl rfl (a3) ?_|refine qpc rfl rfl rfl (a4) ?_|refine qpc rfl rfl rfl (a5) ?_|refine qpc rfl rfl rfl (m1') ?_|refine qpc rfl rfl rfl (m2') ?_|refine qpc rfl rfl rfl (m3') ?_|refine qpo rfl rfl rfl rfl rfl rfl (fun _=>a1) ?_|refine qpo rfl rfl rfl rfl rfl rfl (fun _=>a2) ?_|refine qpo rfl rfl rfl rfl rfl rfl (fun _=>a3) ?_|refine qpo rfl rfl rfl rfl rfl rfl (fun _=>a4) ?_|refine qpo rfl rfl rfl rfl rfl rfl (fun _=>a5) ?_|refine qpo rfl rfl rfl rfl rfl rfl (fun _=>m1') ?_|refine qpo rfl rfl rfl rfl rfl rfl (fun _=>m2') ?_|refine qpo rfl rfl rfl rfl rfl rfl (fun _=>m3') ?_|(refine wH ?_;clear hK))))
 refine awp_boxSub [] (v':=.agg (ratEs (ratC 25))) (Sub.of_eq rfl) ?_
 refine awp_freeze [] (s:=5) rfl rfl ?_
 refine awp_weak (T':=[(1,ratL [0,0]),(2,.int .i64 0),(3,ratL [1]),(4,.int .i64 0),(5,.rptr (ratEs (ratC 25))),(6,.int .i64 0)]) wk ?_
 refine areg_soft mixed tyok [12,13,15,19,21,25,26,27] [(14,[]),(20,[])] (List.range 30) (by decide +kernel) ?_
 repeat(first|refine wDB ?_|refine awp_seq_k fun K hK=>?_|refine wN fun bx=>?_|refine qpc rfl rfl rfl (q0) ?_|refine qpc rfl rfl rfl (q1) ?_|refine qpc rfl rfl rfl (q25) ?_|refine qpc rfl rfl rfl (q25r) ?_|refine qpc rfl rfl rfl (s1') ?_|refine qpc rfl rfl rfl (s2') ?_|refine qpc rfl rfl rfl (s3) ?_|refine qpo rfl rfl rfl rfl rfl rfl (fun _=>q0) ?_|refine qpo rfl rfl rfl rfl rfl rfl (fun _=>q1) ?_|refine qpo rfl rfl rfl rfl rfl rfl (fun _=>q25) ?_|refine qpo rfl rfl rfl rfl rfl rfl (fun _=>q25r) ?_|refine qpo rfl rfl rfl rfl rfl rfl (fun _=>s1') ?_|refine qpo rfl rfl rfl rfl rfl rfl (fun _=>s2') ?_|refine qpo rfl rfl rfl rfl rfl rfl (fun _=>s3) ?_|(refine wH ?_;clear hK))
 refine r1 ?_
 exact Sub.refl _
end Go.Proofs.YthfglhjdnpoepaaGreatDoor
