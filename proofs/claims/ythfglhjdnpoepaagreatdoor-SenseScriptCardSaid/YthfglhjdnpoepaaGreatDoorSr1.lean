/-
  The document's answer for layer 24 (porismref24): spots, ways, cross and dot.
-/
import Derived.Test.YthfglhjdnpoepaaGreatDoorNzM
import Derived.Test.YthfglhjdnpoepaaGreatDoorSeM
set_option maxRecDepth 100000
set_option maxHeartbeats 3200000
namespace Go.Proofs.YthfglhjdnpoepaaGreatDoor
open Go.Ab
structure SQ where
 x:QR
 y:QR
deriving Inhabited
structure SQOk (k:Nat) (s:SQ):Prop where
 x:QROk k s.x
 y:QROk k s.y
def sqE (s:SQ):List AV:=qE s.x++qE s.y
abbrev spotsQ (l:List SQ):AV:=sl sqE 8 l .view
def SQ.p (s:SQ):Rat×Rat:=(s.x.q,s.y.q)
theorem SQOk.p {k:Nat} {s:SQ} (h:SQOk k s):POk k s.p:=⟨h.x.q,h.y.q⟩
def ofSpot (s:SpotR):SQ:=⟨ofQ s.x,ofQ s.y⟩
theorem ofSpot_p (s:SpotR):(ofSpot s).p=s.p:=rfl
theorem ofSpot_ok {k:Nat} {s:SpotR} (h:SpotOk (k+1) s):SQOk (k+1) (ofSpot s):=⟨ofQ_ok h.x,ofQ_ok h.y⟩
def ratQ (l:List Rat):AV:=sl (fun q=>qE (qrC q)) 4 l .view
theorem cbR24Of:Callable Tryz.prog 11:=fun _ _=>by kernel_rfl
theorem r24Of_c (s:SpotR) (h:SpotOk 1000000 s):PCalls Tryz.prog 11 [.agg (spE s)] (.agg (sqE (ofSpot s))):=by
 refine pcalls_of_awp tyok cbR24Of Tryz.func11 rfl rfl ?_
 have g1:=qOf_c s.x h.x
 have g2:=qOf_c s.y h.y
 ((repeat(first|refine wKB ?_|refine awp_seq_k fun K hK=>?_|(refine wH ?_;clear hK)));refine wN fun b1=>?_;(repeat(first|refine wKB ?_|refine awp_seq_k fun K hK=>?_|(refine wH ?_;clear hK)));refine wN fun b2=>?_;(repeat(first|refine wKB ?_|refine awp_seq_k fun K hK=>?_|refine wN fun bx=>?_|(refine wH ?_;clear hK))))
 refine awp_freeze [_] (s:=1) rfl rfl ?_
 refine areg_soft mixed tyok [2,5] [] (List.range 8) (by decide +kernel) ?_
 repeat(first|refine wDB ?_|refine awp_seq_k fun K hK=>?_|refine wN fun bx=>?_|refine qpc rfl rfl rfl (g1) ?_|refine qpc rfl rfl rfl (g2) ?_|refine qpo rfl rfl rfl rfl rfl rfl (fun _=>g1) ?_|refine qpo rfl rfl rfl rfl rfl rfl (fun _=>g2) ?_|(refine wH ?_;clear hK))
 refine rcA ?_
 exact Sub.refl _
theorem cbR24All:Callable Tryz.prog 12:=fun _ _=>by kernel_rfl
theorem r24All_c (l:List SpotR) (hl:l.length≤1000000) (h:SpotsOk 1000000 l):PCalls Tryz.prog 12 [spots l] (spotsQ (l.map ofSpot)):=by
 refine pcalls_of_awp tyok cbR24All Tryz.func12 rfl rfl ?_
 repeat(first|refine wD ?_|refine awp_seq_k fun K hK=>?_|refine wN fun bx=>?_|(refine wH ?_;clear hK))
 refine awp_tok0 8 46 ?_
 refine awp_loop0 (ι:={y:Nat×Option Addr×Nat//y.1≤l.length}) (fun y=>[(0,spots l),(3,sl sqE 8 ((l.take y.1.1).map ofSpot) (.own y.1.2.1 y.1.2.2)),(4,.int .i64 y.1.1)])
  (fun y=>[.tok y.1.2.1 y.1.2.2 ((l.take y.1.1).map ofSpot).length 8 46]) (fun y=>l.length-y.1.1) ⟨(0,none,0),Nat.zero_le _⟩ wk ⟨0,rfl⟩ ?_
 rintro⟨⟨i,a,cap⟩,hi⟩
 simp only at hi ⊢
 by_cases hlt:i<l.length
 ·have hlt':(i:Int)<l.length:=by omega
  have g:=r24Of_c (l.getD i default) (h.at hlt)
  have est:(l.take (i+1)).map ofSpot=(l.take i).map ofSpot++[ofSpot (l.getD i default)]:=by
   rw[List.take_succ_eq_append_getElem hlt,List.map_append,List.getD_eq_getElem?_getD,List.getElem?_eq_getElem hlt]
   rfl
  repeat(first|refine wDB ?_|refine awp_seq_k fun K hK=>?_|refine wN fun bx=>?_|refine qpc rfl rfl rfl (g) ?_|refine qpo rfl rfl rfl rfl rfl rfl (fun _=>g) ?_|(refine wH ?_;clear hK))
  refine qapp tyok sqE _ (ofSpot (l.getD i default)) (SubL.refl _) ?_ fun ad cp=>?_
  ·simp only[List.length_map,List.length_take]
   omega
  rw[←est]
  repeat(first|refine wDB ?_|refine awp_seq_k fun K hK=>?_|refine wN fun bx=>?_|(refine wH ?_;clear hK))
  exact⟨⟨(i+1,ad,cp),hlt⟩,wk,⟨0,rfl⟩,by simp only;omega⟩
 ·have hge:¬(i:Int)<l.length:=by omega
  obtain rfl:i=l.length:=by omega
  rw[List.take_length]
  repeat(first|refine wDB ?_|refine awp_seq_k fun K hK=>?_|refine wN fun bx=>?_|(refine wH ?_;clear hK))
  refine r1 ?_
  exact Sub.view _ _ _ _
theorem cbR24Num:Callable Tryz.prog 44:=fun _ _=>by kernel_rfl
theorem r24num_c (n:Int) (h1: -9223372036854775808≤n) (h2:n≤9223372036854775807):PCalls Tryz.prog 44 [.int .i64 n] (.agg (qE (qrC (n:Rat)))):=by
 refine pcalls_of_awp tyok cbR24Num Tryz.func44 rfl rfl ?_
 have g:=qSmall_c n 1 h1 h2 (by decide) (by decide)
 repeat(first|refine wDB ?_|refine awp_seq_k fun K hK=>?_|refine wN fun bx=>?_|refine qpc rfl rfl rfl (g) ?_|refine qpo rfl rfl rfl rfl rfl rfl (fun _=>g) ?_|(refine wH ?_;clear hK))
 refine rcA ?_
 exact Sub.of_eq rfl
theorem cbR24add:Callable Tryz.prog 75:=fun _ _=>by kernel_rfl
theorem r24add_q (k:Nat) (x y:QR) (hk:2*k+1≤1000000) (h1:QROk k x) (h2:QROk k y):PCalls Tryz.prog 75 [.agg (qE x),.agg (qE y)] (.agg (qE (qrC (x.q+y.q)))):=by
 refine pcalls_of_awp tyok cbR24add Tryz.func75 rfl rfl ?_
 have g:=qAdd_c k x y hk h1 h2
 repeat(first|refine wDB ?_|refine awp_seq_k fun K hK=>?_|refine wN fun bx=>?_|refine qpc rfl rfl rfl (g) ?_|refine qpo rfl rfl rfl rfl rfl rfl (fun _=>g) ?_|(refine wH ?_;clear hK))
 refine rcA ?_
 exact Sub.refl _
theorem r24add_c (k:Nat) {j m:Nat} {x y:Rat} (hk:2*k+1≤1000000) (h1:QOk j x) (h2:QOk m y) (hj:j≤k) (hm:m≤k):PCalls Tryz.prog 75 [.agg (qE (qrC x)),.agg (qE (qrC y))] (.agg (qE (qrC (x+y)))):=by
 have:=r24add_q k (qrC x) (qrC y) hk (qrC_ok (h1.mono hj)) (qrC_ok (h2.mono hm))
 rw[qrC_q,qrC_q]at this
 exact this
theorem cbR24sub:Callable Tryz.prog 73:=fun _ _=>by kernel_rfl
theorem r24sub_q (k:Nat) (x y:QR) (hk:2*k+1≤1000000) (h1:QROk k x) (h2:QROk k y):PCalls Tryz.prog 73 [.agg (qE x),.agg (qE y)] (.agg (qE (qrC (x.q-y.q)))):=by
 refine pcalls_of_awp tyok cbR24sub Tryz.func73 rfl rfl ?_
 have g:=qSub_c k x y hk h1 h2
 repeat(first|refine wDB ?_|refine awp_seq_k fun K hK=>?_|refine wN fun bx=>?_|refine qpc rfl rfl rfl (g) ?_|refine qpo rfl rfl rfl rfl rfl rfl (fun _=>g) ?_|(refine wH ?_;clear hK))
 refine rcA ?_
 exact Sub.refl _
theorem r24sub_c (k:Nat) {j m:Nat} {x y:Rat} (hk:2*k+1≤1000000) (h1:QOk j x) (h2:QOk m y) (hj:j≤k) (hm:m≤k):PCalls Tryz.prog 73 [.agg (qE (qrC x)),.agg (qE (qrC y))] (.agg (qE (qrC (x-y)))):=by
 have:=r24sub_q k (qrC x) (qrC y) hk (qrC_ok (h1.mono hj)) (qrC_ok (h2.mono hm))
 rw[qrC_q,qrC_q]at this
 exact this
theorem cbR24mul:Callable Tryz.prog 74:=fun _ _=>by kernel_rfl
theorem r24mul_q (k:Nat) (x y:QR) (hk:2*k+1≤1000000) (h1:QROk k x) (h2:QROk k y):PCalls Tryz.prog 74 [.agg (qE x),.agg (qE y)] (.agg (qE (qrC (x.q*y.q)))):=by
 refine pcalls_of_awp tyok cbR24mul Tryz.func74 rfl rfl ?_
 have g:=qMul_c k x y hk h1 h2
 repeat(first|refine wDB ?_|refine awp_seq_k fun K hK=>?_|refine wN fun bx=>?_|refine qpc rfl rfl rfl (g) ?_|refine qpo rfl rfl rfl rfl rfl rfl (fun _=>g) ?_|(refine wH ?_;clear hK))
 refine rcA ?_
 exact Sub.refl _
theorem r24mul_c (k:Nat) {j m:Nat} {x y:Rat} (hk:2*k+1≤1000000) (h1:QOk j x) (h2:QOk m y) (hj:j≤k) (hm:m≤k):PCalls Tryz.prog 74 [.agg (qE (qrC x)),.agg (qE (qrC y))] (.agg (qE (qrC (x*y)))):=by
 have:=r24mul_q k (qrC x) (qrC y) hk (qrC_ok (h1.mono hj)) (qrC_ok (h2.mono hm))
 rw[qrC_q,qrC_q]at this
 exact this
theorem cbR24x:Callable Tryz.prog 76:=fun _ _=>by kernel_rfl
theorem r24x_c (k:Nat) (a b:SQ) (hk:2*k+1≤1000000) (h1:SQOk k a) (h2:SQOk k b):PCalls Tryz.prog 76 [.agg (sqE a),.agg (sqE b)] (.agg (qE (qrC (wx a.p b.p)))):=by
 refine pcalls_of_awp tyok cbR24x Tryz.func76 rfl rfl ?_
 have g:=r24sub_q k b.x a.x hk h2.x h1.x
 repeat(first|refine wDB ?_|refine awp_seq_k fun K hK=>?_|refine wN fun bx=>?_|refine qpc rfl rfl rfl (g) ?_|refine qpo rfl rfl rfl rfl rfl rfl (fun _=>g) ?_|(refine wH ?_;clear hK))
 refine rcA ?_
 exact Sub.refl _
theorem cbR24y:Callable Tryz.prog 77:=fun _ _=>by kernel_rfl
theorem r24y_c (k:Nat) (a b:SQ) (hk:2*k+1≤1000000) (h1:SQOk k a) (h2:SQOk k b):PCalls Tryz.prog 77 [.agg (sqE a),.agg (sqE b)] (.agg (qE (qrC (wy a.p b.p)))):=by
 refine pcalls_of_awp tyok cbR24y Tryz.func77 rfl rfl ?_
 have g:=r24sub_q k b.y a.y hk h2.y h1.y
 repeat(first|refine wDB ?_|refine awp_seq_k fun K hK=>?_|refine wN fun bx=>?_|refine qpc rfl rfl rfl (g) ?_|refine qpo rfl rfl rfl rfl rfl rfl (fun _=>g) ?_|(refine wH ?_;clear hK))
 refine rcA ?_
 exact Sub.refl _
theorem cbR24cross:Callable Tryz.prog 46:=fun _ _=>by kernel_rfl
theorem r24cross_c (k:Nat) (a b c d:SQ) (hk:k≤1000) (h1:SQOk k a) (h2:SQOk k b) (h3:SQOk k c) (h4:SQOk k d):PCalls Tryz.prog 46 [.agg (sqE a),.agg (sqE b),.agg (sqE c),.agg (sqE d)] (.agg (qE (qrC (crossQ a.p b.p c.p d.p)))):=by
 refine pcalls_of_awp tyok cbR24cross Tryz.func46 rfl rfl ?_
 have q1:=h1.p.wx h2.p
 have q2:=h3.p.wy h4.p
 have q3:=h1.p.wy h2.p
 have q4:=h3.p.wx h4.p
 have g1:=r24x_c k a b (by omega) h1 h2
 have g2:=r24y_c k c d (by omega) h3 h4
 have g3:=r24y_c k a b (by omega) h1 h2
 have g4:=r24x_c k c d (by omega) h3 h4
 have g5:=r24mul_c (2*k+1) (by omega) q1 q2 (Nat.le_refl _) (Nat.le_refl _)
 have g6:=r24mul_c (2*k+1) (by omega) q3 q4 (Nat.le_refl _) (Nat.le_refl _)
 have g7:=r24sub_c (2*k+1+(2*k+1)) (by omega) (q1.mul q2) (q3.mul q4) (Nat.le_refl _) (Nat.le_refl _)
 ((repeat(first|refine wKB ?_|refine awp_seq_k fun K hK=>?_|(refine wH ?_;clear hK)));refine wN fun b4=>?_;(repeat(first|refine wKB ?_|refine awp_seq_k fun K hK=>?_|(refine wH ?_;clear hK)));refine wN fun b5=>?_;(repeat(first|refine wKB ?_|refine awp_seq_k fun K hK=>?_|(refine wH ?_;clear hK)));refine wN fun b6=>?_;(repeat(first|refine wKB ?_|refine awp_seq_k fun K hK=>?_|(refine wH ?_;clear hK)));refine wN fun b7=>?_;(repeat(first|refine wKB ?_|refine awp_seq_k fun K hK=>?_|(refine wH ?_;clear hK)));refine wN fun b8=>?_;(repeat(first|refine wKB ?_|refine awp_seq_k fun K hK=>?_|refine wN fun bx=>?_|(refine wH ?_;clear hK))))
 refine awp_freeze [_,_,_,_] (s:=4) rfl rfl ?_
 refine awp_freeze [_,_,_] (s:=5) rfl rfl ?_
 refine awp_freeze [_,_] (s:=6) rfl rfl ?_
 refine awp_freeze [_] (s:=7) rfl rfl ?_
 refine areg_soft mixed tyok [2,5,6,9,12,13,14] [] (List.range 16) (by decide +kernel) ?_
 repeat(first|refine wDB ?_|refine awp_seq_k fun K hK=>?_|refine wN fun bx=>?_|refine qpc rfl rfl rfl (g1) ?_|refine qpc rfl rfl rfl (g2) ?_|refine qpc rfl rfl rfl (g3) ?_|refine qpc rfl rfl rfl (g4) ?_|refine qpc rfl rfl rfl (g5) ?_|refine qpc rfl rfl rfl (g6) ?_|refine qpc rfl rfl rfl (g7) ?_|refine qpo rfl rfl rfl rfl rfl rfl (fun _=>g1) ?_|refine qpo rfl rfl rfl rfl rfl rfl (fun _=>g2) ?_|refine qpo rfl rfl rfl rfl rfl rfl (fun _=>g3) ?_|refine qpo rfl rfl rfl rfl rfl rfl (fun _=>g4) ?_|refine qpo rfl rfl rfl rfl rfl rfl (fun _=>g5) ?_|refine qpo rfl rfl rfl rfl rfl rfl (fun _=>g6) ?_|refine qpo rfl rfl rfl rfl rfl rfl (fun _=>g7) ?_|(refine wH ?_;clear hK))
 refine rcA ?_
 exact Sub.refl _
theorem cbR24dot:Callable Tryz.prog 45:=fun _ _=>by kernel_rfl
theorem r24dot_c (k:Nat) (a b c d:SQ) (hk:k≤1000) (h1:SQOk k a) (h2:SQOk k b) (h3:SQOk k c) (h4:SQOk k d):PCalls Tryz.prog 45 [.agg (sqE a),.agg (sqE b),.agg (sqE c),.agg (sqE d)] (.agg (qE (qrC (dotQ a.p b.p c.p d.p)))):=by
 refine pcalls_of_awp tyok cbR24dot Tryz.func45 rfl rfl ?_
 have q1:=h1.p.wx h2.p
 have q2:=h3.p.wx h4.p
 have q3:=h1.p.wy h2.p
 have q4:=h3.p.wy h4.p
 have g1:=r24x_c k a b (by omega) h1 h2
 have g2:=r24x_c k c d (by omega) h3 h4
 have g3:=r24y_c k a b (by omega) h1 h2
 have g4:=r24y_c k c d (by omega) h3 h4
 have g5:=r24mul_c (2*k+1) (by omega) q1 q2 (Nat.le_refl _) (Nat.le_refl _)
 have g6:=r24mul_c (2*k+1) (by omega) q3 q4 (Nat.le_refl _) (Nat.le_refl _)
 have g7:=r24add_c (2*k+1+(2*k+1)) (by omega) (q1.mul q2) (q3.mul q4) (Nat.le_refl _) (Nat.le_refl _)
 ((repeat(first|refine wKB ?_|refine awp_seq_k fun K hK=>?_|(refine wH ?_;clear hK)));refine wN fun b4=>?_;(repeat(first|refine wKB ?_|refine awp_seq_k fun K hK=>?_|(refine wH ?_;clear hK)));refine wN fun b5=>?_;(repeat(first|refine wKB ?_|refine awp_seq_k fun K hK=>?_|(refine wH ?_;clear hK)));refine wN fun b6=>?_;(repeat(first|refine wKB ?_|refine awp_seq_k fun K hK=>?_|(refine wH ?_;clear hK)));refine wN fun b7=>?_;(repeat(first|refine wKB ?_|refine awp_seq_k fun K hK=>?_|(refine wH ?_;clear hK)));refine wN fun b8=>?_;(repeat(first|refine wKB ?_|refine awp_seq_k fun K hK=>?_|refine wN fun bx=>?_|(refine wH ?_;clear hK))))
 refine awp_freeze [_,_,_,_] (s:=4) rfl rfl ?_
 refine awp_freeze [_,_,_] (s:=5) rfl rfl ?_
 refine awp_freeze [_,_] (s:=6) rfl rfl ?_
 refine awp_freeze [_] (s:=7) rfl rfl ?_
 refine areg_soft mixed tyok [2,5,6,9,12,13,14] [] (List.range 16) (by decide +kernel) ?_
 repeat(first|refine wDB ?_|refine awp_seq_k fun K hK=>?_|refine wN fun bx=>?_|refine qpc rfl rfl rfl (g1) ?_|refine qpc rfl rfl rfl (g2) ?_|refine qpc rfl rfl rfl (g3) ?_|refine qpc rfl rfl rfl (g4) ?_|refine qpc rfl rfl rfl (g5) ?_|refine qpc rfl rfl rfl (g6) ?_|refine qpc rfl rfl rfl (g7) ?_|refine qpo rfl rfl rfl rfl rfl rfl (fun _=>g1) ?_|refine qpo rfl rfl rfl rfl rfl rfl (fun _=>g2) ?_|refine qpo rfl rfl rfl rfl rfl rfl (fun _=>g3) ?_|refine qpo rfl rfl rfl rfl rfl rfl (fun _=>g4) ?_|refine qpo rfl rfl rfl rfl rfl rfl (fun _=>g5) ?_|refine qpo rfl rfl rfl rfl rfl rfl (fun _=>g6) ?_|refine qpo rfl rfl rfl rfl rfl rfl (fun _=>g7) ?_|(refine wH ?_;clear hK))
 refine rcA ?_
 exact Sub.refl _
theorem cbR24Same:Callable Tryz.prog 17:=fun _ _=>by kernel_rfl
theorem r24Same_c (k:Nat) (a b:List Rat) (hk:k≤1000000) (_:a.length≤1000000) (hb:b.length≤1000000) (h1:∀q∈a,QOk k q) (h2:∀q∈b,QOk k q):PCalls Tryz.prog 17 [ratL a,ratQ b] (.bool (decide (a=b))):=by
 refine pcalls_of_awp tyok cbR24Same Tryz.func17 rfl rfl ?_
 unfold ratL ratQ
 by_cases hl:a.length=b.length
 rotate_left
 ·have hl':¬(a.length:Int)=b.length:=by omega
  have hr:decide (a=b)=false:=decide_eq_false fun e=>hl (by rw[e])
  repeat(first|refine wDB ?_|refine awp_seq_k fun K hK=>?_|refine wN fun bx=>?_|(refine wH ?_;clear hK))
  refine r1 ?_
  exact Sub.of_eq (by rw[hr])
 have hl':(a.length:Int)=b.length:=by omega
 repeat(first|refine wDB ?_|refine awp_seq_k fun K hK=>?_|refine wN fun bx=>?_|(refine wH ?_;clear hK))
 refine awp_loop0 (ι:={i:Nat//i≤a.length∧a.take i=b.take i}) (fun i=>[(0,sl (fun q=>ratEs (ratC q)) 4 a .view),(1,sl (fun q=>qE (qrC q)) 4 b .view),(5,.int .i64 i.1)]) (fun _=>[]) (fun i=>a.length-i.1) ⟨0,Nat.zero_le _,rfl⟩ wk dp ?_
 rintro⟨i,hi,he⟩
 simp only at hi he ⊢
 by_cases hlt:i<a.length
 ·have hlt':(i:Int)<a.length:=by omega
  have hlb:i<b.length:=by omega
  have hlb':(i:Int)<b.length:=by omega
  have ga:a.getD i default=a[i]:=by
   rw[List.getD_eq_getElem?_getD,List.getElem?_eq_getElem hlt]
   rfl
  have gb:b.getD i default=b[i]:=by
   rw[List.getD_eq_getElem?_getD,List.getElem?_eq_getElem hlb]
   rfl
  have oa:=h1 _ (getD_mem hlt)
  have ob:=h2 _ (getD_mem hlb)
  have g1:=qRat_c k (qrC (b.getD i default)) hk (qrC_ok ob)
  rw[qrC_q]at g1
  have g2:=qSame_c (ratC (a.getD i default)) (ratC (b.getD i default)) ((ratC_ok oa).mono (by omega)) ((ratC_ok ob).mono (by omega))
  rw[sameR_C]at g2
  by_cases hx:a[i]=b[i]
  ·rw[decide_eq_true (show a.getD i default=b.getD i default by rw[ga,gb,hx])]at g2
   repeat(first|refine wKB ?_|refine awp_seq_k fun K hK=>?_|refine wN fun bx=>?_|(refine wH ?_;clear hK))
   refine areg_soft mixed tyok [8,9] [] (List.range 11) (by decide +kernel) ?_
   repeat(first|refine wDB ?_|refine awp_seq_k fun K hK=>?_|refine wN fun bx=>?_|refine qpc rfl rfl rfl (g1) ?_|refine qpc rfl rfl rfl (g2) ?_|refine qpo rfl rfl rfl rfl rfl rfl (fun _=>g1) ?_|refine qpo rfl rfl rfl rfl rfl rfl (fun _=>g2) ?_|(refine wH ?_;clear hK))
   exact⟨⟨i+1,hlt,by rw[List.take_succ_eq_append_getElem hlt,List.take_succ_eq_append_getElem hlb,he,hx]⟩,wk,dp,by simp only;omega⟩
  ·rw[decide_eq_false (show¬a.getD i default=b.getD i default by rw[ga,gb];exact hx)]at g2
   have hr:decide (a=b)=false:=decide_eq_false fun e=>by
    subst e
    exact hx rfl
   repeat(first|refine wKB ?_|refine awp_seq_k fun K hK=>?_|refine wN fun bx=>?_|(refine wH ?_;clear hK))
   refine areg_soft mixed tyok [8,9] [] (List.range 11) (by decide +kernel) ?_
   repeat(first|refine wDB ?_|refine awp_seq_k fun K hK=>?_|refine wN fun bx=>?_|refine qpc rfl rfl rfl (g1) ?_|refine qpc rfl rfl rfl (g2) ?_|refine qpo rfl rfl rfl rfl rfl rfl (fun _=>g1) ?_|refine qpo rfl rfl rfl rfl rfl rfl (fun _=>g2) ?_|(refine wH ?_;clear hK))
   refine r1 ?_
   exact Sub.of_eq (by rw[hr])
 ·have hge:¬(i:Int)<a.length:=by omega
  have hr:decide (a=b)=true:=decide_eq_true (by
   rw[List.take_of_length_le (by omega),List.take_of_length_le (by omega)]at he
   exact he)
  repeat(first|refine wDB ?_|refine awp_seq_k fun K hK=>?_|refine wN fun bx=>?_|(refine wH ?_;clear hK))
  refine r1 ?_
  exact Sub.of_eq (by rw[hr])
end Go.Proofs.YthfglhjdnpoepaaGreatDoor
