/-
  Layer 24 (sense): coordinates of ways, their cross and dot.
-/
import Derived.Test.YthfglhjdnpoepaaGreatDoorNwM
import Derived.Test.YthfglhjdnpoepaaGreatDoorFgM
import Derived.Test.YthfglhjdnpoepaaGreatDoorAbC
set_option maxRecDepth 100000
set_option maxHeartbeats 6400000
namespace Go.Proofs.YthfglhjdnpoepaaGreatDoor
open Go.Ab
structure SpotR where
 x:RatR
 y:RatR
deriving Inhabited
structure SpotOk (k:Nat) (s:SpotR):Prop where
 x:RatOk k s.x
 y:RatOk k s.y
def spE (s:SpotR):List AV:=ratEs s.x++ratEs s.y
abbrev spots (l:List SpotR):AV:=sl spE 8 l .view
def SpotR.p (s:SpotR):Rat×Rat:=(s.x.q,s.y.q)
def wx (a b:Rat×Rat):Rat:=b.1-a.1
def wy (a b:Rat×Rat):Rat:=b.2-a.2
def crossQ (a b c d:Rat×Rat):Rat:=wx a b*wy c d-wy a b*wx c d
def dotQ (a b c d:Rat×Rat):Rat:=wx a b*wx c d+wy a b*wy c d
structure POk (k:Nat) (p:Rat×Rat):Prop where
 x:QOk k p.1
 y:QOk k p.2
theorem POk.wx {k:Nat} {a b:Rat×Rat} (h:POk k a) (g:POk k b):QOk (2*k+1) (wx a b):=(g.x.sub h.x).mono (by omega)
theorem POk.wy {k:Nat} {a b:Rat×Rat} (h:POk k a) (g:POk k b):QOk (2*k+1) (wy a b):=(g.y.sub h.y).mono (by omega)
theorem POk.cross {k:Nat} {a b c d:Rat×Rat} (h:POk k a) (g:POk k b) (i:POk k c) (j:POk k d):QOk (8*k+5) (crossQ a b c d):=
 (((h.wx g).mul (i.wy j)).sub ((h.wy g).mul (i.wx j))).mono (by omega)
theorem POk.dot {k:Nat} {a b c d:Rat×Rat} (h:POk k a) (g:POk k b) (i:POk k c) (j:POk k d):QOk (8*k+5) (dotQ a b c d):=
 (((h.wx g).mul (i.wx j)).add ((h.wy g).mul (i.wy j))).mono (by omega)
theorem SpotOk.p {k:Nat} {s:SpotR} (h:SpotOk (k+1) s):POk (k+1) s.p:=⟨ratR_qok h.x,ratR_qok h.y⟩
theorem RatOk.mono {k m:Nat} {x:RatR} (h:RatOk k x) (hk:k≤m):RatOk m x:=⟨h.n.mono hk,h.d.mono hk⟩
def SpotsOk (k:Nat) (l:List SpotR):Prop:=∀s∈l,SpotOk k s
theorem SpotsOk.at {k:Nat} {l:List SpotR} (h:SpotsOk k l) {i:Nat} (hi:i<l.length):SpotOk k (l.getD i default):=by
 rw[List.getD_eq_getElem?_getD,List.getElem?_eq_getElem hi]
 exact h _ (List.getElem_mem hi)
theorem cbSx:Callable Tryz.prog 80:=fun _ _=>by kernel_rfl
theorem sx_c (k:Nat) (l:List SpotR) (a b:Nat) (hk:k≤1000) (h:SpotsOk k l) (ha:a<l.length) (hb:b<l.length):PCalls Tryz.prog 80 [spots l,.int .i64 a,.int .i64 b] (.agg (ratEs (ratC (wx (l.getD a default).p (l.getD b default).p)))):=by
 refine pcalls_of_awp tyok cbSx Tryz.func80 rfl rfl ?_
 have g:=ratSub_c (l.getD b default).x (l.getD a default).x ((h.at hb).x.mono (by omega)) ((h.at ha).x.mono (by omega))
 have ha':(a:Int)<l.length:=by omega
 have hb':(b:Int)<l.length:=by omega
 repeat(first|refine wKB ?_|refine awp_seq_k fun K hK=>?_|refine wN fun bx=>?_|(refine wH ?_;clear hK))
 refine areg_soft mixed tyok [10] [] [0,1,2,3,4,5,6,7,8,9,10,11] (by decide +kernel) ?_
 repeat(first|refine wDB ?_|refine awp_seq_k fun K hK=>?_|refine wN fun bx=>?_|refine qpc rfl rfl rfl (g) ?_|refine qpo rfl rfl rfl rfl rfl rfl (fun _=>g) ?_|(refine wH ?_;clear hK))
 refine rcA ?_
 exact Sub.refl _
theorem cbSy:Callable Tryz.prog 81:=fun _ _=>by kernel_rfl
theorem sy_c (k:Nat) (l:List SpotR) (a b:Nat) (hk:k≤1000) (h:SpotsOk k l) (ha:a<l.length) (hb:b<l.length):PCalls Tryz.prog 81 [spots l,.int .i64 a,.int .i64 b] (.agg (ratEs (ratC (wy (l.getD a default).p (l.getD b default).p)))):=by
 refine pcalls_of_awp tyok cbSy Tryz.func81 rfl rfl ?_
 have g:=ratSub_c (l.getD b default).y (l.getD a default).y ((h.at hb).y.mono (by omega)) ((h.at ha).y.mono (by omega))
 have ha':(a:Int)<l.length:=by omega
 have hb':(b:Int)<l.length:=by omega
 repeat(first|refine wKB ?_|refine awp_seq_k fun K hK=>?_|refine wN fun bx=>?_|(refine wH ?_;clear hK))
 refine areg_soft mixed tyok [10] [] [0,1,2,3,4,5,6,7,8,9,10,11] (by decide +kernel) ?_
 repeat(first|refine wDB ?_|refine awp_seq_k fun K hK=>?_|refine wN fun bx=>?_|refine qpc rfl rfl rfl (g) ?_|refine qpo rfl rfl rfl rfl rfl rfl (fun _=>g) ?_|(refine wH ?_;clear hK))
 refine rcA ?_
 exact Sub.refl _
structure FrmN where
 k:Nat
 a:Nat
 b:Nat
 c:Nat
 d:Nat
deriving Inhabited,DecidableEq
def frmE (f:FrmN):List AV:=[.int .u8 f.k,.int .i64 f.a,.int .i64 f.b,.int .i64 f.c,.int .i64 f.d]
structure FrmIn (n:Nat) (f:FrmN):Prop where
 a:f.a<n
 b:f.b<n
 c:f.c<n
 d:f.d<n
theorem ratR_C {k:Nat} {q:Rat} (h:QOk k q) (hk:k≤1000000):RatOk 1000000 (ratC q):=(ratC_ok h).mono hk
theorem cbSfx:Callable Tryz.prog 105:=fun _ _=>by kernel_rfl
theorem sformX_c (k:Nat) (l:List SpotR) (f:FrmN) (hk:k≤1000) (h:SpotsOk k l) (hf:FrmIn l.length f):PCalls Tryz.prog 105 [spots l,.agg (frmE f)] (.agg (ratEs (ratC (wx (l.getD f.a default).p (l.getD f.b default).p)))):=by
 refine pcalls_of_awp tyok cbSfx Tryz.func105 rfl rfl ?_
 have g:=sx_c k l f.a f.b hk h hf.a hf.b
 repeat(first|refine wDB ?_|refine awp_seq_k fun K hK=>?_|refine wN fun bx=>?_|refine qpc rfl rfl rfl (g) ?_|refine qpo rfl rfl rfl rfl rfl rfl (fun _=>g) ?_|(refine wH ?_;clear hK))
 refine rcA ?_
 exact Sub.refl _
theorem cbSfy:Callable Tryz.prog 106:=fun _ _=>by kernel_rfl
theorem sformY_c (k:Nat) (l:List SpotR) (f:FrmN) (hk:k≤1000) (h:SpotsOk k l) (hf:FrmIn l.length f):PCalls Tryz.prog 106 [spots l,.agg (frmE f)] (.agg (ratEs (ratC (wy (l.getD f.a default).p (l.getD f.b default).p)))):=by
 refine pcalls_of_awp tyok cbSfy Tryz.func106 rfl rfl ?_
 have g:=sy_c k l f.a f.b hk h hf.a hf.b
 repeat(first|refine wDB ?_|refine awp_seq_k fun K hK=>?_|refine wN fun bx=>?_|refine qpc rfl rfl rfl (g) ?_|refine qpo rfl rfl rfl rfl rfl rfl (fun _=>g) ?_|(refine wH ?_;clear hK))
 refine rcA ?_
 exact Sub.refl _
theorem cbScross:Callable Tryz.prog 43:=fun _ _=>by kernel_rfl
theorem scross_c (k:Nat) (l:List SpotR) (f:FrmN) (hk1:1≤k) (hk:k≤1000) (h:SpotsOk k l) (hf:FrmIn l.length f):PCalls Tryz.prog 43 [spots l,.agg (frmE f)] (.agg (ratEs (ratC (crossQ (l.getD f.a default).p (l.getD f.b default).p (l.getD f.c default).p (l.getD f.d default).p)))):=by
 refine pcalls_of_awp tyok cbScross Tryz.func43 rfl rfl ?_
 obtain⟨k,rfl⟩:∃m,k=m+1:=⟨k-1,by omega⟩
 have pa:=(h.at hf.a).p
 have pb:=(h.at hf.b).p
 have pc:=(h.at hf.c).p
 have pd:=(h.at hf.d).p
 have g1:=sx_c _ l f.a f.b hk h hf.a hf.b
 have g2:=sy_c _ l f.c f.d hk h hf.c hf.d
 have g3:=sy_c _ l f.a f.b hk h hf.a hf.b
 have g4:=sx_c _ l f.c f.d hk h hf.c hf.d
 have g5:=ratMul_c _ _ (ratR_C (pa.wx pb) (by omega)) (ratR_C (pc.wy pd) (by omega))
 have g6:=ratMul_c _ _ (ratR_C (pa.wy pb) (by omega)) (ratR_C (pc.wx pd) (by omega))
 rw[ratC_q,ratC_q]at g5 g6
 have g7:=ratSub_c _ _ (ratR_C ((pa.wx pb).mul (pc.wy pd)) (by omega)) (ratR_C ((pa.wy pb).mul (pc.wx pd)) (by omega))
 rw[ratC_q,ratC_q]at g7
 ((repeat(first|refine wKB ?_|refine awp_seq_k fun K hK=>?_|(refine wH ?_;clear hK)));refine wN fun b3=>?_;(repeat(first|refine wKB ?_|refine awp_seq_k fun K hK=>?_|(refine wH ?_;clear hK)));refine wN fun b4=>?_;(repeat(first|refine wKB ?_|refine awp_seq_k fun K hK=>?_|refine wN fun bx=>?_|(refine wH ?_;clear hK))))
 refine awp_freeze [_] (s:=3) rfl rfl ?_
 refine areg_soft mixed tyok [5,11,12,18,24,25,26] [] (List.range 28) (by decide +kernel) ?_
 repeat(first|refine wDB ?_|refine awp_seq_k fun K hK=>?_|refine wN fun bx=>?_|refine qpc rfl rfl rfl (g1) ?_|refine qpc rfl rfl rfl (g2) ?_|refine qpc rfl rfl rfl (g3) ?_|refine qpc rfl rfl rfl (g4) ?_|refine qpc rfl rfl rfl (g5) ?_|refine qpc rfl rfl rfl (g6) ?_|refine qpc rfl rfl rfl (g7) ?_|refine qpo rfl rfl rfl rfl rfl rfl (fun _=>g1) ?_|refine qpo rfl rfl rfl rfl rfl rfl (fun _=>g2) ?_|refine qpo rfl rfl rfl rfl rfl rfl (fun _=>g3) ?_|refine qpo rfl rfl rfl rfl rfl rfl (fun _=>g4) ?_|refine qpo rfl rfl rfl rfl rfl rfl (fun _=>g5) ?_|refine qpo rfl rfl rfl rfl rfl rfl (fun _=>g6) ?_|refine qpo rfl rfl rfl rfl rfl rfl (fun _=>g7) ?_|(refine wH ?_;clear hK))
 refine rcA ?_
 exact Sub.refl _
theorem cbSdot:Callable Tryz.prog 42:=fun _ _=>by kernel_rfl
theorem sdot_c (k:Nat) (l:List SpotR) (f:FrmN) (hk1:1≤k) (hk:k≤1000) (h:SpotsOk k l) (hf:FrmIn l.length f):PCalls Tryz.prog 42 [spots l,.agg (frmE f)] (.agg (ratEs (ratC (dotQ (l.getD f.a default).p (l.getD f.b default).p (l.getD f.c default).p (l.getD f.d default).p)))):=by
 refine pcalls_of_awp tyok cbSdot Tryz.func42 rfl rfl ?_
 obtain⟨k,rfl⟩:∃m,k=m+1:=⟨k-1,by omega⟩
 have pa:=(h.at hf.a).p
 have pb:=(h.at hf.b).p
 have pc:=(h.at hf.c).p
 have pd:=(h.at hf.d).p
 have g1:=sx_c _ l f.a f.b hk h hf.a hf.b
 have g2:=sx_c _ l f.c f.d hk h hf.c hf.d
 have g3:=sy_c _ l f.a f.b hk h hf.a hf.b
 have g4:=sy_c _ l f.c f.d hk h hf.c hf.d
 have g5:=ratMul_c _ _ (ratR_C (pa.wx pb) (by omega)) (ratR_C (pc.wx pd) (by omega))
 have g6:=ratMul_c _ _ (ratR_C (pa.wy pb) (by omega)) (ratR_C (pc.wy pd) (by omega))
 rw[ratC_q,ratC_q]at g5 g6
 have g7:=ratAdd_c _ _ (ratR_C ((pa.wx pb).mul (pc.wx pd)) (by omega)) (ratR_C ((pa.wy pb).mul (pc.wy pd)) (by omega))
 rw[ratC_q,ratC_q]at g7
 ((repeat(first|refine wKB ?_|refine awp_seq_k fun K hK=>?_|(refine wH ?_;clear hK)));refine wN fun b3=>?_;(repeat(first|refine wKB ?_|refine awp_seq_k fun K hK=>?_|(refine wH ?_;clear hK)));refine wN fun b4=>?_;(repeat(first|refine wKB ?_|refine awp_seq_k fun K hK=>?_|refine wN fun bx=>?_|(refine wH ?_;clear hK))))
 refine awp_freeze [_] (s:=3) rfl rfl ?_
 refine areg_soft mixed tyok [5,11,12,18,24,25,26] [] (List.range 28) (by decide +kernel) ?_
 repeat(first|refine wDB ?_|refine awp_seq_k fun K hK=>?_|refine wN fun bx=>?_|refine qpc rfl rfl rfl (g1) ?_|refine qpc rfl rfl rfl (g2) ?_|refine qpc rfl rfl rfl (g3) ?_|refine qpc rfl rfl rfl (g4) ?_|refine qpc rfl rfl rfl (g5) ?_|refine qpc rfl rfl rfl (g6) ?_|refine qpc rfl rfl rfl (g7) ?_|refine qpo rfl rfl rfl rfl rfl rfl (fun _=>g1) ?_|refine qpo rfl rfl rfl rfl rfl rfl (fun _=>g2) ?_|refine qpo rfl rfl rfl rfl rfl rfl (fun _=>g3) ?_|refine qpo rfl rfl rfl rfl rfl rfl (fun _=>g4) ?_|refine qpo rfl rfl rfl rfl rfl rfl (fun _=>g5) ?_|refine qpo rfl rfl rfl rfl rfl rfl (fun _=>g6) ?_|refine qpo rfl rfl rfl rfl rfl rfl (fun _=>g7) ?_|(refine wH ?_;clear hK))
 refine rcA ?_
 exact Sub.refl _
theorem cbSsmall:Callable Tryz.prog 107:=fun _ _=>by kernel_rfl
theorem ssmall_c (n:Int) (h1: -9223372036854775808≤n) (h2:n≤9223372036854775807):PCalls Tryz.prog 107 [.int .i64 n] (.agg (ratEs (ratC (n:Rat)))):=by
 refine pcalls_of_awp tyok cbSsmall Tryz.func107 rfl rfl ?_
 have g1:=of1_c n h1 h2
 have g2:=ratWhole_c (intC n) ((LimOk.digs (k:=2) (by unfold B32;omega)).mono (by decide))
 rw[intC_z]at g2
 repeat(first|refine wDB ?_|refine awp_seq_k fun K hK=>?_|refine wN fun bx=>?_|refine qpc rfl rfl rfl (g1) ?_|refine qpc rfl rfl rfl (g2) ?_|refine qpo rfl rfl rfl rfl rfl rfl (fun _=>g1) ?_|refine qpo rfl rfl rfl rfl rfl rfl (fun _=>g2) ?_|(refine wH ?_;clear hK))
 refine rcA ?_
 exact Sub.refl _
end Go.Proofs.YthfglhjdnpoepaaGreatDoor
namespace Go.Proofs.YthfglhjdnpoepaaGreatDoor
open Go.Ab
def formQ (P:Nat→Rat×Rat) (f:FormR):Rat:=
 if f.k=1 then wx (P f.a.toNat) (P f.b.toNat)
 else if f.k=2 then wy (P f.a.toNat) (P f.b.toNat)
 else if f.k=3 then crossQ (P f.a.toNat) (P f.b.toNat) (P f.c.toNat) (P f.d.toNat)
 else dotQ (P f.a.toNat) (P f.b.toNat) (P f.c.toNat) (P f.d.toNat)
structure FormIn (n:Nat) (f:FormR):Prop where
 k:f.k=1∨f.k=2∨f.k=3∨f.k=4
 a:0≤f.a∧f.a<n
 b:0≤f.b∧f.b<n
 c:0≤f.c∧f.c<n
 d:0≤f.d∧f.d<n
def FormR.toN (f:FormR):FrmN:=⟨f.k.toNat,f.a.toNat,f.b.toNat,f.c.toNat,f.d.toNat⟩
theorem toN_E {n:Nat} {f:FormR} (h:FormIn n f):frmE f.toN=formE f:=by
 obtain⟨hk,ha,hb,hc,hd⟩:=h
 have e1:(f.k.toNat:Int)=f.k:=by omega
 have e2:(f.a.toNat:Int)=f.a:=by omega
 have e3:(f.b.toNat:Int)=f.b:=by omega
 have e4:(f.c.toNat:Int)=f.c:=by omega
 have e5:(f.d.toNat:Int)=f.d:=by omega
 unfold frmE FormR.toN formE
 rw[e1,e2,e3,e4,e5]
theorem toN_in {n:Nat} {f:FormR} (h:FormIn n f):FrmIn n f.toN:=by
 obtain⟨_,ha,hb,hc,hd⟩:=h
 exact⟨by show f.a.toNat<n;omega,by show f.b.toNat<n;omega,by show f.c.toNat<n;omega,by show f.d.toNat<n;omega⟩
def numQ (nums:List Int) (p:PieceR):Rat:=if 0<p.f then((nums.getD (p.f-1).toNat 0:Int):Rat) else 1
def facsQ (P:Nat→Rat×Rat) (x:Rat) (fs:List FormR):Rat:=fs.foldl (fun x f=>x*formQ P f) x
def pieceQ (P:Nat→Rat×Rat) (nums:List Int) (p:PieceR):Rat:=facsQ P ((p.n:Rat)*numQ nums p) p.fs
def sumQ (P:Nat→Rat×Rat) (nums:List Int) (s:Rat) (e:List PieceR):Rat:=e.foldl (fun s p=>s+pieceQ P nums p) s
def eqQ (P:Nat→Rat×Rat) (nums:List Int) (e:List PieceR):Rat:=sumQ P nums 0 e
structure PieceIn (n m:Nat) (p:PieceR):Prop where
 nn: -1000≤p.n∧p.n≤1000
 f:0≤p.f∧p.f≤m
 len:p.fs.length≤10
 fs:∀f∈p.fs,FormIn n f
theorem formQ_ok {k n:Nat} {P:Nat→Rat×Rat} {f:FormR} (hP:∀i,i<n→POk k (P i)) (h:FormIn n f):QOk (8*k+5) (formQ P f):=by
 have pa:=hP f.a.toNat (by have:=h.a;omega)
 have pb:=hP f.b.toNat (by have:=h.b;omega)
 have pc:=hP f.c.toNat (by have:=h.c;omega)
 have pd:=hP f.d.toNat (by have:=h.d;omega)
 unfold formQ
 split
 ·exact(pa.wx pb).mono (by omega)
 ·split
  ·exact(pa.wy pb).mono (by omega)
  ·split
   ·exact pa.cross pb pc pd
   ·exact pa.dot pb pc pd
theorem facs_take {P:Nat→Rat×Rat} {x:Rat} {fs:List FormR} {i:Nat} (h:i<fs.length):facsQ P x (fs.take (i+1))=facsQ P x (fs.take i)*formQ P (fs.getD i default):=by
 unfold facsQ
 rw[List.take_succ_eq_append_getElem h,List.foldl_append,List.getD_eq_getElem?_getD,List.getElem?_eq_getElem h]
 rfl
theorem small_qok {n:Int} (h:n.natAbs<18446744073709551616):QOk 2 (n:Rat):=QOk.int (k:=1) (ZOk.word h)
theorem facs_ok {k n j:Nat} {P:Nat→Rat×Rat} {x:Rat} {fs:List FormR} (hP:∀i,i<n→POk k (P i)) (hx:QOk j x) (h:∀f∈fs,FormIn n f):∀i,i≤fs.length→QOk (j+i*(8*k+5)) (facsQ P x (fs.take i))
 |0,_=>by simpa [facsQ]using hx
 |i+1,hi=>by
  rw[facs_take (by omega)]
  refine((facs_ok hP hx h i (by omega)).mul (formQ_ok hP (h (fs.getD i default) ?_))).mono (by rw[Nat.add_mul,Nat.one_mul];omega)
  rw[List.getD_eq_getElem?_getD,List.getElem?_eq_getElem (by omega)]
  exact List.getElem_mem _
theorem numQ_ok {nums:List Int} {p:PieceR} (hm:p.f≤nums.length) (h:∀z∈nums,z.natAbs<18446744073709551616):QOk 2 (numQ nums p):=by
 unfold numQ
 split
 ·refine small_qok (h _ ?_)
  rw[List.getD_eq_getElem?_getD,List.getElem?_eq_getElem (by omega)]
  exact List.getElem_mem _
 ·exact small_qok (n:=1) (by decide)
theorem pieceQ_ok {k n:Nat} {P:Nat→Rat×Rat} {nums:List Int} {p:PieceR} (hP:∀i,i<n→POk k (P i)) (hN:∀z∈nums,z.natAbs<18446744073709551616) (h:PieceIn n nums.length p):QOk (4+10*(8*k+5)) (pieceQ P nums p):=by
 have h1:=(small_qok (n:=p.n) (by have:=h.nn;omega)).mul (numQ_ok h.f.2 hN)
 have h2:=facs_ok hP h1 h.fs p.fs.length (Nat.le_refl _)
 rw[List.take_length]at h2
 refine h2.mono ?_
 have:=Nat.mul_le_mul_right (8*k+5) h.len
 omega
theorem sum_ok {k n j:Nat} {P:Nat→Rat×Rat} {nums:List Int} (hP:∀i,i<n→POk k (P i)) (hN:∀z∈nums,z.natAbs<18446744073709551616):∀{s:Rat} {e:List PieceR},QOk j s→(∀p∈e,PieceIn n nums.length p)→QOk (j+e.length*(5+10*(8*k+5))) (sumQ P nums s e)
 |s,[],hs,_=>by simpa [sumQ]using hs
 |s,p::e,hs,h=>by
  have h1:=sum_ok hP hN (hs.add (pieceQ_ok hP hN (h p (List.mem_cons_self ..)))) fun q hq=>h q (List.mem_cons_of_mem _ hq)
  refine h1.mono ?_
  rw[List.length_cons,Nat.add_mul,Nat.one_mul]
  omega
abbrev nums30 (l:List Int):AV:=sl numE 1 l .view
def forms5:List AV:=[.nilFunc,.func (.func 105) [] [],.func (.func 106) [] [],.func (.func 43) [] [],.func (.func 42) [] []]
theorem form_call {k:Nat} {l:List SpotR} {f:FormR} (hk1:1≤k) (hk:k≤1000) (h:SpotsOk k l) (hf:FormIn l.length f):
  (f.k=1→PCalls Tryz.prog 105 [spots l,.agg (formE f)] (.agg (ratEs (ratC (formQ (fun i=>(l.getD i default).p) f)))))∧
  (f.k=2→PCalls Tryz.prog 106 [spots l,.agg (formE f)] (.agg (ratEs (ratC (formQ (fun i=>(l.getD i default).p) f)))))∧
  (f.k=3→PCalls Tryz.prog 43 [spots l,.agg (formE f)] (.agg (ratEs (ratC (formQ (fun i=>(l.getD i default).p) f)))))∧
  (f.k=4→PCalls Tryz.prog 42 [spots l,.agg (formE f)] (.agg (ratEs (ratC (formQ (fun i=>(l.getD i default).p) f))))):=by
 have g1:=sformX_c k l f.toN hk h (toN_in hf)
 have g2:=sformY_c k l f.toN hk h (toN_in hf)
 have g3:=scross_c k l f.toN hk1 hk h (toN_in hf)
 have g4:=sdot_c k l f.toN hk1 hk h (toN_in hf)
 rw[toN_E hf]at g1 g2 g3 g4
 unfold formQ
 refine⟨fun e=>?_,fun e=>?_,fun e=>?_,fun e=>?_⟩
 ·rw[if_pos e];exact g1
 ·rw[if_neg (by omega),if_pos e];exact g2
 ·rw[if_neg (by omega),if_neg (by omega),if_pos e];exact g3
 ·rw[if_neg (by omega),if_neg (by omega),if_neg (by omega)];exact g4
theorem getD_mem {α:Type} [Inhabited α] {l:List α} {i:Nat} (h:i<l.length):l.getD i default∈l:=by
 rw[List.getD_eq_getElem?_getD,List.getElem?_eq_getElem h]
 exact List.getElem_mem h
theorem cbSadd:Callable Tryz.prog 108:=fun _ _=>by kernel_rfl
theorem sadd_c (k b:Nat) (l:List SpotR) (nums:List Int) (p:PieceR) (s:Rat) (hk1:1≤k) (hk:k≤1000) (h:SpotsOk k l) (hN:∀z∈nums,-9223372036854775808≤z∧z≤9223372036854775807) (hNl:nums.length≤1000000) (hp:PieceIn l.length nums.length p) (hs:QOk 900000 s):
  ACalls Tryz.prog 108 [.agg (pieceE p),.rptr [nums30 nums],.rptr forms5,.rptr [spots l],.ptr b 0] [.box b 26 (.agg (ratEs (ratC s)))] fun r H'=>
   r=.ret (.tuple [])∧H'=[.box b 26 (.agg (ratEs (ratC (s+pieceQ (fun i=>(l.getD i default).p) nums p))))]:=by
 refine acalls_of_awp tyok cbSadd Tryz.func108 rfl rfl ?_
 have hN':∀z∈nums,z.natAbs<18446744073709551616:=fun z hz=>by have:=hN z hz;omega
 have hP:∀i,i<l.length→POk k (l.getD i default).p:=fun i hi=>by
  obtain⟨m,rfl⟩:∃m,k=m+1:=⟨k-1,by omega⟩
  exact(h.at hi).p
 have hpn:=hp.nn
 have hpf:=hp.f
 have hpl:=hp.len
 have g1:=ssmall_c p.n (by omega) (by omega)
 have q1:=small_qok (n:=p.n) (by omega)
 have q2:=q1.mul (numQ_ok hpf.2 hN')
 have hfin:=pieceQ_ok hP hN' hp
 have gadd:=ratAdd_c (ratC s) (ratC (pieceQ (fun i=>(l.getD i default).p) nums p)) ((ratC_ok hs).mono (by decide)) (ratR_C hfin (by omega))
 rw[ratC_q,ratC_q]at gadd
 ((repeat(first|refine wKB ?_|refine awp_seq_k fun K hK=>?_|refine qpc rfl rfl rfl (g1) ?_|refine qpo rfl rfl rfl rfl rfl rfl (fun _=>g1) ?_|(refine wH ?_;clear hK)));refine wN fun b5=>?_;(repeat(first|refine wKB ?_|refine awp_seq_k fun K hK=>?_|refine qpc rfl rfl rfl (g1) ?_|refine qpo rfl rfl rfl rfl rfl rfl (fun _=>g1) ?_|(refine wH ?_;clear hK)));refine wN fun b6=>?_;(repeat(first|refine wKB ?_|refine awp_seq_k fun K hK=>?_|refine wN fun bx=>?_|refine qpc rfl rfl rfl (g1) ?_|refine qpo rfl rfl rfl rfl rfl rfl (fun _=>g1) ?_|(refine wH ?_;clear hK))))
 clear K
 rename_i K
 refine(have hr:∀T',Weak T' [(2,.rptr forms5),(3,.rptr [spots l]),(4,.ptr b 0),(5,.ptr b5 0),(6,.ptr b6 0)]→K T' [.box b6 26 (.agg (ratEs (ratC ((p.n:Rat)*numQ nums p)))),.box b5 172 (.agg (pieceE p)),.box b 26 (.agg (ratEs (ratC s)))]:=cutK (Wk:=[(2,.rptr forms5),(3,.rptr [spots l]),(4,.ptr b 0),(5,.ptr b5 0),(6,.ptr b6 0)]) (H0:=[.box b6 26 (.agg (ratEs (ratC ((p.n:Rat)*numQ nums p)))),.box b5 172 (.agg (pieceE p)),.box b 26 (.agg (ratEs (ratC s)))]) hK ?_;?_)
 rotate_left
 ·clear hK
  refine awp_boxSub [] (v':=.agg (ratEs (ratC (p.n:Rat)))) (Sub.of_eq rfl) ?_
  refine awp_cond rfl (fun hb=>?_) (fun hb=>?_)
  ·have hpos:0<p.f:=of_decide_eq_true hb
   have hlt:p.f-1<nums.length:=by omega
   have hz:=hN _ (getD_mem (l:=nums) (i:=(p.f-1).toNat) (by omega))
   have g2:=ssmall_c (nums.getD (p.f-1).toNat default) (by omega) (by omega)
   have g3:=ratMul_c (ratC (p.n:Rat)) (ratC ((nums.getD (p.f-1).toNat default:Int):Rat)) (ratR_C q1 (by omega)) (ratR_C (small_qok (by omega)) (by omega))
   rw[ratC_q,ratC_q,show(p.n:Rat)*((nums.getD (p.f-1).toNat default:Int):Rat)=(p.n:Rat)*numQ nums p by unfold numQ;rw[if_pos hpos];rfl]at g3
   repeat(first|refine wKB ?_|refine awp_seq_k fun K hK=>?_|refine wN fun bx=>?_|(refine wH ?_;clear hK))
   refine areg_soft mixed tyok [7,8] [] (List.range 10) (by decide +kernel) ?_
   repeat(first|refine wDB ?_|refine awp_seq_k fun K hK=>?_|refine wN fun bx=>?_|refine qpc rfl rfl rfl (g2) ?_|refine qpc rfl rfl rfl (g3) ?_|refine qpo rfl rfl rfl rfl rfl rfl (fun _=>g2) ?_|refine qpo rfl rfl rfl rfl rfl rfl (fun _=>g3) ?_|(refine wH ?_;clear hK))
   exact hr _ wk
  ·have hn0:¬0<p.f:=of_decide_eq_false hb
   have e:(p.n:Rat)*numQ nums p=(p.n:Rat):=by unfold numQ;rw[if_neg hn0,Rat.mul_one]
   rw[e]at hr
   repeat(first|refine wDB ?_|refine awp_seq_k fun K hK=>?_|refine wN fun bx=>?_|(refine wH ?_;clear hK))
   exact hr _ wk
 clear hK
 generalize hx0:(p.n:Rat)*numQ nums p=x0 at q2
 have hps:pieceQ (fun i=>(l.getD i default).p) nums p=facsQ (fun i=>(l.getD i default).p) x0 p.fs:=by unfold pieceQ;rw[hx0]
 repeat(first|refine wDB ?_|refine awp_seq_k fun K hK=>?_|refine wN fun bx=>?_|(refine wH ?_;clear hK))
 refine awp_loop0 (ι:={i:Nat//i≤p.fs.length}) (fun i=>[(2,.rptr forms5),(3,.rptr [spots l]),(4,.ptr b 0),(5,.ptr b5 0),(6,.ptr b6 0),(25,sl formE 5 p.fs .view),(26,.int .i64 p.fs.length),(27,.int .i64 i.1)])
  (fun i=>[.box b6 26 (.agg (ratEs (ratC (facsQ (fun i=>(l.getD i default).p) x0 (p.fs.take i.1))))),.box b5 172 (.agg (pieceE p)),.box b 26 (.agg (ratEs (ratC s)))]) (fun i=>p.fs.length-i.1) ⟨0,Nat.zero_le _⟩ wk ⟨0,rfl⟩ ?_
 rintro⟨i,hi⟩
 simp only at hi ⊢
 by_cases hlt:i<p.fs.length
 ·have hlt':(i:Int)<p.fs.length:=by omega
  have hf:=hp.fs _ (getD_mem hlt)
  obtain⟨c1,c2,c3,c4⟩:=form_call hk1 hk h hf
  have hx:=facs_ok hP q2 hp.fs i hi
  have hfq:=formQ_ok hP hf
  have hle:i*(8*k+5)≤10*(8*k+5):=Nat.mul_le_mul_right _ (by omega)
  have g4:=ratMul_c _ _ (ratR_C hx (by omega)) (ratR_C hfq (by omega))
  rw[ratC_q,ratC_q,←facs_take hlt]at g4
  ((repeat(first|refine wKB ?_|refine awp_seq_k fun K hK=>?_|(refine wH ?_;clear hK)));refine wN fun b8=>?_;(repeat(first|refine wKB ?_|refine awp_seq_k fun K hK=>?_|refine wN fun bx=>?_|(refine wH ?_;clear hK))))
  refine awp_boxSub [] (v':=.agg (formE (p.fs.getD i default))) (Sub.of_eq rfl) ?_
  refine awp_freeze [] (s:=8) rfl rfl ?_
  generalize p.fs.getD i default=f at hf c1 c2 c3 c4 hfq g4 ⊢
  have hfk:=hf.k
  obtain⟨fk,fa,fb,fc,fd⟩:=f
  simp only at hfk c1 c2 c3 c4
  refine areg_soft mixed tyok [7,8] [] (List.range 10) (by decide +kernel) ?_
  rcases hfk with rfl|rfl|rfl|rfl
  ·repeat(first|refine wDB ?_|refine awp_seq_k fun K hK=>?_|refine wN fun bx=>?_|(refine wH ?_;clear hK))
   refine qiaR tyok ?_ (hj:=by show(0:Int)≤1∧(1:Int)<((5:Nat):Int);decide)
   repeat(first|refine wDB ?_|refine awp_seq_k fun K hK=>?_|refine wN fun bx=>?_|refine qpc rfl rfl rfl (c1 rfl) ?_|refine qpc rfl rfl rfl (g4) ?_|refine qpo rfl rfl rfl rfl rfl rfl (fun _=>c1 rfl) ?_|refine qpo rfl rfl rfl rfl rfl rfl (fun _=>g4) ?_|(refine wH ?_;clear hK))
   exact⟨⟨i+1,hlt⟩,wk,⟨0,rfl⟩,by simp only;omega⟩
  ·repeat(first|refine wDB ?_|refine awp_seq_k fun K hK=>?_|refine wN fun bx=>?_|(refine wH ?_;clear hK))
   refine qiaR tyok ?_ (hj:=by show(0:Int)≤2∧(2:Int)<((5:Nat):Int);decide)
   repeat(first|refine wDB ?_|refine awp_seq_k fun K hK=>?_|refine wN fun bx=>?_|refine qpc rfl rfl rfl (c2 rfl) ?_|refine qpc rfl rfl rfl (g4) ?_|refine qpo rfl rfl rfl rfl rfl rfl (fun _=>c2 rfl) ?_|refine qpo rfl rfl rfl rfl rfl rfl (fun _=>g4) ?_|(refine wH ?_;clear hK))
   exact⟨⟨i+1,hlt⟩,wk,⟨0,rfl⟩,by simp only;omega⟩
  ·repeat(first|refine wDB ?_|refine awp_seq_k fun K hK=>?_|refine wN fun bx=>?_|(refine wH ?_;clear hK))
   refine qiaR tyok ?_ (hj:=by show(0:Int)≤3∧(3:Int)<((5:Nat):Int);decide)
   repeat(first|refine wDB ?_|refine awp_seq_k fun K hK=>?_|refine wN fun bx=>?_|refine qpc rfl rfl rfl (c3 rfl) ?_|refine qpc rfl rfl rfl (g4) ?_|refine qpo rfl rfl rfl rfl rfl rfl (fun _=>c3 rfl) ?_|refine qpo rfl rfl rfl rfl rfl rfl (fun _=>g4) ?_|(refine wH ?_;clear hK))
   exact⟨⟨i+1,hlt⟩,wk,⟨0,rfl⟩,by simp only;omega⟩
  ·repeat(first|refine wDB ?_|refine awp_seq_k fun K hK=>?_|refine wN fun bx=>?_|(refine wH ?_;clear hK))
   refine qiaR tyok ?_ (hj:=by show(0:Int)≤4∧(4:Int)<((5:Nat):Int);decide)
   repeat(first|refine wDB ?_|refine awp_seq_k fun K hK=>?_|refine wN fun bx=>?_|refine qpc rfl rfl rfl (c4 rfl) ?_|refine qpc rfl rfl rfl (g4) ?_|refine qpo rfl rfl rfl rfl rfl rfl (fun _=>c4 rfl) ?_|refine qpo rfl rfl rfl rfl rfl rfl (fun _=>g4) ?_|(refine wH ?_;clear hK))
   exact⟨⟨i+1,hlt⟩,wk,⟨0,rfl⟩,by simp only;omega⟩
 ·have hge:¬(i:Int)<p.fs.length:=by omega
  obtain rfl:i=p.fs.length:=by omega
  rw[List.take_length,←hps]
  repeat(first|refine wDB ?_|refine awp_seq_k fun K hK=>?_|refine wN fun bx=>?_|refine qpc rfl rfl rfl (gadd) ?_|refine qpo rfl rfl rfl rfl rfl rfl (fun _=>gadd) ?_|(refine wH ?_;clear hK))
  exact fnQ_ret 2 rfl .nil (Sub.refl _) ⟨rfl,rfl⟩
end Go.Proofs.YthfglhjdnpoepaaGreatDoor
namespace Go.Proofs.YthfglhjdnpoepaaGreatDoor
open Go.Ab
theorem sum_take {P:Nat→Rat×Rat} {nums:List Int} {s:Rat} {e:List PieceR} {i:Nat} (h:i<e.length):sumQ P nums s (e.take (i+1))=sumQ P nums s (e.take i)+pieceQ P nums (e.getD i default):=by
 unfold sumQ
 rw[List.take_succ_eq_append_getElem h,List.foldl_append,List.getD_eq_getElem?_getD,List.getElem?_eq_getElem h]
 rfl
structure EqIn (n m:Nat) (e:List PieceR):Prop where
 len:e.length≤20
 ps:∀p∈e,PieceIn n m p
theorem spots_P {k:Nat} {l:List SpotR} (hk1:1≤k) (h:SpotsOk k l):∀i,i<l.length→POk k (l.getD i default).p:=fun i hi=>by
 obtain⟨m,rfl⟩:∃m,k=m+1:=⟨k-1,by omega⟩
 exact(h.at hi).p
theorem eqQ_ok {k n:Nat} {P:Nat→Rat×Rat} {nums:List Int} {e:List PieceR} (hP:∀i,i<n→POk k (P i)) (hN:∀z∈nums,z.natAbs<18446744073709551616) (h:EqIn n nums.length e) (i:Nat):QOk (2+20*(5+10*(8*k+5))) (sumQ P nums 0 (e.take i)):=by
 have:=sum_ok hP hN (s:=0) (e:=e.take i) (small_qok (n:=0) (by decide)) fun p hp=>h.ps p (List.mem_of_mem_take hp)
 refine this.mono ?_
 have hl:(e.take i).length≤20:=by rw[List.length_take];have:=h.len;omega
 have:=Nat.mul_le_mul_right (5+10*(8*k+5)) hl
 omega
theorem cbSval:Callable Tryz.prog 72:=fun _ _=>by kernel_rfl
theorem svalue_c (k:Nat) (l:List SpotR) (nums:List Int) (e:List PieceR) (hk1:1≤k) (hk:k≤100) (h:SpotsOk k l) (hN:∀z∈nums,-9223372036854775808≤z∧z≤9223372036854775807) (hNl:nums.length≤1000000) (he:EqIn l.length nums.length e):
  PCalls Tryz.prog 72 [spots l,sl pieceE 3 e .view,nums30 nums] (.agg (ratEs (ratC (eqQ (fun i=>(l.getD i default).p) nums e)))):=by
 refine pcalls_of_awp tyok cbSval Tryz.func72 rfl rfl ?_
 have hN':∀z∈nums,z.natAbs<18446744073709551616:=fun z hz=>by have:=hN z hz;omega
 have hP:=spots_P hk1 h
 have hl:=he.len
 have g1:=ssmall_c 0 (by decide) (by decide)
 rw[show((0:Int):Rat)=0 from rfl]at g1
 ((repeat(first|refine wDB ?_|refine awp_seq_k fun K hK=>?_|(refine wH ?_;clear hK)));refine wN fun b3=>?_;(repeat(first|refine wDB ?_|refine awp_seq_k fun K hK=>?_|(refine wH ?_;clear hK)));refine wN fun b5=>?_;(repeat(first|refine wDB ?_|refine awp_seq_k fun K hK=>?_|(refine wH ?_;clear hK)));refine wN fun b6=>?_;(repeat(first|refine wDB ?_|refine awp_seq_k fun K hK=>?_|refine wN fun bx=>?_|(refine wH ?_;clear hK))))
 refine qarr tyok (cells:=forms5) ?_
 ((repeat(first|refine wDB ?_|refine awp_seq_k fun K hK=>?_|(refine wH ?_;clear hK)));refine wN fun b7=>?_)
 (((repeat(first|refine wT ?_|refine wN fun bx=>?_)));(try refine wP ?_);repeat(refine wH ?_;clear hK))
 refine awp_freeze [] (s:=7) rfl rfl ?_
 refine awp_freeze [_] (s:=5) rfl rfl ?_
 refine awp_freeze [_] (s:=3) rfl rfl ?_
 ((repeat(first|refine wDB ?_|refine awp_seq_k fun K hK=>?_|refine qpc rfl rfl rfl (g1) ?_|refine qpo rfl rfl rfl rfl rfl rfl (fun _=>g1) ?_|(refine wH ?_;clear hK)));refine wN fun b8=>?_;(repeat(first|refine wDB ?_|refine awp_seq_k fun K hK=>?_|refine wN fun bx=>?_|refine qpc rfl rfl rfl (g1) ?_|refine qpo rfl rfl rfl rfl rfl rfl (fun _=>g1) ?_|(refine wH ?_;clear hK))))
 refine awp_loop0 (ι:={i:Nat//i≤e.length}) (fun i=>[(6,.ptr b6 0),(8,.ptr b8 0),(9,.func (.func 108) [] [.rptr [nums30 nums],.rptr forms5,.rptr [spots l],.ptr b8 0]),(15,sl pieceE 3 e .view),(16,.int .i64 e.length),(17,.int .i64 i.1)])
  (fun i=>[.box b8 26 (.agg (ratEs (ratC (sumQ (fun i=>(l.getD i default).p) nums 0 (e.take i.1))))),.box b6 26 (.agg [.bool false,.nils,.bool false,.nils])]) (fun i=>e.length-i.1) ⟨0,Nat.zero_le _⟩ wk ⟨0,rfl⟩ ?_
 rintro⟨i,hi⟩
 simp only at hi ⊢
 by_cases hlt:i<e.length
 ·have hlt':(i:Int)<e.length:=by omega
  have gq:=sadd_c k b8 l nums (e.getD i default) (sumQ (fun i=>(l.getD i default).p) nums 0 (e.take i)) hk1 (by omega) h hN hNl (he.ps _ (getD_mem hlt)) ((eqQ_ok hP hN' he i).mono (by omega))
  rw[←sum_take hlt]at gq
  ((repeat(first|refine wDB ?_|refine awp_seq_k fun K hK=>?_|(refine wH ?_;clear hK)));refine wN fun b11=>?_)
  (((repeat(first|refine wT ?_|refine wN fun bx=>?_)));(try refine wP ?_);repeat(refine wH ?_;clear hK))
  refine awp_boxSub [] (v':=.agg (pieceE (e.getD i default))) (Sub.of_eq rfl) ?_
  refine awp_freeze [] (s:=11) rfl rfl ?_
  repeat(first|refine wDB ?_|refine awp_seq_k fun K hK=>?_|refine wN fun bx=>?_|(refine wH ?_;clear hK))
  (first|refine qcallE .here (gq) ?_|refine qcallE (.there .here) (gq) ?_|refine qcallE (.there (.there .here)) (gq) ?_|refine qcallE (.there (.there (.there .here))) (gq) ?_|refine qcallE (.there (.there (.there (.there .here)))) (gq) ?_)
  repeat(first|refine wDB ?_|refine awp_seq_k fun K hK=>?_|refine wN fun bx=>?_|(refine wH ?_;clear hK))
  exact⟨⟨i+1,hlt⟩,wk,⟨0,rfl⟩,by simp only;omega⟩
 ·have hge:¬(i:Int)<e.length:=by omega
  obtain rfl:i=e.length:=by omega
  rw[List.take_length]
  repeat(first|refine wDB ?_|refine awp_seq_k fun K hK=>?_|refine wN fun bx=>?_|(refine wH ?_;clear hK))
  refine rcA ?_
  exact Sub.refl _
def ratL (l:List Rat):AV:=sl (fun q=>ratEs (ratC q)) 4 l .view
structure FigIn (n m:Nat) (f:FigR):Prop where
 len:f.eqs.length≤20
 eqs:∀e∈f.eqs,EqIn n m e
instance:Inhabited Rat:=⟨0⟩
theorem cbSvals:Callable Tryz.prog 31:=fun _ _=>by kernel_rfl
theorem svalues_c (k:Nat) (l:List SpotR) (nums:List Int) (f:FigR) (hk1:1≤k) (hk:k≤100) (h:SpotsOk k l) (hN:∀z∈nums,-9223372036854775808≤z∧z≤9223372036854775807) (hNl:nums.length≤1000000) (hf:FigIn l.length nums.length f):
  PCalls Tryz.prog 31 [spots l,.agg (figE f),nums30 nums] (ratL (f.eqs.map (eqQ (fun i=>(l.getD i default).p) nums))):=by
 refine pcalls_of_awp tyok cbSvals Tryz.func31 rfl rfl ?_
 have hl:=hf.len
 ((repeat(first|refine wDB ?_|refine awp_seq_k fun K hK=>?_|(refine wH ?_;clear hK)));refine wN fun b4=>?_;(repeat(first|refine wDB ?_|refine awp_seq_k fun K hK=>?_|refine wN fun bx=>?_|(refine wH ?_;clear hK))))
 refine awp_freeze [] (s:=4) rfl rfl ?_
 refine awp_tok0 4 26 ?_
 refine awp_loop0 (ι:={y:Nat×Option Addr×Nat//y.1≤f.eqs.length}) (fun y=>[(0,spots l),(2,nums30 nums),(6,sl (fun q=>ratEs (ratC q)) 4 ((f.eqs.take y.1.1).map (eqQ (fun i=>(l.getD i default).p) nums)) (.own y.1.2.1 y.1.2.2)),(10,sl eqE 1 f.eqs .view),(11,.int .i64 f.eqs.length),(12,.int .i64 y.1.1)])
  (fun y=>[.tok y.1.2.1 y.1.2.2 ((f.eqs.take y.1.1).map (eqQ (fun i=>(l.getD i default).p) nums)).length 4 26]) (fun y=>f.eqs.length-y.1.1) ⟨(0,none,0),Nat.zero_le _⟩ wk ⟨0,rfl⟩ ?_
 rintro⟨⟨i,a,cap⟩,hi⟩
 simp only at hi ⊢
 by_cases hlt:i<f.eqs.length
 ·have hlt':(i:Int)<f.eqs.length:=by omega
  have g:=svalue_c k l nums (f.eqs.getD i default) hk1 hk h hN hNl (hf.eqs _ (getD_mem hlt))
  have est:(f.eqs.take (i+1)).map (eqQ (fun i=>(l.getD i default).p) nums)=(f.eqs.take i).map (eqQ (fun i=>(l.getD i default).p) nums)++[eqQ (fun i=>(l.getD i default).p) nums (f.eqs.getD i default)]:=by
   rw[List.take_succ_eq_append_getElem hlt,List.map_append,List.getD_eq_getElem?_getD,List.getElem?_eq_getElem hlt]
   rfl
  repeat(first|refine wDB ?_|refine awp_seq_k fun K hK=>?_|refine wN fun bx=>?_|refine qpc rfl rfl rfl (g) ?_|refine qpo rfl rfl rfl rfl rfl rfl (fun _=>g) ?_|(refine wH ?_;clear hK))
  refine qapp tyok (fun q=>ratEs (ratC q)) _ (eqQ (fun i=>(l.getD i default).p) nums (f.eqs.getD i default)) (SubL.refl _) ?_ fun ad cp=>?_
  ·simp only[List.length_map,List.length_take]
   omega
  rw[←est]
  repeat(first|refine wDB ?_|refine awp_seq_k fun K hK=>?_|refine wN fun bx=>?_|(refine wH ?_;clear hK))
  exact⟨⟨(i+1,ad,cp),hlt⟩,wk,⟨0,rfl⟩,by simp only;omega⟩
 ·have hge:¬(i:Int)<f.eqs.length:=by omega
  obtain rfl:i=f.eqs.length:=by omega
  rw[List.take_length]
  repeat(first|refine wDB ?_|refine awp_seq_k fun K hK=>?_|refine wN fun bx=>?_|(refine wH ?_;clear hK))
  refine r1 ?_
  exact Sub.view _ _ _ _
end Go.Proofs.YthfglhjdnpoepaaGreatDoor
namespace Go.Proofs.YthfglhjdnpoepaaGreatDoor
open Go.Ab
def cf_on:FigR:=⟨[111,110],2,0,[(0,1)],[[⟨1,0,[⟨3,1,0,1,2⟩]⟩]],[117,110,108,105,107,101],[1,2]⟩
def cf_onpar:FigR:=⟨[111,110,112,97,114],3,0,[(1,2)],[[⟨1,0,[⟨3,1,0,2,3⟩]⟩]],[117,110,108,105,107,101],[2,3]⟩
def cf_onperp:FigR:=⟨[111,110,112,101,114,112],3,0,[(1,2)],[[⟨1,0,[⟨4,1,0,2,3⟩]⟩]],[117,110,108,105,107,101],[2,3]⟩
def cf_onbis:FigR:=⟨[111,110,98,105,115],2,0,[(0,1)],[[⟨1,0,[⟨4,1,0,1,0⟩]⟩,⟨-1,0,[⟨4,2,0,2,0⟩]⟩]],[117,110,108,105,107,101],[1,2]⟩
def cf_oncircle:FigR:=⟨[111,110,99,105,114,99,108,101],2,0,[(0,1)],[[⟨1,0,[⟨4,1,0,1,0⟩]⟩,⟨-1,0,[⟨4,1,2,1,2⟩]⟩]],[117,110,108,105,107,101],[1,2]⟩
def cf_ondiam:FigR:=⟨[111,110,100,105,97,109],2,0,[(0,1)],[[⟨1,0,[⟨4,1,0,2,0⟩]⟩]],[117,110,108,105,107,101],[1,2]⟩
def cf_oncirc:FigR:=⟨[111,110,99,105,114,99],3,0,[(0,1),(1,2),(0,2)],[[⟨1,0,[⟨3,0,1,0,2⟩,⟨4,3,1,3,2⟩]⟩,⟨-1,0,[⟨4,0,1,0,2⟩,⟨3,3,1,3,2⟩]⟩]],[97,112,97,114,116],[1,2,3]⟩
def cf_tangent:FigR:=⟨[116,97,110,103,101,110,116],2,0,[(0,1)],[[⟨1,0,[⟨4,1,0,1,2⟩]⟩]],[117,110,108,105,107,101],[1,2]⟩
def cf_midpoint:FigR:=⟨[109,105,100,112,111,105,110,116],2,0,[],[[⟨1,0,[⟨1,1,0,0,0⟩]⟩,⟨1,0,[⟨1,2,0,0,0⟩]⟩],[⟨1,0,[⟨2,1,0,0,0⟩]⟩,⟨1,0,[⟨2,2,0,0,0⟩]⟩]],[],[]⟩
def cf_reflect:FigR:=⟨[114,101,102,108,101,99,116],2,0,[],[[⟨1,0,[⟨1,2,0,0,0⟩]⟩,⟨-1,0,[⟨1,1,2,0,0⟩]⟩],[⟨1,0,[⟨2,2,0,0,0⟩]⟩,⟨-1,0,[⟨2,1,2,0,0⟩]⟩]],[],[]⟩
def cf_centroid:FigR:=⟨[99,101,110,116,114,111,105,100],3,0,[],[[⟨1,0,[⟨1,1,0,0,0⟩]⟩,⟨1,0,[⟨1,2,0,0,0⟩]⟩,⟨1,0,[⟨1,3,0,0,0⟩]⟩],[⟨1,0,[⟨2,1,0,0,0⟩]⟩,⟨1,0,[⟨2,2,0,0,0⟩]⟩,⟨1,0,[⟨2,3,0,0,0⟩]⟩]],[],[]⟩
def cf_translate:FigR:=⟨[116,114,97,110,115,108,97,116,101],3,0,[],[[⟨1,0,[⟨1,1,0,0,0⟩]⟩,⟨-1,0,[⟨1,2,3,0,0⟩]⟩],[⟨1,0,[⟨2,1,0,0,0⟩]⟩,⟨-1,0,[⟨2,2,3,0,0⟩]⟩]],[],[]⟩
def cf_turn:FigR:=⟨[116,117,114,110],2,0,[],[[⟨1,0,[⟨1,2,0,0,0⟩]⟩,⟨1,0,[⟨2,2,1,0,0⟩]⟩],[⟨1,0,[⟨2,2,0,0,0⟩]⟩,⟨-1,0,[⟨1,2,1,0,0⟩]⟩]],[],[]⟩
def cf_ratio:FigR:=⟨[114,97,116,105,111],2,2,[],[[⟨1,2,[⟨1,1,0,0,0⟩]⟩,⟨-1,1,[⟨1,1,2,0,0⟩]⟩],[⟨1,2,[⟨2,1,0,0,0⟩]⟩,⟨-1,1,[⟨2,1,2,0,0⟩]⟩]],[],[]⟩
def cf_foot:FigR:=⟨[102,111,111,116],3,0,[(1,2)],[[⟨1,0,[⟨3,2,0,2,3⟩]⟩],[⟨1,0,[⟨4,1,0,2,3⟩]⟩]],[117,110,108,105,107,101],[2,3]⟩
def cf_mirror:FigR:=⟨[109,105,114,114,111,114],3,0,[(1,2)],[[⟨1,0,[⟨3,2,1,2,3⟩]⟩,⟨1,0,[⟨3,2,0,2,3⟩]⟩],[⟨1,0,[⟨4,1,0,2,3⟩]⟩]],[117,110,108,105,107,101],[2,3]⟩
def cf_meet:FigR:=⟨[109,101,101,116],4,0,[(0,1),(2,3)],[[⟨1,0,[⟨3,1,0,1,2⟩]⟩],[⟨1,0,[⟨3,3,0,3,4⟩]⟩]],[99,114,111,115,115],[1,2,3,4]⟩
def cf_parmeet:FigR:=⟨[112,97,114,109,101,101,116],5,0,[(1,2),(3,4)],[[⟨1,0,[⟨3,1,0,2,3⟩]⟩],[⟨1,0,[⟨3,4,0,4,5⟩]⟩]],[99,114,111,115,115],[2,3,4,5]⟩
def cf_perpmeet:FigR:=⟨[112,101,114,112,109,101,101,116],5,0,[(1,2),(3,4)],[[⟨1,0,[⟨4,1,0,2,3⟩]⟩],[⟨1,0,[⟨3,4,0,4,5⟩]⟩]],[100,111,116],[2,3,4,5]⟩
def cf_parpar:FigR:=⟨[112,97,114,112,97,114],6,0,[(1,2),(4,5)],[[⟨1,0,[⟨3,1,0,2,3⟩]⟩],[⟨1,0,[⟨3,4,0,5,6⟩]⟩]],[99,114,111,115,115],[2,3,5,6]⟩
def cf_perpperp:FigR:=⟨[112,101,114,112,112,101,114,112],6,0,[(1,2),(4,5)],[[⟨1,0,[⟨4,1,0,2,3⟩]⟩],[⟨1,0,[⟨4,4,0,5,6⟩]⟩]],[99,114,111,115,115],[2,3,5,6]⟩
def cf_parperp:FigR:=⟨[112,97,114,112,101,114,112],6,0,[(1,2),(4,5)],[[⟨1,0,[⟨3,1,0,2,3⟩]⟩],[⟨1,0,[⟨4,4,0,5,6⟩]⟩]],[100,111,116],[2,3,5,6]⟩
def cf_bimeet:FigR:=⟨[98,105,109,101,101,116],4,0,[(0,1),(2,3)],[[⟨1,0,[⟨4,1,0,1,0⟩]⟩,⟨-1,0,[⟨4,2,0,2,0⟩]⟩],[⟨1,0,[⟨3,3,0,3,4⟩]⟩]],[100,111,116],[1,2,3,4]⟩
def cf_bisbis:FigR:=⟨[98,105,115,98,105,115],4,0,[(0,1),(2,3)],[[⟨1,0,[⟨4,1,0,1,0⟩]⟩,⟨-1,0,[⟨4,2,0,2,0⟩]⟩],[⟨1,0,[⟨4,3,0,3,0⟩]⟩,⟨-1,0,[⟨4,4,0,4,0⟩]⟩]],[99,114,111,115,115],[1,2,3,4]⟩
def cf_circumcentre:FigR:=⟨[99,105,114,99,117,109,99,101,110,116,114,101],3,0,[(0,1),(1,2),(0,2)],[[⟨1,0,[⟨4,1,0,1,0⟩]⟩,⟨-1,0,[⟨4,2,0,2,0⟩]⟩],[⟨1,0,[⟨4,1,0,1,0⟩]⟩,⟨-1,0,[⟨4,3,0,3,0⟩]⟩]],[97,112,97,114,116],[1,2,3]⟩
def cf_orthocentre:FigR:=⟨[111,114,116,104,111,99,101,110,116,114,101],3,0,[(0,1),(1,2),(0,2)],[[⟨1,0,[⟨4,1,0,2,3⟩]⟩],[⟨1,0,[⟨4,2,0,3,1⟩]⟩]],[97,112,97,114,116],[1,2,3]⟩
def cf_second:FigR:=⟨[115,101,99,111,110,100],3,0,[(0,1)],[[⟨1,0,[⟨3,1,0,1,2⟩]⟩],[⟨1,0,[⟨4,1,0,1,2⟩]⟩,⟨-2,0,[⟨4,1,3,1,2⟩]⟩]],[117,110,108,105,107,101],[1,2]⟩
def cf_other:FigR:=⟨[111,116,104,101,114],3,0,[(1,2)],[[⟨1,0,[⟨3,2,1,2,3⟩]⟩,⟨1,0,[⟨3,2,0,2,3⟩]⟩],[⟨1,0,[⟨4,1,0,2,3⟩]⟩]],[117,110,108,105,107,101],[2,3]⟩
def cf_inverse:FigR:=⟨[105,110,118,101,114,115,101],3,0,[(0,1)],[[⟨1,0,[⟨3,2,0,2,1⟩]⟩],[⟨1,0,[⟨4,2,0,2,1⟩]⟩,⟨-1,0,[⟨4,2,3,2,3⟩]⟩]],[117,110,108,105,107,101],[1,2]⟩
def pf_same:FigR:=⟨[115,97,109,101],2,0,[],[[⟨1,0,[⟨1,0,1,0,0⟩]⟩],[⟨1,0,[⟨2,0,1,0,0⟩]⟩]],[],[]⟩
def pf_collinear:FigR:=⟨[99,111,108,108,105,110,101,97,114],3,0,[],[[⟨1,0,[⟨3,0,1,0,2⟩]⟩]],[],[]⟩
def pf_parallel:FigR:=⟨[112,97,114,97,108,108,101,108],4,0,[],[[⟨1,0,[⟨3,0,1,2,3⟩]⟩]],[],[]⟩
def pf_perpendicular:FigR:=⟨[112,101,114,112,101,110,100,105,99,117,108,97,114],4,0,[],[[⟨1,0,[⟨4,0,1,2,3⟩]⟩]],[],[]⟩
def pf_midpoint:FigR:=⟨[109,105,100,112,111,105,110,116],3,0,[],[[⟨1,0,[⟨1,1,0,0,0⟩]⟩,⟨1,0,[⟨1,2,0,0,0⟩]⟩],[⟨1,0,[⟨2,1,0,0,0⟩]⟩,⟨1,0,[⟨2,2,0,0,0⟩]⟩]],[],[]⟩
def pf_equal:FigR:=⟨[101,113,117,97,108],4,0,[],[[⟨1,0,[⟨4,0,1,0,1⟩]⟩,⟨-1,0,[⟨4,2,3,2,3⟩]⟩]],[],[]⟩
def pf_right:FigR:=⟨[114,105,103,104,116],3,0,[],[[⟨1,0,[⟨4,1,0,1,2⟩]⟩]],[],[]⟩
def pf_concyclic:FigR:=⟨[99,111,110,99,121,99,108,105,99],4,0,[],[[⟨1,0,[⟨3,3,0,3,1⟩,⟨4,2,0,2,1⟩]⟩,⟨-1,0,[⟨4,3,0,3,1⟩,⟨3,2,0,2,1⟩]⟩]],[],[]⟩
def pf_oncircle:FigR:=⟨[111,110,99,105,114,99,108,101],3,0,[],[[⟨1,0,[⟨4,1,0,1,0⟩]⟩,⟨-1,0,[⟨4,1,2,1,2⟩]⟩]],[],[]⟩
def pf_foot:FigR:=⟨[102,111,111,116],4,0,[],[[⟨1,0,[⟨3,2,0,2,3⟩]⟩],[⟨1,0,[⟨4,1,0,2,3⟩]⟩]],[],[]⟩
def pf_circumcentre:FigR:=⟨[99,105,114,99,117,109,99,101,110,116,114,101],4,0,[],[[⟨1,0,[⟨4,1,0,1,0⟩]⟩,⟨-1,0,[⟨4,2,0,2,0⟩]⟩],[⟨1,0,[⟨4,1,0,1,0⟩]⟩,⟨-1,0,[⟨4,3,0,3,0⟩]⟩]],[],[]⟩
def pf_orthocentre:FigR:=⟨[111,114,116,104,111,99,101,110,116,114,101],4,0,[],[[⟨1,0,[⟨4,1,0,2,3⟩]⟩],[⟨1,0,[⟨4,2,0,3,1⟩]⟩]],[],[]⟩
def pf_centroid:FigR:=⟨[99,101,110,116,114,111,105,100],4,0,[],[[⟨1,0,[⟨1,1,0,0,0⟩]⟩,⟨1,0,[⟨1,2,0,0,0⟩]⟩,⟨1,0,[⟨1,3,0,0,0⟩]⟩],[⟨1,0,[⟨2,1,0,0,0⟩]⟩,⟨1,0,[⟨2,2,0,0,0⟩]⟩,⟨1,0,[⟨2,3,0,0,0⟩]⟩]],[],[]⟩
def pf_parallelogram:FigR:=⟨[112,97,114,97,108,108,101,108,111,103,114,97,109],4,0,[],[[⟨1,0,[⟨1,0,1,0,0⟩]⟩,⟨-1,0,[⟨1,3,2,0,0⟩]⟩],[⟨1,0,[⟨2,0,1,0,0⟩]⟩,⟨-1,0,[⟨2,3,2,0,0⟩]⟩]],[],[]⟩
def pf_concurrent:FigR:=⟨[99,111,110,99,117,114,114,101,110,116],6,0,[],[[⟨1,0,[⟨3,4,0,4,5⟩,⟨3,0,1,2,3⟩]⟩,⟨1,0,[⟨3,0,2,2,3⟩,⟨3,0,1,4,5⟩]⟩]],[],[]⟩
def pf_angles:FigR:=⟨[97,110,103,108,101,115],6,0,[],[[⟨1,0,[⟨3,1,0,1,2⟩,⟨4,4,3,4,5⟩]⟩,⟨-1,0,[⟨4,1,0,1,2⟩,⟨3,4,3,4,5⟩]⟩]],[],[]⟩
def pf_product:FigR:=⟨[112,114,111,100,117,99,116],8,0,[],[[⟨1,0,[⟨4,0,1,0,1⟩,⟨4,2,3,2,3⟩]⟩,⟨-1,0,[⟨4,4,5,4,5⟩,⟨4,6,7,6,7⟩]⟩]],[],[]⟩
def pf_tangent:FigR:=⟨[116,97,110,103,101,110,116],4,0,[],[[⟨1,0,[⟨3,2,0,0,1⟩,⟨3,2,0,0,1⟩]⟩,⟨-1,0,[⟨4,0,1,0,1⟩,⟨4,2,3,2,3⟩]⟩]],[],[]⟩
def pf_isosceles:FigR:=⟨[105,115,111,115,99,101,108,101,115],3,0,[],[[⟨1,0,[⟨4,0,1,0,1⟩]⟩,⟨-1,0,[⟨4,0,2,0,2⟩]⟩]],[],[]⟩
def pf_harmonic:FigR:=⟨[104,97,114,109,111,110,105,99],4,0,[],[[⟨1,0,[⟨3,0,1,0,2⟩]⟩],[⟨1,0,[⟨3,0,1,0,3⟩]⟩],[⟨1,0,[⟨4,0,1,0,2⟩,⟨4,0,1,1,3⟩]⟩,⟨1,0,[⟨4,0,1,0,3⟩,⟨4,0,1,1,2⟩]⟩]],[],[]⟩
def conL:List FigR:=[cf_on,cf_onpar,cf_onperp,cf_onbis,cf_oncircle,cf_ondiam,cf_oncirc,cf_tangent,cf_midpoint,cf_reflect,cf_centroid,cf_translate,cf_turn,cf_ratio,cf_foot,cf_mirror,cf_meet,cf_parmeet,cf_perpmeet,cf_parpar,cf_perpperp,cf_parperp,cf_bimeet,cf_bisbis,cf_circumcentre,cf_orthocentre,cf_second,cf_other,cf_inverse]
def preL:List FigR:=[pf_same,pf_collinear,pf_parallel,pf_perpendicular,pf_midpoint,pf_equal,pf_right,pf_concyclic,pf_oncircle,pf_foot,pf_circumcentre,pf_orthocentre,pf_centroid,pf_parallelogram,pf_concurrent,pf_angles,pf_product,pf_tangent,pf_isosceles,pf_harmonic]
def tabOk (R:List (List UInt8)→Option FigR) (t:List UInt8) (L:List FigR):Bool:=decide ((rowsF t).map (fun l=>(R l).map fun f=>{f with word:=l.getD 0 []})=L.map some)
theorem conL_ok:tabOk conR made21 conL=true:=by decide +kernel
theorem preL_ok:tabOk preR asked21 preL=true:=by decide +kernel
theorem rowG_word {w:List UInt8}:∀{r:List (List (List UInt8))} {l:List (List UInt8)},rowG w r=some l→l.getD 0 []=w
 |[],l,h=>by simp[rowG]at h
 |x::r,l,h=>by
  simp only[rowG]at h
  split at h
  ·cases h
   assumption
  ·exact rowG_word h
theorem tab_mem {R:List (List UInt8)→Option FigR} {t w:List UInt8} {L:List FigR} {l:List (List UInt8)} {f:FigR} (hL:tabOk R t L=true) (hr:rowF t w=some l) (hf:R l=some f):{f with word:=w}∈L:=by
 have h1:=of_decide_eq_true hL
 have h2:(R l).map (fun f=>{f with word:=l.getD 0 []})∈L.map some:=by
  rw[←h1]
  exact List.mem_map.2 ⟨l,rowG_mem hr,rfl⟩
 rw[hf,Option.map_some,rowG_word hr]at h2
 obtain⟨g,hg,e⟩:=List.mem_map.1 h2
 rw[←Option.some.inj e]
 exact hg
theorem con_mem {w:List UInt8} {f:FigR} (h:conF w=some f):f∈conL∧f.word=w:=by
 unfold conF at h
 split at h
 ·cases h
 ·rename_i l hl
  split at h
  ·cases h
  ·rename_i g hg
   cases h
   exact⟨tab_mem conL_ok hl hg,rfl⟩
theorem pre_mem {w:List UInt8} {f:FigR} (h:preF w=some f):f∈preL∧f.word=w:=by
 unfold preF at h
 split at h
 ·cases h
 ·rename_i l hl
  split at h
  ·cases h
  ·rename_i g hg
   cases h
   exact⟨tab_mem preL_ok hl hg,rfl⟩
def formB (n:Int) (f:FormR):Bool:=decide (1≤f.k∧f.k≤4∧0≤f.a∧f.a<n∧0≤f.b∧f.b<n∧0≤f.c∧f.c<n∧0≤f.d∧f.d<n)
def pieceB (n m:Int) (p:PieceR):Bool:=decide (-1000≤p.n∧p.n≤1000∧0≤p.f∧p.f≤m∧p.fs.length≤10)&&p.fs.all (formB n)
def figB (add:Int) (f:FigR):Bool:=decide (0≤f.pts∧f.pts≤8∧0≤f.nums∧f.nums≤2∧f.eqs.length≤3)&&f.eqs.all fun e=>decide (e.length≤20)&&e.all (pieceB (f.pts+add) f.nums)
theorem figB_in {add:Int} {f:FigR} {n m:Nat} (h:figB add f=true) (hn:(n:Int)=f.pts+add) (hm:(m:Int)=f.nums):FigIn n m f∧0≤f.pts∧f.pts≤8∧0≤f.nums∧f.nums≤2∧f.eqs.length≤3:=by
 simp only[figB,Bool.and_eq_true,decide_eq_true_eq,List.all_eq_true]at h
 obtain⟨⟨h1,h2,h3,h4,h5⟩,h6⟩:=h
 refine⟨⟨by omega,fun e he=>⟨(h6 e he).1,fun p hp=>?_⟩⟩,h1,h2,h3,h4,h5⟩
 have hq:=(h6 e he).2 p hp
 simp only[pieceB,Bool.and_eq_true,decide_eq_true_eq,List.all_eq_true,formB]at hq
 obtain⟨⟨q1,q2,q3,q4,q5⟩,q6⟩:=hq
 refine⟨⟨q1,q2⟩,⟨q3,by omega⟩,q5,fun g hg=>?_⟩
 obtain⟨z1,z2,z3,z4,z5,z6,z7,z8,z9,z10⟩:=q6 g hg
 exact⟨by omega,⟨z3,by omega⟩,⟨z5,by omega⟩,⟨z7,by omega⟩,⟨z9,by omega⟩⟩
theorem conL_in:conL.all (figB 1)=true:=by decide +kernel
theorem preL_in:preL.all (figB 0)=true:=by decide +kernel
theorem con_in {w:List UInt8} {f:FigR} (h:conF w=some f):figB 1 f=true:=List.all_eq_true.1 conL_in f (con_mem h).1
theorem pre_in {w:List UInt8} {f:FigR} (h:preF w=some f):figB 0 f=true:=List.all_eq_true.1 preL_in f (pre_mem h).1
end Go.Proofs.YthfglhjdnpoepaaGreatDoor
namespace Go.Proofs.YthfglhjdnpoepaaGreatDoor
open Go.Ab
theorem ce_on (P:Nat→Rat×Rat) (nums:List Int):cf_on.eqs.map (eqQ P nums)=[crossQ (P 1) (P 0) (P 1) (P 2)]:=by
 simp[cf_on,eqQ,sumQ,pieceQ,facsQ,formQ,numQ]
 all_goals grind
theorem ce_onpar (P:Nat→Rat×Rat) (nums:List Int):cf_onpar.eqs.map (eqQ P nums)=[crossQ (P 1) (P 0) (P 2) (P 3)]:=by
 simp[cf_onpar,eqQ,sumQ,pieceQ,facsQ,formQ,numQ]
 all_goals grind
theorem ce_onperp (P:Nat→Rat×Rat) (nums:List Int):cf_onperp.eqs.map (eqQ P nums)=[dotQ (P 1) (P 0) (P 2) (P 3)]:=by
 simp[cf_onperp,eqQ,sumQ,pieceQ,facsQ,formQ,numQ]
 all_goals grind
theorem ce_onbis (P:Nat→Rat×Rat) (nums:List Int):cf_onbis.eqs.map (eqQ P nums)=[(dotQ (P 1) (P 0) (P 1) (P 0))-(dotQ (P 2) (P 0) (P 2) (P 0))]:=by
 simp[cf_onbis,eqQ,sumQ,pieceQ,facsQ,formQ,numQ]
 all_goals grind
theorem ce_oncircle (P:Nat→Rat×Rat) (nums:List Int):cf_oncircle.eqs.map (eqQ P nums)=[(dotQ (P 1) (P 0) (P 1) (P 0))-(dotQ (P 1) (P 2) (P 1) (P 2))]:=by
 simp[cf_oncircle,eqQ,sumQ,pieceQ,facsQ,formQ,numQ]
 all_goals grind
theorem ce_ondiam (P:Nat→Rat×Rat) (nums:List Int):cf_ondiam.eqs.map (eqQ P nums)=[dotQ (P 1) (P 0) (P 2) (P 0)]:=by
 simp[cf_ondiam,eqQ,sumQ,pieceQ,facsQ,formQ,numQ]
 all_goals grind
theorem ce_oncirc (P:Nat→Rat×Rat) (nums:List Int):cf_oncirc.eqs.map (eqQ P nums)=[((crossQ (P 0) (P 1) (P 0) (P 2))*(dotQ (P 3) (P 1) (P 3) (P 2)))-((dotQ (P 0) (P 1) (P 0) (P 2))*(crossQ (P 3) (P 1) (P 3) (P 2)))]:=by
 simp[cf_oncirc,eqQ,sumQ,pieceQ,facsQ,formQ,numQ]
 all_goals grind
theorem ce_tangent (P:Nat→Rat×Rat) (nums:List Int):cf_tangent.eqs.map (eqQ P nums)=[dotQ (P 1) (P 0) (P 1) (P 2)]:=by
 simp[cf_tangent,eqQ,sumQ,pieceQ,facsQ,formQ,numQ]
 all_goals grind
theorem ce_midpoint (P:Nat→Rat×Rat) (nums:List Int):cf_midpoint.eqs.map (eqQ P nums)=[(wx (P 1) (P 0))+(wx (P 2) (P 0)),(wy (P 1) (P 0))+(wy (P 2) (P 0))]:=by
 simp[cf_midpoint,eqQ,sumQ,pieceQ,facsQ,formQ,numQ]
 all_goals grind
theorem ce_reflect (P:Nat→Rat×Rat) (nums:List Int):cf_reflect.eqs.map (eqQ P nums)=[(wx (P 2) (P 0))-(wx (P 1) (P 2)),(wy (P 2) (P 0))-(wy (P 1) (P 2))]:=by
 simp[cf_reflect,eqQ,sumQ,pieceQ,facsQ,formQ,numQ]
 all_goals grind
theorem ce_centroid (P:Nat→Rat×Rat) (nums:List Int):cf_centroid.eqs.map (eqQ P nums)=[((wx (P 1) (P 0))+(wx (P 2) (P 0)))+(wx (P 3) (P 0)),((wy (P 1) (P 0))+(wy (P 2) (P 0)))+(wy (P 3) (P 0))]:=by
 simp[cf_centroid,eqQ,sumQ,pieceQ,facsQ,formQ,numQ]
 all_goals grind
theorem ce_translate (P:Nat→Rat×Rat) (nums:List Int):cf_translate.eqs.map (eqQ P nums)=[(wx (P 1) (P 0))-(wx (P 2) (P 3)),(wy (P 1) (P 0))-(wy (P 2) (P 3))]:=by
 simp[cf_translate,eqQ,sumQ,pieceQ,facsQ,formQ,numQ]
 all_goals grind
theorem ce_turn (P:Nat→Rat×Rat) (nums:List Int):cf_turn.eqs.map (eqQ P nums)=[(wx (P 2) (P 0))+(wy (P 2) (P 1)),(wy (P 2) (P 0))-(wx (P 2) (P 1))]:=by
 simp[cf_turn,eqQ,sumQ,pieceQ,facsQ,formQ,numQ]
 all_goals grind
theorem ce_ratio (P:Nat→Rat×Rat) (nums:List Int):cf_ratio.eqs.map (eqQ P nums)=[(((((nums.getD 1 0):Int):Rat))*(wx (P 1) (P 0)))-(((((nums.getD 0 0):Int):Rat))*(wx (P 1) (P 2))),(((((nums.getD 1 0):Int):Rat))*(wy (P 1) (P 0)))-(((((nums.getD 0 0):Int):Rat))*(wy (P 1) (P 2)))]:=by
 simp[cf_ratio,eqQ,sumQ,pieceQ,facsQ,formQ,numQ]
 all_goals grind
theorem ce_foot (P:Nat→Rat×Rat) (nums:List Int):cf_foot.eqs.map (eqQ P nums)=[crossQ (P 2) (P 0) (P 2) (P 3),dotQ (P 1) (P 0) (P 2) (P 3)]:=by
 simp[cf_foot,eqQ,sumQ,pieceQ,facsQ,formQ,numQ]
 all_goals grind
theorem ce_mirror (P:Nat→Rat×Rat) (nums:List Int):cf_mirror.eqs.map (eqQ P nums)=[(crossQ (P 2) (P 1) (P 2) (P 3))+(crossQ (P 2) (P 0) (P 2) (P 3)),dotQ (P 1) (P 0) (P 2) (P 3)]:=by
 simp[cf_mirror,eqQ,sumQ,pieceQ,facsQ,formQ,numQ]
 all_goals grind
theorem ce_meet (P:Nat→Rat×Rat) (nums:List Int):cf_meet.eqs.map (eqQ P nums)=[crossQ (P 1) (P 0) (P 1) (P 2),crossQ (P 3) (P 0) (P 3) (P 4)]:=by
 simp[cf_meet,eqQ,sumQ,pieceQ,facsQ,formQ,numQ]
 all_goals grind
theorem ce_parmeet (P:Nat→Rat×Rat) (nums:List Int):cf_parmeet.eqs.map (eqQ P nums)=[crossQ (P 1) (P 0) (P 2) (P 3),crossQ (P 4) (P 0) (P 4) (P 5)]:=by
 simp[cf_parmeet,eqQ,sumQ,pieceQ,facsQ,formQ,numQ]
 all_goals grind
theorem ce_perpmeet (P:Nat→Rat×Rat) (nums:List Int):cf_perpmeet.eqs.map (eqQ P nums)=[dotQ (P 1) (P 0) (P 2) (P 3),crossQ (P 4) (P 0) (P 4) (P 5)]:=by
 simp[cf_perpmeet,eqQ,sumQ,pieceQ,facsQ,formQ,numQ]
 all_goals grind
theorem ce_parpar (P:Nat→Rat×Rat) (nums:List Int):cf_parpar.eqs.map (eqQ P nums)=[crossQ (P 1) (P 0) (P 2) (P 3),crossQ (P 4) (P 0) (P 5) (P 6)]:=by
 simp[cf_parpar,eqQ,sumQ,pieceQ,facsQ,formQ,numQ]
 all_goals grind
theorem ce_perpperp (P:Nat→Rat×Rat) (nums:List Int):cf_perpperp.eqs.map (eqQ P nums)=[dotQ (P 1) (P 0) (P 2) (P 3),dotQ (P 4) (P 0) (P 5) (P 6)]:=by
 simp[cf_perpperp,eqQ,sumQ,pieceQ,facsQ,formQ,numQ]
 all_goals grind
theorem ce_parperp (P:Nat→Rat×Rat) (nums:List Int):cf_parperp.eqs.map (eqQ P nums)=[crossQ (P 1) (P 0) (P 2) (P 3),dotQ (P 4) (P 0) (P 5) (P 6)]:=by
 simp[cf_parperp,eqQ,sumQ,pieceQ,facsQ,formQ,numQ]
 all_goals grind
theorem ce_bimeet (P:Nat→Rat×Rat) (nums:List Int):cf_bimeet.eqs.map (eqQ P nums)=[(dotQ (P 1) (P 0) (P 1) (P 0))-(dotQ (P 2) (P 0) (P 2) (P 0)),crossQ (P 3) (P 0) (P 3) (P 4)]:=by
 simp[cf_bimeet,eqQ,sumQ,pieceQ,facsQ,formQ,numQ]
 all_goals grind
theorem ce_bisbis (P:Nat→Rat×Rat) (nums:List Int):cf_bisbis.eqs.map (eqQ P nums)=[(dotQ (P 1) (P 0) (P 1) (P 0))-(dotQ (P 2) (P 0) (P 2) (P 0)),(dotQ (P 3) (P 0) (P 3) (P 0))-(dotQ (P 4) (P 0) (P 4) (P 0))]:=by
 simp[cf_bisbis,eqQ,sumQ,pieceQ,facsQ,formQ,numQ]
 all_goals grind
theorem ce_circumcentre (P:Nat→Rat×Rat) (nums:List Int):cf_circumcentre.eqs.map (eqQ P nums)=[(dotQ (P 1) (P 0) (P 1) (P 0))-(dotQ (P 2) (P 0) (P 2) (P 0)),(dotQ (P 1) (P 0) (P 1) (P 0))-(dotQ (P 3) (P 0) (P 3) (P 0))]:=by
 simp[cf_circumcentre,eqQ,sumQ,pieceQ,facsQ,formQ,numQ]
 all_goals grind
theorem ce_orthocentre (P:Nat→Rat×Rat) (nums:List Int):cf_orthocentre.eqs.map (eqQ P nums)=[dotQ (P 1) (P 0) (P 2) (P 3),dotQ (P 2) (P 0) (P 3) (P 1)]:=by
 simp[cf_orthocentre,eqQ,sumQ,pieceQ,facsQ,formQ,numQ]
 all_goals grind
theorem ce_second (P:Nat→Rat×Rat) (nums:List Int):cf_second.eqs.map (eqQ P nums)=[crossQ (P 1) (P 0) (P 1) (P 2),(dotQ (P 1) (P 0) (P 1) (P 2))-((((2:Int):Rat))*(dotQ (P 1) (P 3) (P 1) (P 2)))]:=by
 simp[cf_second,eqQ,sumQ,pieceQ,facsQ,formQ,numQ]
 all_goals grind
theorem ce_other (P:Nat→Rat×Rat) (nums:List Int):cf_other.eqs.map (eqQ P nums)=[(crossQ (P 2) (P 1) (P 2) (P 3))+(crossQ (P 2) (P 0) (P 2) (P 3)),dotQ (P 1) (P 0) (P 2) (P 3)]:=by
 simp[cf_other,eqQ,sumQ,pieceQ,facsQ,formQ,numQ]
 all_goals grind
theorem ce_inverse (P:Nat→Rat×Rat) (nums:List Int):cf_inverse.eqs.map (eqQ P nums)=[crossQ (P 2) (P 0) (P 2) (P 1),(dotQ (P 2) (P 0) (P 2) (P 1))-(dotQ (P 2) (P 3) (P 2) (P 3))]:=by
 simp[cf_inverse,eqQ,sumQ,pieceQ,facsQ,formQ,numQ]
 all_goals grind
theorem pe_same (P:Nat→Rat×Rat) (nums:List Int):pf_same.eqs.map (eqQ P nums)=[wx (P 0) (P 1),wy (P 0) (P 1)]:=by
 simp[pf_same,eqQ,sumQ,pieceQ,facsQ,formQ,numQ]
 all_goals grind
theorem pe_collinear (P:Nat→Rat×Rat) (nums:List Int):pf_collinear.eqs.map (eqQ P nums)=[crossQ (P 0) (P 1) (P 0) (P 2)]:=by
 simp[pf_collinear,eqQ,sumQ,pieceQ,facsQ,formQ,numQ]
 all_goals grind
theorem pe_parallel (P:Nat→Rat×Rat) (nums:List Int):pf_parallel.eqs.map (eqQ P nums)=[crossQ (P 0) (P 1) (P 2) (P 3)]:=by
 simp[pf_parallel,eqQ,sumQ,pieceQ,facsQ,formQ,numQ]
 all_goals grind
theorem pe_perpendicular (P:Nat→Rat×Rat) (nums:List Int):pf_perpendicular.eqs.map (eqQ P nums)=[dotQ (P 0) (P 1) (P 2) (P 3)]:=by
 simp[pf_perpendicular,eqQ,sumQ,pieceQ,facsQ,formQ,numQ]
 all_goals grind
theorem pe_midpoint (P:Nat→Rat×Rat) (nums:List Int):pf_midpoint.eqs.map (eqQ P nums)=[(wx (P 1) (P 0))+(wx (P 2) (P 0)),(wy (P 1) (P 0))+(wy (P 2) (P 0))]:=by
 simp[pf_midpoint,eqQ,sumQ,pieceQ,facsQ,formQ,numQ]
 all_goals grind
theorem pe_equal (P:Nat→Rat×Rat) (nums:List Int):pf_equal.eqs.map (eqQ P nums)=[(dotQ (P 0) (P 1) (P 0) (P 1))-(dotQ (P 2) (P 3) (P 2) (P 3))]:=by
 simp[pf_equal,eqQ,sumQ,pieceQ,facsQ,formQ,numQ]
 all_goals grind
theorem pe_right (P:Nat→Rat×Rat) (nums:List Int):pf_right.eqs.map (eqQ P nums)=[dotQ (P 1) (P 0) (P 1) (P 2)]:=by
 simp[pf_right,eqQ,sumQ,pieceQ,facsQ,formQ,numQ]
 all_goals grind
theorem pe_concyclic (P:Nat→Rat×Rat) (nums:List Int):pf_concyclic.eqs.map (eqQ P nums)=[((crossQ (P 3) (P 0) (P 3) (P 1))*(dotQ (P 2) (P 0) (P 2) (P 1)))-((dotQ (P 3) (P 0) (P 3) (P 1))*(crossQ (P 2) (P 0) (P 2) (P 1)))]:=by
 simp[pf_concyclic,eqQ,sumQ,pieceQ,facsQ,formQ,numQ]
 all_goals grind
theorem pe_oncircle (P:Nat→Rat×Rat) (nums:List Int):pf_oncircle.eqs.map (eqQ P nums)=[(dotQ (P 1) (P 0) (P 1) (P 0))-(dotQ (P 1) (P 2) (P 1) (P 2))]:=by
 simp[pf_oncircle,eqQ,sumQ,pieceQ,facsQ,formQ,numQ]
 all_goals grind
theorem pe_foot (P:Nat→Rat×Rat) (nums:List Int):pf_foot.eqs.map (eqQ P nums)=[crossQ (P 2) (P 0) (P 2) (P 3),dotQ (P 1) (P 0) (P 2) (P 3)]:=by
 simp[pf_foot,eqQ,sumQ,pieceQ,facsQ,formQ,numQ]
 all_goals grind
theorem pe_circumcentre (P:Nat→Rat×Rat) (nums:List Int):pf_circumcentre.eqs.map (eqQ P nums)=[(dotQ (P 1) (P 0) (P 1) (P 0))-(dotQ (P 2) (P 0) (P 2) (P 0)),(dotQ (P 1) (P 0) (P 1) (P 0))-(dotQ (P 3) (P 0) (P 3) (P 0))]:=by
 simp[pf_circumcentre,eqQ,sumQ,pieceQ,facsQ,formQ,numQ]
 all_goals grind
theorem pe_orthocentre (P:Nat→Rat×Rat) (nums:List Int):pf_orthocentre.eqs.map (eqQ P nums)=[dotQ (P 1) (P 0) (P 2) (P 3),dotQ (P 2) (P 0) (P 3) (P 1)]:=by
 simp[pf_orthocentre,eqQ,sumQ,pieceQ,facsQ,formQ,numQ]
 all_goals grind
theorem pe_centroid (P:Nat→Rat×Rat) (nums:List Int):pf_centroid.eqs.map (eqQ P nums)=[((wx (P 1) (P 0))+(wx (P 2) (P 0)))+(wx (P 3) (P 0)),((wy (P 1) (P 0))+(wy (P 2) (P 0)))+(wy (P 3) (P 0))]:=by
 simp[pf_centroid,eqQ,sumQ,pieceQ,facsQ,formQ,numQ]
 all_goals grind
theorem pe_parallelogram (P:Nat→Rat×Rat) (nums:List Int):pf_parallelogram.eqs.map (eqQ P nums)=[(wx (P 0) (P 1))-(wx (P 3) (P 2)),(wy (P 0) (P 1))-(wy (P 3) (P 2))]:=by
 simp[pf_parallelogram,eqQ,sumQ,pieceQ,facsQ,formQ,numQ]
 all_goals grind
theorem pe_concurrent (P:Nat→Rat×Rat) (nums:List Int):pf_concurrent.eqs.map (eqQ P nums)=[((crossQ (P 4) (P 0) (P 4) (P 5))*(crossQ (P 0) (P 1) (P 2) (P 3)))+((crossQ (P 0) (P 2) (P 2) (P 3))*(crossQ (P 0) (P 1) (P 4) (P 5)))]:=by
 simp[pf_concurrent,eqQ,sumQ,pieceQ,facsQ,formQ,numQ]
 all_goals grind
theorem pe_angles (P:Nat→Rat×Rat) (nums:List Int):pf_angles.eqs.map (eqQ P nums)=[((crossQ (P 1) (P 0) (P 1) (P 2))*(dotQ (P 4) (P 3) (P 4) (P 5)))-((dotQ (P 1) (P 0) (P 1) (P 2))*(crossQ (P 4) (P 3) (P 4) (P 5)))]:=by
 simp[pf_angles,eqQ,sumQ,pieceQ,facsQ,formQ,numQ]
 all_goals grind
theorem pe_product (P:Nat→Rat×Rat) (nums:List Int):pf_product.eqs.map (eqQ P nums)=[((dotQ (P 0) (P 1) (P 0) (P 1))*(dotQ (P 2) (P 3) (P 2) (P 3)))-((dotQ (P 4) (P 5) (P 4) (P 5))*(dotQ (P 6) (P 7) (P 6) (P 7)))]:=by
 simp[pf_product,eqQ,sumQ,pieceQ,facsQ,formQ,numQ]
 all_goals grind
theorem pe_tangent (P:Nat→Rat×Rat) (nums:List Int):pf_tangent.eqs.map (eqQ P nums)=[((crossQ (P 2) (P 0) (P 0) (P 1))*(crossQ (P 2) (P 0) (P 0) (P 1)))-((dotQ (P 0) (P 1) (P 0) (P 1))*(dotQ (P 2) (P 3) (P 2) (P 3)))]:=by
 simp[pf_tangent,eqQ,sumQ,pieceQ,facsQ,formQ,numQ]
 all_goals grind
theorem pe_isosceles (P:Nat→Rat×Rat) (nums:List Int):pf_isosceles.eqs.map (eqQ P nums)=[(dotQ (P 0) (P 1) (P 0) (P 1))-(dotQ (P 0) (P 2) (P 0) (P 2))]:=by
 simp[pf_isosceles,eqQ,sumQ,pieceQ,facsQ,formQ,numQ]
 all_goals grind
theorem pe_harmonic (P:Nat→Rat×Rat) (nums:List Int):pf_harmonic.eqs.map (eqQ P nums)=[crossQ (P 0) (P 1) (P 0) (P 2),crossQ (P 0) (P 1) (P 0) (P 3),((dotQ (P 0) (P 1) (P 0) (P 2))*(dotQ (P 0) (P 1) (P 1) (P 3)))+((dotQ (P 0) (P 1) (P 0) (P 3))*(dotQ (P 0) (P 1) (P 1) (P 2)))]:=by
 simp[pf_harmonic,eqQ,sumQ,pieceQ,facsQ,formQ,numQ]
 all_goals grind
end Go.Proofs.YthfglhjdnpoepaaGreatDoor
