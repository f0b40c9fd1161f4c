/-
  What is told of figures, owned by who is told it; the tables, row by row.
-/
import Derived.Test.YtcbdfmmiigpddaaDoorFh2
import Derived.Test.YtcbdfmmiigpddaaDoorFh3
import Derived.Test.YtcbdfmmiigpddaaDoorAb42
set_option maxRecDepth 100000
namespace Go.Proofs.YtcbdfmmiigpddaaDoor
open Go.Ab
structure ZT where
 b:Nat
 o:Nat
 cap:Nat
def strC (s:List UInt8):Value:=.string ⟨s.toArray⟩
def txtM (M:Mem) (b o:Nat) (ws:List (List UInt8)):Prop:=∀i,i<ws.length→M b (o+i)=some (strC (ws.getD i default))
structure TxtG (ws:List (List UInt8)) (M:Mem) (z:ZT):Prop where
 txt:txtM M z.b z.o ws
 le:ws.length≤z.cap
def txtV (n:Nat) (z:ZT):AV:=.mslice z.b z.o n z.cap
theorem thaw_txt {f:FuncId} {ws:List (List UInt8)} (h0:0<ws.length) (h:PCalls Tryd.prog f [] (sl txtE 1 ws .view)):ACalls Tryd.prog f [] [] fun r H'=>∃t:Thaw (fun M (_:Unit) z=>TxtG ws M z),r=.ret (txtV ws.length t.z)∧H'=[memE t.M]:=by
 refine PCalls.thaw (V:=txtV ws.length) (fun v hv=>absurd hv List.not_mem_nil) h fun M c hc=>?_
 obtain⟨a,cap,b,off,C,rfl,h1,h2,-,h4,h5,h6⟩:=hc.slice
 obtain rfl:a=some ⟨b,off,none⟩:=h2.resolve_left (by omega)
 refine⟨⟨b,off,cap⟩,⟨fun i hi=>?_,h1⟩,fun st w x hx=>?_⟩
 ·have e:=(h5 i 0 hi (by decide)).1
  rw[Nat.mul_one,Nat.add_zero]at e
  rw[e,(h6 i 0 (.str (ws.getD i default)) hi rfl).str]
  rfl
 ·cases hx
  exact .mslice _ _ _ _
theorem txtM_set {M:Mem} {b o:Nat} {ws:List (List UInt8)} {k:Nat} (h:txtM M b o ws) (_hk:k<ws.length) (s:List UInt8):txtM (memSet M b (o+k) (strC s)) b o (ws.set k s):=by
 intro i hi
 rw[List.length_set]at hi
 unfold memSet
 by_cases e:i=k
 ·subst e
  simp[List.getD_eq_getElem?_getD,hi]
 ·have h1:¬(b=b∧o+i=o+k):=by omega
  rw[if_neg h1,h i hi,List.getD_eq_getElem?_getD,List.getD_eq_getElem?_getD,List.getElem?_set_ne (fun h=>e h.symm)]
theorem txtM_sub {M:Mem} {b o cap:Nat} {ws:List (List UInt8)} (h:txtM M b o ws) (hc:ws.length≤cap):SubM M (.mslice b o ws.length cap) (sl txtE 1 ws (.own (some ⟨b,o,none⟩) cap)):=fun st w hh c hc'=>by
 cases hc'
 refine .slice 1 ws.length _ _ (some ⟨b,o,none⟩) cap b o (fun i _=>strC (ws.getD i default)) hc (.inr rfl) (fun i hi=>rfl) (fun i j hi hj=>?_) (fun i j v hi hv=>?_) ⟨rfl,rfl⟩ (fun i j hi hj=>rfl)
 ·have hj0:j=0:=by omega
  subst hj0
  rw[Nat.mul_one,Nat.add_zero]
  exact hh _ _ _ (h i hi)
 ·cases j with
  |zero=>
   simp[txtE]at hv
   subst hv
   exact .str _
  |succ j=>simp[txtE]at hv
structure ZF where
 a1:Option Addr
 c1:Nat
 b:Nat
 o:Nat
 cap:Nat
 a3:Option Addr
 c3:Nat
structure PathM (M:Mem) (b o:Nat) where
 b1:Nat
 o1:Nat
 n1:Nat
 cap1:Nat
 b2:Nat
 o2:Nat
 n2:Nat
 cap2:Nat
 x:Int
 y:Int
 h1:M b o=some (.slice (some ⟨b1,o1,none⟩) n1 cap1)
 p1:0<n1
 h2:M b1 o1=some (.int .i64 x)
 h3:M b1 (o1+2)=some (.slice (some ⟨b2,o2,none⟩) n2 cap2)
 p2:0<n2
 h4:M b2 (o2+1)=some (.int .i64 y)
def figCE (f:FigR) (z:ZF):List AV:=[.str f.word,.int .i64 f.pts,.int .i64 f.nums,.conc (.slice z.a1 f.unl.length z.c1),.mslice z.b z.o f.eqs.length z.cap,.str f.bw,.conc (.slice z.a3 f.bp.length z.c3)]
def figOE (f:FigR) (z:ZF):List AV:=[.str f.word,.int .i64 f.pts,.int .i64 f.nums,sl pairE 2 f.unl (.own z.a1 z.c1),sl eqE 1 f.eqs (.own (some ⟨z.b,z.o,none⟩) z.cap),.str f.bw,sl numE 1 f.bp (.own z.a3 z.c3)]
structure FigG (f:FigR) (M:Mem) (z:ZF):Prop where
 lend:SubM M (.agg (figCE f z)) (.agg (figOE f z))
 path:Nonempty (PathM M z.b z.o)
theorem figO_imp (f:FigR) (z:ZF):Imp (.agg (figOE f z)) (.agg (figCE f z)):=
 ImpL.agg (.cons (.str _) (.cons (.int _ _) (.cons (.int _ _) (.cons .conc (.cons .mslice (.cons (.str _) (.cons .conc .nil)))))))
theorem figO_sub (f:FigR) (z:ZF):SubL (figOE f z) (figE f):=.cons (Sub.refl _) (.cons (Sub.refl _) (.cons (Sub.refl _) (.cons (Sub.view _ _ _ _) (.cons (Sub.view _ _ _ _) (.cons (Sub.refl _) (.cons (Sub.view _ _ _ _) .nil))))))
def figP (f:FigR):Bool:=match f.eqs with
 |(p::_)::_=>match p.fs with
  |_::_=>true
  |[]=>false
 |_=>false
theorem conc_tuple2 {x y:Value}:Sub (.conc (.tuple ⟨[x,y]⟩)) (.tuple [.conc x,.conc y]):=fun st w c h=>by
 cases h
 refine .tuple _ _ rfl fun j v z hv hz=>?_
 match j,hv,hz with
 |0,hv,hz=>simp at hv hz;subst hv;subst hz;exact .conc _
 |1,hv,hz=>simp at hv hz;subst hv;subst hz;exact .conc _
theorem thaw_fig {g:FuncId} {w:List UInt8} {f:FigR} (hp:figP f=true) (h:PCalls Tryd.prog g [.str w] (figV (some f))):ACalls Tryd.prog g [.str w] [] fun r H'=>∃t:Thaw (fun M (_:Unit) z=>FigG f M z),r=.ret (.tuple [.agg (figCE f t.z),.bool true])∧H'=[memE t.M]:=by
 refine PCalls.thaw (V:=fun z:ZF=>.tuple [.agg (figCE f z),.bool true]) (fun v hv=>by rw[List.mem_singleton.1 hv];exact Flat.str _) h fun M c hc=>?_
 obtain⟨cs,rfl,hl,hr⟩:=(show RepM M (.tuple [.agg (figE f),.bool true]) c from hc).tuple
 match cs,hl with
 |[c0,c1],_=>
 have r0:=hr 0 _ c0 rfl rfl
 have r1:=hr 1 _ c1 rfl rfl
 obtain⟨es,rfl,hl2,hr2⟩:=r0.agg
 match es,hl2 with
 |[e0,e1,e2,e3,e4,e5,e6],_=>
 obtain rfl:=(hr2 0 _ e0 rfl rfl).str
 obtain rfl:=(hr2 1 _ e1 rfl rfl).int
 obtain rfl:=(hr2 2 _ e2 rfl rfl).int
 obtain rfl:=(hr2 5 _ e5 rfl rfl).str
 have k3:=hr2 3 _ e3 rfl rfl
 have k4:=hr2 4 _ e4 rfl rfl
 have k6:=hr2 6 _ e6 rfl rfl
 obtain⟨a1,c1',-,-,-,rfl,-⟩:=k3.slice
 obtain⟨a3,c3',-,-,-,rfl,-⟩:=k6.slice
 obtain⟨a,cap,b,o,C,rfl,q1,q2,-,q4,q5,q6⟩:=k4.slice
 unfold figP at hp
 split at hp
 rotate_left
 ·cases hp
 rename_i p ps es heq
 split at hp
 rotate_left
 ·cases hp
 rename_i fm fms hfs
 have hlen:0<f.eqs.length:=by rw[heq];simp
 obtain rfl:a=some ⟨b,o,none⟩:=q2.resolve_left (by omega)
 have s0:=(q5 0 0 hlen (by decide)).1
 have s1:=q6 0 0 (sl pieceE 3 (p::ps) .view) hlen (by simp only[heq];rfl)
 obtain⟨a4,cap4,b1,o1,C1,g1,g2,g3,-,g5,g6,g7⟩:=s1.slice
 obtain rfl:a4=some ⟨b1,o1,none⟩:=g3.resolve_left (by simp)
 rw[g1]at s0
 have t0:=(g6 0 0 (by simp) (by decide)).1
 have t2:=(g6 0 2 (by simp) (by decide)).1
 have u0:=(g7 0 0 (.int .i64 p.n) (by simp) rfl).int
 have u2:=g7 0 2 (sl formE 5 (fm::fms) .view) (by simp) (by simp[pieceE,hfs])
 obtain⟨a5,cap5,b2,o2,C2,m1,m2,m3,-,m5,m6,m7⟩:=u2.slice
 obtain rfl:a5=some ⟨b2,o2,none⟩:=m3.resolve_left (by simp)
 rw[u0]at t0
 rw[m1]at t2
 have v1:=(m6 0 1 (by simp) (by decide)).1
 have w1:=(m7 0 1 (.int .i64 fm.a) (by simp) rfl).int
 rw[w1]at v1
 refine⟨⟨a1,c1',b,o,cap,a3,c3'⟩,⟨?_,⟨⟨b1,o1,(p::ps).length,cap4,b2,o2,(fm::fms).length,cap5,p.n,fm.a,by simpa using s0,by simp,by simpa using t0,by simpa using t2,by simp,by simpa using v1⟩⟩⟩,?_⟩
 ·exact SubM.agg rfl (SubML.at' (SubML.same (SubML.same (SubML.same (SubML.cons (SubM.conc k3.own) (SubML.cons (SubM.mslice k4.own) (SubML.same (SubML.cons (SubM.conc k6.own) .nil))))))))
 ·refine conc_tuple2.trans (Sub.tuple2 (fun st w x hx=>?_) (fun st w x hx=>?_))
  ·cases hx
   refine .agg _ _ rfl fun j v y hv hy=>?_
   match j,hv,hy with
   |0,hv,hy=>simp[figCE]at hv hy;subst hv;subst hy;exact .str _
   |1,hv,hy=>simp[figCE]at hv hy;subst hv;subst hy;exact .int _ _
   |2,hv,hy=>simp[figCE]at hv hy;subst hv;subst hy;exact .int _ _
   |3,hv,hy=>simp[figCE]at hv hy;subst hv;subst hy;exact .conc _
   |4,hv,hy=>simp[figCE]at hv hy;subst hv;subst hy;exact .mslice _ _ _ _
   |5,hv,hy=>simp[figCE]at hv hy;subst hv;subst hy;exact .str _
   |6,hv,hy=>simp[figCE]at hv hy;subst hv;subst hy;exact .conc _
  ·cases hx
   exact r1.flat (Flat.bool _) st w
def figLB (f:FigR):Bool:=Nat.ble f.unl.length 1000000&&Nat.ble f.bp.length 1000000&&Nat.ble f.eqs.length 1000000&&f.eqs.all fun l=>Nat.ble l.length 1000000&&l.all fun p=>Nat.ble p.fs.length 1000000
theorem figLB_of {f:FigR} (h:figLB f=true):FigL f:=by
 simp only[figLB,Bool.and_eq_true,List.all_eq_true]at h
 obtain⟨⟨⟨h1,h2⟩,h3⟩,h4⟩:=h
 exact⟨Nat.le_of_ble_eq_true h1,Nat.le_of_ble_eq_true h2,Nat.le_of_ble_eq_true h3,fun l hl=>Nat.le_of_ble_eq_true (h4 l hl).1,fun l hl p hp=>Nat.le_of_ble_eq_true ((h4 l hl).2 p hp)⟩
def rowQ (base:Int) (F:List UInt8→Option FigR) (r:RowR):Bool:=(match figQ r base with
 |none=>false
 |some f=>decide (F r.word=some f)&&(figP f&&figLB f))&&(Nat.ble r.eqs.length 1000&&(Nat.ble r.unl.length 1000&&Nat.ble r.blt.length 1000))
structure RowOk (base:Int) (F:List UInt8→Option FigR) (r:RowR) (f:FigR):Prop where
 fig:figQ r base=some f
 has:F r.word=some f
 p:figP f=true
 l:FigL f
 e1:r.eqs.length≤1000
 e2:r.unl.length≤1000
 e3:r.blt.length≤1000
theorem rowQ_of {base:Int} {F:List UInt8→Option FigR} {r:RowR} (h:rowQ base F r=true):∃f,RowOk base F r f:=by
 simp only[rowQ,Bool.and_eq_true]at h
 obtain⟨h1,h2,h3,h4⟩:=h
 cases hq:figQ r base with
 |none=>rw[hq]at h1;cases h1
 |some f=>
  rw[hq]at h1
  simp only[Bool.and_eq_true,decide_eq_true_eq]at h1
  exact⟨f,hq,h1.1,h1.2.1,figLB_of h1.2.2,Nat.le_of_ble_eq_true h2,Nat.le_of_ble_eq_true h3,Nat.le_of_ble_eq_true h4⟩
theorem made_words:wordsT made21=made22.map (·.word):=by decide +kernel
theorem asked_words:wordsT asked21=asked22.map (·.word):=by decide +kernel
theorem made_rows:made22.all (rowQ 1 conF)=true:=by decide +kernel
theorem asked_rows:asked22.all (rowQ 0 preF)=true:=by decide +kernel
theorem made22_pos:made22.length=29:=by decide +kernel
theorem asked22_pos:asked22.length=20:=by decide +kernel
end Go.Proofs.YtcbdfmmiigpddaaDoor
