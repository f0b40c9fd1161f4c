/-
  What is handed in, read as data: numbers, polynomials, proofs, systems.
-/
import Derived.Test.YtkbdklmdcbmgkaaGreatRows
import Derived.Test.YtkbdklmdcbmgkaaGreatKlM
import Derived.ProofKit
import Derived.Deep.Slices
import Derived.ChangeArms
set_option maxRecDepth 100000
namespace Go.Proofs.YtkbdklmdcbmgkaaGreat
open Go.Ab Go.ChangeShapes Go.WideShapes Go.ChangeAt Go.RowKit Go.Deep
theorem own:ownKnob Tryz.prog.godebug=none:=by kernel_rfl
theorem laidOut:laidOutB Tryz.prog=true:=by kernel_rfl
def stOf (W:World):Stab:=fun b _=>b<W.heap.size
theorem conc_start (W:World):Conc (Env0.of W (stOf W) []) (stOf W) [] W:=
 ⟨rfl,rfl,rfl,Nat.le_refl _,fun _ _ _=>rfl,fun _ _ _=>rfl,fun _ _ h=>h,fun _ _ h=>.inl h,fun _ _ h=>h,fun k ⟨_,h,_⟩=>(by cases h),fun k ⟨_,h,_⟩=>(by cases h),fun _ h=>(by cases h),.nil,fun _ _ h k=>k h⟩
theorem below_of {W W':World} {st':Stab} {H':AHeap} (h:Conc (Env0.of W (stOf W) []) st' H' W'):Below W.heap.size W W':=
 ⟨h.os,h.tape,h.output,h.size,fun k hk=>h.old k hk fun⟨_,h,_⟩=>(by cases h)⟩
theorem cell_lt2 {W:World} {a:Addr} {v:Value} (h:W.cell? a=some v):a.block<W.heap.size∧a.spot=none:=by
 unfold World.cell? at h
 cases hb:W.heap[a.block]? with
 |none=>rw[hb]at h;cases h
 |some o=>
  refine⟨(Array.getElem?_eq_some_iff.1 hb).1,?_⟩
  rw[hb]at h
  cases o<;>simp at h
  cases hs:a.spot with
  |none=>rfl
  |some s=>simp[hs]at h
section
variable {H:Type} {enc:TypeId×Value→H} {W:World}
theorem weightsA {P:Program} {t:TypeId} {fs:Array Field} {parts:List (DataW H)} (hu:P.underlying t=some (.struct fs)):(DataW.agg parts).weights P t=DataW.weightsEach P (fs.toList.map (·.type)) parts:=by
 unfold DataW.weights
 rw[hu]
theorem weightsS {P:Program} {t e:TypeId} {xs ys:List (DataW H)} (hu:P.underlying t=some (.slice e)):(DataW.slice xs ys).weights P t=(xs.length+ys.length)*P.bytesOf e::(DataW.weightsAll P e xs++DataW.weightsAll P e ys):=by
 unfold DataW.weights
 rw[hu]
theorem weightsM {P:Program} {e:TypeId} {d:DataW H} {k:Nat}:∀{xs:List (DataW H)},d∈xs→k∈d.weights P e→k∈DataW.weightsAll P e xs
 |[],h,_=>absurd h List.not_mem_nil
 |x::xs,h,hk=>by
  unfold DataW.weightsAll
  rcases List.mem_cons.1 h with rfl|h
  ·exact List.mem_append.2 (.inl hk)
  ·exact List.mem_append.2 (.inr (weightsM h hk))
theorem openRows {α:Type} [Inhabited α] {C:α→List Value} {E:α→List AV} {sz:Nat} {Q:α→Prop} (hpos:0<sz) (hC:∀t,Q t→(C t).length=sz) (hE:∀t,(E t).length=sz)
  (hR:∀t,Q t→∀j v,(E t)[j]?=some v→Rep (stOf W) W v ((C t).getD j default)) (hO:∀t,Q t→∀j,j<sz→((C t).getD j default).oneCell'=true) {a:Addr} {len cap:Nat} (hl:len≤cap)
  (hex:∀i,i<len→∃t,W.cells? 0 (a.add (i*sz)) sz=some (C t)∧Q t):∃l:List α,l.length=len∧Rep (stOf W) W (sl E sz l .view) (.slice (some a) len cap)∧∀t∈l,Q t:=by
 obtain⟨q,hq⟩:∃q:Nat→α,∀i,i<len→W.cells? 0 (a.add (i*sz)) sz=some (C (q i))∧Q (q i):=
  ⟨fun i=>if h:i<len then Classical.choose (hex i h) else default,fun i hi=>by simp only[dif_pos hi];exact Classical.choose_spec (hex i hi)⟩
 have hc0:∀i,i<len→∀j,j<sz→W.cell? ((a.add (i*sz)).add j)=(C (q i))[j]?:=fun i hi j hj=>by
  have h1:=(hq i hi).1
  unfold World.cells? at h1
  rw[if_pos (Nat.zero_le _)]at h1
  exact mapM_some_get h1 j j (by simp[hj])
 have hget:∀i,i<len→∀j,j<sz→(C (q i))[j]?=some ((C (q i)).getD j default):=fun i hi j hj=>by
  have hjl:j<(C (q i)).length:=by rw[hC _ (hq i hi).2];exact hj
  rw[List.getD_eq_getElem?_getD,List.getElem?_eq_getElem hjl]
  rfl
 have hbase:len=0∨a=⟨a.block,a.off,none⟩:=by
  by_cases h0:len=0
  ·exact .inl h0
  ·have c0:=hc0 0 (by omega) 0 hpos
   rw[hget 0 (by omega) 0 hpos]at c0
   have:=(cell_lt2 c0).2
   obtain⟨b,off,spot⟩:=a
   simp only[Addr.add,Nat.zero_mul,if_true]at this
   subst this
   exact .inr rfl
 have hsp:∀i,i<len→∀j,j<sz→stOf W a.block (a.off+(i*sz+j))∧W.cell? ⟨a.block,a.off+(i*sz+j),none⟩=some ((C (q i)).getD j default):=by
  intro i hi j hj
  have c0:=hc0 i hi j hj
  rw[hget i hi j hj]at c0
  have ha:=hbase.resolve_left (by omega)
  rw[add_add,ha,addr_add]at c0
  exact⟨(cell_lt2 c0).1,c0⟩
 refine⟨(List.range len).map q,by simp,?_,fun t ht=>?_⟩
 ·show Rep (stOf W) W (.slice sz ((List.range len).map q).length (fun i=>E (((List.range len).map q).getD i default)) .view) _
  rw[List.length_map,List.length_range]
  refine(Sub.el (el:=fun i=>E (q i)) fun i hi=>?_) _ _ _ (.slice sz len (fun i=>E (q i)) .view (some a) cap a.block a.off (fun i j=>(C (q i)).getD j default) hl ?_ (fun _ _=>hE _) (fun i j hi hj=>hsp i hi j hj) (fun i j v hi hv=>hR _ (hq i hi).2 j v hv) trivial (fun i j hi hj=>hO _ (hq i hi).2 j hj))
  ·simp[List.getD,hi]
  ·exact hbase.imp id (congrArg some)
 ·obtain⟨i,hi,rfl⟩:=List.mem_map.1 ht
  exact(hq i (List.mem_range.1 hi)).2
theorem repl_get {vs:List AV} {cs:List Value} (h:RepL (stOf W) W vs cs) {j:Nat} {v:AV} (hv:vs[j]?=some v):Rep (stOf W) W v (cs.getD j default):=by
 have hj:j<vs.length:=by
  rcases Nat.lt_or_ge j vs.length with h1|h1
  ·exact h1
  ·rw[List.getElem?_eq_none h1]at hv;cases hv
 have hjc:j<cs.length:=by rw[h.1];exact hj
 refine h.2 j v _ hv ?_
 rw[List.getD_eq_getElem?_getD,List.getElem?_eq_getElem hjc]
 rfl
theorem repl1 {v:AV} {c:Value} (h:Rep (stOf W) W v c):RepL (stOf W) W [v] [c]:=⟨rfl,fun j x y hx hy=>by
 match j,hx,hy with
 |0,hx,hy=>cases hx;cases hy;exact h
 |j+1,hx,hy=>cases hx⟩
theorem repl_map {α β:Type} [Inhabited α] [Inhabited β] {E:β→List AV} {sz:Nat} {f:α→β} {l:List α} {v:Value} (h:Rep (stOf W) W (sl (fun t=>E (f t)) sz l .view) v):Rep (stOf W) W (sl E sz (l.map f) .view) v:=by
 unfold sl at h ⊢
 rw[List.length_map]
 refine(Sub.el fun i hi=>?_) _ _ _ h
 rw[List.getD_eq_getElem?_getD,List.getElem?_map,List.getD_eq_getElem?_getD,List.getElem?_eq_getElem hi]
 rfl
theorem openSl {α:Type} [Inhabited α] {E:α→List AV} {sz nb:Nat} {Q:α→Prop} {t e:TypeId} (hu:Tryz.prog.underlying t=some (.slice e)) (hce:Tryz.prog.cellsOf e=sz) (hbe:Tryz.prog.bytesOf e=nb) (hpos:0<sz) (hE:∀y,(E y).length=sz) (hone:∀y,(E y).all AV.one=true)
  (hop:∀fuel cs (x:DataW H×List MemPlace),DataW.trod enc Tryz.prog W 0 (fun _=>true) true fuel e cs=some x→(∀m∈x.1.weights Tryz.prog e,m≤reachBytes)→∃y,RepL (stOf W) W (E y) cs∧Q y)
  {fuel:Nat} {v:Value} {x:DataW H×List MemPlace} (h:DataW.trod enc Tryz.prog W 0 (fun _=>true) true fuel t [v]=some x) (hw:∀m∈x.1.weights Tryz.prog t,m≤reachBytes):
  ∃l:List α,Rep (stOf W) W (sl E sz l .view) v∧(∀y∈l,Q y)∧l.length*nb≤reachBytes:=by
 rcases open_slice hu h with⟨hc,_⟩|⟨a,len,cap,m,n,D,Pl,hc,_,hl,_,hm,hx,hall⟩
 ·simp only[List.cons.injEq,and_true]at hc
  rw[hc]
  exact⟨[],Sub.nilsv sz _ _ _ _ .nils,fun t ht=>absurd ht List.not_mem_nil,by simp⟩
 ·simp only[List.cons.injEq,and_true]at hc
  subst hc
  simp only[if_true]at hm
  subst hm
  rw[hce]at hx hall
  subst hx
  rw[weightsS hu]at hw
  have hwi:∀i,i<len→∀k∈(D i).weights Tryz.prog e,k≤reachBytes:=fun i hi k hk=>hw k (List.mem_cons_of_mem _ (List.mem_append.2 (.inl (weightsM (List.mem_map.2 ⟨i,List.mem_range.2 hi,rfl⟩) hk))))
  obtain⟨l,hll,h1,h2⟩:=openRows (α:=α×List Value) (W:=W) (C:=fun t=>t.2) (E:=fun t=>E t.1) (sz:=sz) (Q:=fun t=>RepL (stOf W) W (E t.1) t.2∧Q t.1) (a:=a) (len:=len) (cap:=m) hpos (fun y q=>by rw[q.1.1,hE]) (fun y=>hE y.1)
   (fun t q j v hv=>repl_get q.1 hv)
   (fun t q j hj=>by
     have hjv:j<(E t.1).length:=by rw[hE];exact hj
     have hv:(E t.1)[j]?=some (E t.1)[j]:=List.getElem?_eq_getElem hjv
     exact(one_cells (List.all_eq_true.1 (hone t.1) _ (List.getElem_mem hjv)) (repl_get q.1 hv)).2) hl fun i hi=>by
   obtain⟨cs',h1,h2⟩:=hall i (by omega)
   obtain⟨y,r,k⟩:=hop _ _ _ h2 (hwi i hi)
   exact⟨(y,cs'),h1,r,k⟩
  refine⟨l.map Prod.fst,repl_map h1,fun t ht=>?_,?_⟩
  ·obtain⟨p,hp,rfl⟩:=List.mem_map.1 ht
   exact(h2 p hp).2
  ·have h3:=hw _ (List.mem_cons_self ..)
   rw[List.length_map,List.length_map,List.length_range,List.length_range,hbe]at h3
   rw[List.length_map,hll]
   exact Nat.le_trans (Nat.mul_le_mul_right _ (by omega)) h3
theorem openConc {t e:TypeId} (hu:Tryz.prog.underlying t=some (.slice e)) {fuel:Nat} {v:Value} {x:DataW H×List MemPlace} (h:DataW.trod enc Tryz.prog W 0 (fun _=>true) true fuel t [v]=some x):∃s:Option Addr×Nat×Nat,Rep (stOf W) W (concS s) v:=by
 rcases open_slice hu h with⟨hc,_⟩|⟨a,len,cap,m,n,D,Pl,hc,_⟩
 ·simp only[List.cons.injEq,and_true]at hc
  rw[hc]
  exact⟨(none,0,0),.conc _⟩
 ·simp only[List.cons.injEq,and_true]at hc
  rw[hc]
  exact⟨(some a,len,cap),.conc _⟩
theorem cU32:Tryz.prog.cellsOf 65=1:=by kernel_rfl
theorem cBool:Tryz.prog.cellsOf 4=1:=by kernel_rfl
theorem cI64:Tryz.prog.cellsOf 3=1:=by kernel_rfl
theorem cU8:Tryz.prog.cellsOf 5=1:=by kernel_rfl
theorem cLims:Tryz.prog.cellsOf 35=1:=by kernel_rfl
theorem cPow:Tryz.prog.cellsOf 92=2:=by kernel_rfl
theorem cMono:Tryz.prog.cellsOf 88=1:=by kernel_rfl
theorem cIntR:Tryz.prog.cellsOf 37=2:=by kernel_rfl
theorem cTerm:Tryz.prog.cellsOf 90=3:=by kernel_rfl
theorem cPoly:Tryz.prog.cellsOf 41=1:=by kernel_rfl
theorem cPolys:Tryz.prog.cellsOf 27=1:=by kernel_rfl
theorem cDer:Tryz.prog.cellsOf 55=4:=by kernel_rfl
theorem cDers:Tryz.prog.cellsOf 49=1:=by kernel_rfl
theorem cDiv:Tryz.prog.cellsOf 58=3:=by kernel_rfl
theorem cDivs:Tryz.prog.cellsOf 50=1:=by kernel_rfl
theorem cInts:Tryz.prog.cellsOf 56=1:=by kernel_rfl
theorem cHead:Tryz.prog.cellsOf 60=3:=by kernel_rfl
theorem cHeads:Tryz.prog.cellsOf 51=1:=by kernel_rfl
theorem cNode:Tryz.prog.cellsOf 53=6:=by kernel_rfl
theorem cHypo:Tryz.prog.cellsOf 43=2:=by kernel_rfl
theorem cHypos:Tryz.prog.cellsOf 26=1:=by kernel_rfl
theorem cLay:Tryz.prog.cellsOf 25=4:=by kernel_rfl
theorem cSys:Tryz.prog.cellsOf 30=7:=by kernel_rfl
theorem cStrs:Tryz.prog.cellsOf 22=1:=by kernel_rfl
theorem cCoords:Tryz.prog.cellsOf 23=1:=by kernel_rfl
theorem cSides:Tryz.prog.cellsOf 28=1:=by kernel_rfl
theorem bU32:Tryz.prog.bytesOf 65=4:=by kernel_rfl
theorem bI64:Tryz.prog.bytesOf 3=8:=by kernel_rfl
theorem bPow:Tryz.prog.bytesOf 92=16:=by kernel_rfl
theorem bTerm:Tryz.prog.bytesOf 90=56:=by kernel_rfl
theorem bPoly:Tryz.prog.bytesOf 41=24:=by kernel_rfl
theorem bDer:Tryz.prog.bytesOf 55=80:=by kernel_rfl
theorem bDiv:Tryz.prog.bytesOf 58=72:=by kernel_rfl
theorem bHead:Tryz.prog.bytesOf 60=40:=by kernel_rfl
theorem bNode:Tryz.prog.bytesOf 53=96:=by kernel_rfl
theorem bHypo:Tryz.prog.bytesOf 43=32:=by kernel_rfl
theorem open_u32 {fuel:Nat} {cs:List Value} {x:DataW H×List MemPlace} (h:DataW.trod enc Tryz.prog W 0 (fun _=>true) true fuel 65 cs=some x):∃y:Nat,RepL (stOf W) W (limE y) cs∧y<B32:=by
 obtain⟨p,e1,_,e3⟩:=DataW.trod_int Tryz.underlying65 h
 have hr:0≤p∧p<4294967296:=by
  have:=e3
  simp only[Lit.wf,Bool.and_eq_true,decide_eq_true_eq]at this
  have h1:IntKind.min .u32=0:=by decide
  have h2:IntKind.max .u32=4294967295:=by decide
  omega
 refine⟨p.toNat,?_,by show p.toNat<4294967296;omega⟩
 have e:cs=[Value.int .u32 (p.toNat:Int)]:=by rw[Int.toNat_of_nonneg hr.1];simpa using e1
 rw[e]
 exact repl1 (.int _ _)
theorem open_i64 {fuel:Nat} {cs:List Value} {x:DataW H×List MemPlace} (h:DataW.trod enc Tryz.prog W 0 (fun _=>true) true fuel 3 cs=some x):∃y:Int,RepL (stOf W) W (pwE y) cs∧True:=by
 obtain⟨p,e1,_,e3⟩:=DataW.trod_int Tryz.underlying3 h
 have e:cs=[Value.int .i64 p]:=by simpa using e1
 rw[e]
 exact⟨p,repl1 (.int _ _),True.intro⟩
theorem open_lims {fuel:Nat} {v:Value} {x:DataW H×List MemPlace} (h:DataW.trod enc Tryz.prog W 0 (fun _=>true) true fuel 35 [v]=some x) (hw:∀m∈x.1.weights Tryz.prog 35,m≤reachBytes):∃l:List (Nat),Rep (stOf W) W (Ab.sl limE 1 l .view) v∧(∀y∈l,y<B32)∧l.length*4≤reachBytes:=
 openSl (Q:=fun y=>y<B32) Tryz.underlying35 cU32 bU32 (by decide) (fun _=>rfl) (fun _=>rfl) (fun _ _ _ h hw=>open_u32 h) h hw
theorem open_ints {fuel:Nat} {v:Value} {x:DataW H×List MemPlace} (h:DataW.trod enc Tryz.prog W 0 (fun _=>true) true fuel 56 [v]=some x) (hw:∀m∈x.1.weights Tryz.prog 56,m≤reachBytes):∃l:List (Int),Rep (stOf W) W (Ab.sl pwE 1 l .view) v∧(∀y∈l,True)∧l.length*8≤reachBytes:=
 openSl (Q:=fun y=>True) Tryz.underlying56 cI64 bI64 (by decide) (fun _=>rfl) (fun _=>rfl) (fun _ _ _ h hw=>open_i64 h) h hw
theorem open_pow {fuel:Nat} {cs:List Value} {x:DataW H×List MemPlace} (h:DataW.trod enc Tryz.prog W 0 (fun _=>true) true fuel 92 cs=some x) (hw:∀m∈x.1.weights Tryz.prog 92,m≤reachBytes):∃y:Pw,RepL (stOf W) W (encP y) cs∧True:=by
 obtain⟨xs,n,rfl,rfl,hl,hx,hf⟩:=DataW.trod_struct Tryz.underlying92 h
 rw[cPow]at hl
 match cs,hl with
 |[c0,c1],_=>
 have hx2:xs.length=2:=hx
 clear hx
 match xs,hx2 with
 |[x0,x1],_=>
 have f0:DataW.trod enc Tryz.prog W 0 (fun _=>true) true n 3 (([c0,c1].drop 0).take (Tryz.prog.cellsOf 3))=some x0:=hf 0 _ rfl
 rw[cI64]at f0
 have f1:DataW.trod enc Tryz.prog W 0 (fun _=>true) true n 3 (([c0,c1].drop 1).take (Tryz.prog.cellsOf 3))=some x1:=hf 1 _ rfl
 rw[cI64]at f1
 rw[weightsA Tryz.underlying92]at hw
 have hw':∀m∈DataW.weightsEach Tryz.prog [3,3] [x0.1,x1.1],m≤reachBytes:=hw
 simp only[DataW.weightsEach]at hw'
 obtain⟨v0,e0,_,_⟩:=DataW.trod_int Tryz.underlying3 f0
 have e0:c0=.int .i64 v0:=by simpa using e0
 have r0:=repl1 (W:=W) (show Rep (stOf W) W (.int .i64 v0) c0 by rw[e0];exact .int _ _)
 obtain⟨v1,e1,_,_⟩:=DataW.trod_int Tryz.underlying3 f1
 have e1:c1=.int .i64 v1:=by simpa using e1
 have r1:=repl1 (W:=W) (show Rep (stOf W) W (.int .i64 v1) c1 by rw[e1];exact .int _ _)
 exact⟨(v0,v1),RepL.append (r0) r1,True.intro⟩
theorem open_pws {fuel:Nat} {v:Value} {x:DataW H×List MemPlace} (h:DataW.trod enc Tryz.prog W 0 (fun _=>true) true fuel 88 [v]=some x) (hw:∀m∈x.1.weights Tryz.prog 88,m≤reachBytes):∃l:List (Pw),Rep (stOf W) W (Ab.sl encP 2 l .view) v∧(∀y∈l,True)∧l.length*16≤reachBytes:=
 openSl (Q:=fun y=>True) Tryz.underlying88 cPow bPow (by decide) (fun _=>rfl) (fun _=>rfl) (fun _ _ _ h hw=>open_pow h hw) h hw
theorem open_intr {fuel:Nat} {cs:List Value} {x:DataW H×List MemPlace} (h:DataW.trod enc Tryz.prog W 0 (fun _=>true) true fuel 37 cs=some x) (hw:∀m∈x.1.weights Tryz.prog 37,m≤reachBytes):∃y:IntR,RepL (stOf W) W (intEs y) cs∧(∀z∈y.mag,z<B32)∧y.mag.length≤1000000000000000:=by
 obtain⟨xs,n,rfl,rfl,hl,hx,hf⟩:=DataW.trod_struct Tryz.underlying37 h
 rw[cIntR]at hl
 match cs,hl with
 |[c0,c1],_=>
 have hx2:xs.length=2:=hx
 clear hx
 match xs,hx2 with
 |[x0,x1],_=>
 have f0:DataW.trod enc Tryz.prog W 0 (fun _=>true) true n 4 (([c0,c1].drop 0).take (Tryz.prog.cellsOf 4))=some x0:=hf 0 _ rfl
 rw[cBool]at f0
 have f1:DataW.trod enc Tryz.prog W 0 (fun _=>true) true n 35 (([c0,c1].drop 1).take (Tryz.prog.cellsOf 35))=some x1:=hf 1 _ rfl
 rw[cLims]at f1
 rw[weightsA Tryz.underlying37]at hw
 have hw':∀m∈DataW.weightsEach Tryz.prog [4,35] [x0.1,x1.1],m≤reachBytes:=hw
 simp only[DataW.weightsEach]at hw'
 obtain⟨v0,e0,_⟩:=DataW.trod_bool Tryz.underlying4 f0
 have e0:c0=.bool v0:=by simpa using e0
 have r0:=repl1 (W:=W) (show Rep (stOf W) W (.bool v0) c0 by rw[e0];exact .bool _)
 obtain⟨v1,s1,q1,l1⟩:=open_lims (v:=c1) f1 (fun m hm=>hw' m (List.mem_append.2 (.inr (List.mem_append.2 (.inl hm)))))
 have r1:=repl1 s1
 exact⟨⟨v0,v1⟩,RepL.append (r0) r1,q1,by unfold reachBytes at l1;simp only;omega⟩
theorem open_term {fuel:Nat} {cs:List Value} {x:DataW H×List MemPlace} (h:DataW.trod enc Tryz.prog W 0 (fun _=>true) true fuel 90 cs=some x) (hw:∀m∈x.1.weights Tryz.prog 90,m≤reachBytes):∃y:TermR,RepL (stOf W) W (termE y) cs∧RawT y:=by
 obtain⟨xs,n,rfl,rfl,hl,hx,hf⟩:=DataW.trod_struct Tryz.underlying90 h
 rw[cTerm]at hl
 match cs,hl with
 |[c0,c1,c2],_=>
 have hx2:xs.length=2:=hx
 clear hx
 match xs,hx2 with
 |[x0,x1],_=>
 have f0:DataW.trod enc Tryz.prog W 0 (fun _=>true) true n 37 (([c0,c1,c2].drop 0).take (Tryz.prog.cellsOf 37))=some x0:=hf 0 _ rfl
 rw[cIntR]at f0
 have f1:DataW.trod enc Tryz.prog W 0 (fun _=>true) true n 88 (([c0,c1,c2].drop 2).take (Tryz.prog.cellsOf 88))=some x1:=hf 1 _ rfl
 rw[cMono]at f1
 rw[weightsA Tryz.underlying90]at hw
 have hw':∀m∈DataW.weightsEach Tryz.prog [37,88] [x0.1,x1.1],m≤reachBytes:=hw
 simp only[DataW.weightsEach]at hw'
 obtain⟨v0,r0,q0⟩:=open_intr f0 (fun m hm=>hw' m (List.mem_append.2 (.inl hm)))
 obtain⟨v1,s1,q1,l1⟩:=open_pws (v:=c2) f1 (fun m hm=>hw' m (List.mem_append.2 (.inr (List.mem_append.2 (.inl hm)))))
 have r1:=repl1 s1
 exact⟨⟨v0,v1⟩,RepL.append (r0) r1,⟨q0.1,q0.2,by unfold reachBytes at l1;simp only;omega⟩⟩
theorem open_poly0 {fuel:Nat} {v:Value} {x:DataW H×List MemPlace} (h:DataW.trod enc Tryz.prog W 0 (fun _=>true) true fuel 41 [v]=some x) (hw:∀m∈x.1.weights Tryz.prog 41,m≤reachBytes):∃l:List (TermR),Rep (stOf W) W (Ab.sl termE 3 l .view) v∧(∀y∈l,RawT y)∧l.length*56≤reachBytes:=
 openSl (Q:=fun y=>RawT y) Tryz.underlying41 cTerm bTerm (by decide) (fun _=>rfl) (fun _=>rfl) (fun _ _ _ h hw=>open_term h hw) h hw
theorem open_polyS {fuel:Nat} {v:Value} {x:DataW H×List MemPlace} (h:DataW.trod enc Tryz.prog W 0 (fun _=>true) true fuel 41 [v]=some x) (hw:∀m∈x.1.weights Tryz.prog 41,m≤reachBytes):∃l:List TermR,Rep (stOf W) W (polyV l) v∧RawP l∧True:=by
 obtain⟨l,r,q,b⟩:=open_poly0 h hw
 exact⟨l,r,⟨by unfold reachBytes at b;omega,q⟩,True.intro⟩
theorem open_polyE {fuel:Nat} {cs:List Value} {x:DataW H×List MemPlace} (h:DataW.trod enc Tryz.prog W 0 (fun _=>true) true fuel 41 cs=some x) (hw:∀m∈x.1.weights Tryz.prog 41,m≤reachBytes):∃l:List TermR,RepL (stOf W) W (polyE l) cs∧RawP l:=by
 rcases open_slice Tryz.underlying41 h with⟨hc,_⟩|⟨a,len,cap,m,n,D,Pl,hc,_⟩
 ·subst hc
  obtain⟨l,r,q,_⟩:=open_polyS h hw
  exact⟨l,repl1 r,q⟩
 ·subst hc
  obtain⟨l,r,q,_⟩:=open_polyS h hw
  exact⟨l,repl1 r,q⟩
theorem open_polys {fuel:Nat} {v:Value} {x:DataW H×List MemPlace} (h:DataW.trod enc Tryz.prog W 0 (fun _=>true) true fuel 27 [v]=some x) (hw:∀m∈x.1.weights Tryz.prog 27,m≤reachBytes):∃l:List (List TermR),Rep (stOf W) W (Ab.sl polyE 1 l .view) v∧(∀y∈l,RawP y)∧l.length*24≤reachBytes:=
 openSl (Q:=fun y=>RawP y) Tryz.underlying27 cPoly bPoly (by decide) (fun _=>rfl) (fun _=>rfl) (fun _ _ _ h hw=>open_polyE h hw) h hw
theorem open_der {fuel:Nat} {cs:List Value} {x:DataW H×List MemPlace} (h:DataW.trod enc Tryz.prog W 0 (fun _=>true) true fuel 55 cs=some x) (hw:∀m∈x.1.weights Tryz.prog 55,m≤reachBytes):∃y:DerR,RepL (stOf W) W (derE y) cs∧RawD y:=by
 obtain⟨xs,n,rfl,rfl,hl,hx,hf⟩:=DataW.trod_struct Tryz.underlying55 h
 rw[cDer]at hl
 match cs,hl with
 |[c0,c1,c2,c3],_=>
 have hx2:xs.length=3:=hx
 clear hx
 match xs,hx2 with
 |[x0,x1,x2],_=>
 have f0:DataW.trod enc Tryz.prog W 0 (fun _=>true) true n 37 (([c0,c1,c2,c3].drop 0).take (Tryz.prog.cellsOf 37))=some x0:=hf 0 _ rfl
 rw[cIntR]at f0
 have f1:DataW.trod enc Tryz.prog W 0 (fun _=>true) true n 41 (([c0,c1,c2,c3].drop 2).take (Tryz.prog.cellsOf 41))=some x1:=hf 1 _ rfl
 rw[cPoly]at f1
 have f2:DataW.trod enc Tryz.prog W 0 (fun _=>true) true n 27 (([c0,c1,c2,c3].drop 3).take (Tryz.prog.cellsOf 27))=some x2:=hf 2 _ rfl
 rw[cPolys]at f2
 rw[weightsA Tryz.underlying55]at hw
 have hw':∀m∈DataW.weightsEach Tryz.prog [37,41,27] [x0.1,x1.1,x2.1],m≤reachBytes:=hw
 simp only[DataW.weightsEach]at hw'
 obtain⟨v0,r0,q0⟩:=open_intr f0 (fun m hm=>hw' m (List.mem_append.2 (.inl hm)))
 obtain⟨v1,s1,q1,l1⟩:=open_polyS (v:=c2) f1 (fun m hm=>hw' m (List.mem_append.2 (.inr (List.mem_append.2 (.inl hm)))))
 have r1:=repl1 s1
 obtain⟨v2,s2,q2,l2⟩:=open_polys (v:=c3) f2 (fun m hm=>hw' m (List.mem_append.2 (.inr (List.mem_append.2 (.inr (List.mem_append.2 (.inl hm)))))))
 have r2:=repl1 s2
 exact⟨⟨v0,v1,v2⟩,RepL.append (RepL.append (r0) r1) r2,⟨q0.1,q0.2,q1,q2,by unfold reachBytes at l2;simp only;omega⟩⟩
theorem open_ders {fuel:Nat} {v:Value} {x:DataW H×List MemPlace} (h:DataW.trod enc Tryz.prog W 0 (fun _=>true) true fuel 49 [v]=some x) (hw:∀m∈x.1.weights Tryz.prog 49,m≤reachBytes):∃l:List (DerR),Rep (stOf W) W (Ab.sl derE 4 l .view) v∧(∀y∈l,RawD y)∧l.length*80≤reachBytes:=
 openSl (Q:=fun y=>RawD y) Tryz.underlying49 cDer bDer (by decide) (fun _=>rfl) (fun _=>rfl) (fun _ _ _ h hw=>open_der h hw) h hw
theorem open_div {fuel:Nat} {cs:List Value} {x:DataW H×List MemPlace} (h:DataW.trod enc Tryz.prog W 0 (fun _=>true) true fuel 58 cs=some x) (hw:∀m∈x.1.weights Tryz.prog 58,m≤reachBytes):∃y:DivR,RepL (stOf W) W (divE y) cs∧RawV y:=by
 obtain⟨xs,n,rfl,rfl,hl,hx,hf⟩:=DataW.trod_struct Tryz.underlying58 h
 rw[cDiv]at hl
 match cs,hl with
 |[c0,c1,c2],_=>
 have hx2:xs.length=3:=hx
 clear hx
 match xs,hx2 with
 |[x0,x1,x2],_=>
 have f0:DataW.trod enc Tryz.prog W 0 (fun _=>true) true n 56 (([c0,c1,c2].drop 0).take (Tryz.prog.cellsOf 56))=some x0:=hf 0 _ rfl
 rw[cInts]at f0
 have f1:DataW.trod enc Tryz.prog W 0 (fun _=>true) true n 27 (([c0,c1,c2].drop 1).take (Tryz.prog.cellsOf 27))=some x1:=hf 1 _ rfl
 rw[cPolys]at f1
 have f2:DataW.trod enc Tryz.prog W 0 (fun _=>true) true n 41 (([c0,c1,c2].drop 2).take (Tryz.prog.cellsOf 41))=some x2:=hf 2 _ rfl
 rw[cPoly]at f2
 rw[weightsA Tryz.underlying58]at hw
 have hw':∀m∈DataW.weightsEach Tryz.prog [56,27,41] [x0.1,x1.1,x2.1],m≤reachBytes:=hw
 simp only[DataW.weightsEach]at hw'
 obtain⟨v0,s0,q0,l0⟩:=open_ints (v:=c0) f0 (fun m hm=>hw' m (List.mem_append.2 (.inl hm)))
 have r0:=repl1 s0
 obtain⟨v1,s1,q1,l1⟩:=open_polys (v:=c1) f1 (fun m hm=>hw' m (List.mem_append.2 (.inr (List.mem_append.2 (.inl hm)))))
 have r1:=repl1 s1
 obtain⟨v2,s2,q2,l2⟩:=open_polyS (v:=c2) f2 (fun m hm=>hw' m (List.mem_append.2 (.inr (List.mem_append.2 (.inr (List.mem_append.2 (.inl hm)))))))
 have r2:=repl1 s2
 exact⟨⟨v0,v1,v2⟩,RepL.append (RepL.append (r0) r1) r2,⟨q1,by unfold reachBytes at l1;simp only;omega,q2,by unfold reachBytes at l0;simp only;omega⟩⟩
theorem open_divs {fuel:Nat} {v:Value} {x:DataW H×List MemPlace} (h:DataW.trod enc Tryz.prog W 0 (fun _=>true) true fuel 50 [v]=some x) (hw:∀m∈x.1.weights Tryz.prog 50,m≤reachBytes):∃l:List (DivR),Rep (stOf W) W (Ab.sl divE 3 l .view) v∧(∀y∈l,RawV y)∧l.length*72≤reachBytes:=
 openSl (Q:=fun y=>RawV y) Tryz.underlying50 cDiv bDiv (by decide) (fun _=>rfl) (fun _=>rfl) (fun _ _ _ h hw=>open_div h hw) h hw
theorem open_head {fuel:Nat} {cs:List Value} {x:DataW H×List MemPlace} (h:DataW.trod enc Tryz.prog W 0 (fun _=>true) true fuel 60 cs=some x) (hw:∀m∈x.1.weights Tryz.prog 60,m≤reachBytes):∃y:HeadR,RepL (stOf W) W (headE y) cs∧RawP y.p:=by
 obtain⟨xs,n,rfl,rfl,hl,hx,hf⟩:=DataW.trod_struct Tryz.underlying60 h
 rw[cHead]at hl
 match cs,hl with
 |[c0,c1,c2],_=>
 have hx2:xs.length=3:=hx
 clear hx
 match xs,hx2 with
 |[x0,x1,x2],_=>
 have f0:DataW.trod enc Tryz.prog W 0 (fun _=>true) true n 41 (([c0,c1,c2].drop 0).take (Tryz.prog.cellsOf 41))=some x0:=hf 0 _ rfl
 rw[cPoly]at f0
 have f1:DataW.trod enc Tryz.prog W 0 (fun _=>true) true n 3 (([c0,c1,c2].drop 1).take (Tryz.prog.cellsOf 3))=some x1:=hf 1 _ rfl
 rw[cI64]at f1
 have f2:DataW.trod enc Tryz.prog W 0 (fun _=>true) true n 3 (([c0,c1,c2].drop 2).take (Tryz.prog.cellsOf 3))=some x2:=hf 2 _ rfl
 rw[cI64]at f2
 rw[weightsA Tryz.underlying60]at hw
 have hw':∀m∈DataW.weightsEach Tryz.prog [41,3,3] [x0.1,x1.1,x2.1],m≤reachBytes:=hw
 simp only[DataW.weightsEach]at hw'
 obtain⟨v0,s0,q0,l0⟩:=open_polyS (v:=c0) f0 (fun m hm=>hw' m (List.mem_append.2 (.inl hm)))
 have r0:=repl1 s0
 obtain⟨v1,e1,_,_⟩:=DataW.trod_int Tryz.underlying3 f1
 have e1:c1=.int .i64 v1:=by simpa using e1
 have r1:=repl1 (W:=W) (show Rep (stOf W) W (.int .i64 v1) c1 by rw[e1];exact .int _ _)
 obtain⟨v2,e2,_,_⟩:=DataW.trod_int Tryz.underlying3 f2
 have e2:c2=.int .i64 v2:=by simpa using e2
 have r2:=repl1 (W:=W) (show Rep (stOf W) W (.int .i64 v2) c2 by rw[e2];exact .int _ _)
 exact⟨⟨v0,v1,v2⟩,RepL.append (RepL.append (r0) r1) r2,q0⟩
theorem open_heads {fuel:Nat} {v:Value} {x:DataW H×List MemPlace} (h:DataW.trod enc Tryz.prog W 0 (fun _=>true) true fuel 51 [v]=some x) (hw:∀m∈x.1.weights Tryz.prog 51,m≤reachBytes):∃l:List (HeadR),Rep (stOf W) W (Ab.sl headE 3 l .view) v∧(∀y∈l,RawP y.p)∧l.length*40≤reachBytes:=
 openSl (Q:=fun y:HeadR=>RawP y.p) Tryz.underlying51 cHead bHead (by decide) (fun _=>rfl) (fun _=>rfl) (fun _ _ _ h hw=>open_head h hw) h hw
theorem open_node {fuel:Nat} {cs:List Value} {x:DataW H×List MemPlace} (h:DataW.trod enc Tryz.prog W 0 (fun _=>true) true fuel 53 cs=some x) (hw:∀m∈x.1.weights Tryz.prog 53,m≤reachBytes):∃y:NodeR,RepL (stOf W) W (nodeE y) cs∧RawN y:=by
 obtain⟨xs,n,rfl,rfl,hl,hx,hf⟩:=DataW.trod_struct Tryz.underlying53 h
 rw[cNode]at hl
 match cs,hl with
 |[c0,c1,c2,c3,c4,c5],_=>
 have hx2:xs.length=6:=hx
 clear hx
 match xs,hx2 with
 |[x0,x1,x2,x3,x4,x5],_=>
 have f0:DataW.trod enc Tryz.prog W 0 (fun _=>true) true n 5 (([c0,c1,c2,c3,c4,c5].drop 0).take (Tryz.prog.cellsOf 5))=some x0:=hf 0 _ rfl
 rw[cU8]at f0
 have f1:DataW.trod enc Tryz.prog W 0 (fun _=>true) true n 49 (([c0,c1,c2,c3,c4,c5].drop 1).take (Tryz.prog.cellsOf 49))=some x1:=hf 1 _ rfl
 rw[cDers]at f1
 have f2:DataW.trod enc Tryz.prog W 0 (fun _=>true) true n 3 (([c0,c1,c2,c3,c4,c5].drop 2).take (Tryz.prog.cellsOf 3))=some x2:=hf 2 _ rfl
 rw[cI64]at f2
 have f3:DataW.trod enc Tryz.prog W 0 (fun _=>true) true n 3 (([c0,c1,c2,c3,c4,c5].drop 3).take (Tryz.prog.cellsOf 3))=some x3:=hf 3 _ rfl
 rw[cI64]at f3
 have f4:DataW.trod enc Tryz.prog W 0 (fun _=>true) true n 50 (([c0,c1,c2,c3,c4,c5].drop 4).take (Tryz.prog.cellsOf 50))=some x4:=hf 4 _ rfl
 rw[cDivs]at f4
 have f5:DataW.trod enc Tryz.prog W 0 (fun _=>true) true n 51 (([c0,c1,c2,c3,c4,c5].drop 5).take (Tryz.prog.cellsOf 51))=some x5:=hf 5 _ rfl
 rw[cHeads]at f5
 rw[weightsA Tryz.underlying53]at hw
 have hw':∀m∈DataW.weightsEach Tryz.prog [5,49,3,3,50,51] [x0.1,x1.1,x2.1,x3.1,x4.1,x5.1],m≤reachBytes:=hw
 simp only[DataW.weightsEach]at hw'
 obtain⟨v0,e0,_,_⟩:=DataW.trod_int Tryz.underlying5 f0
 have e0:c0=.int .u8 v0:=by simpa using e0
 have r0:=repl1 (W:=W) (show Rep (stOf W) W (.int .u8 v0) c0 by rw[e0];exact .int _ _)
 obtain⟨v1,s1,q1,l1⟩:=open_ders (v:=c1) f1 (fun m hm=>hw' m (List.mem_append.2 (.inr (List.mem_append.2 (.inl hm)))))
 have r1:=repl1 s1
 obtain⟨v2,e2,_,_⟩:=DataW.trod_int Tryz.underlying3 f2
 have e2:c2=.int .i64 v2:=by simpa using e2
 have r2:=repl1 (W:=W) (show Rep (stOf W) W (.int .i64 v2) c2 by rw[e2];exact .int _ _)
 obtain⟨v3,e3,_,_⟩:=DataW.trod_int Tryz.underlying3 f3
 have e3:c3=.int .i64 v3:=by simpa using e3
 have r3:=repl1 (W:=W) (show Rep (stOf W) W (.int .i64 v3) c3 by rw[e3];exact .int _ _)
 obtain⟨v4,s4,q4,l4⟩:=open_divs (v:=c4) f4 (fun m hm=>hw' m (List.mem_append.2 (.inr (List.mem_append.2 (.inr (List.mem_append.2 (.inr (List.mem_append.2 (.inr (List.mem_append.2 (.inl hm)))))))))))
 have r4:=repl1 s4
 obtain⟨v5,s5,q5,l5⟩:=open_heads (v:=c5) f5 (fun m hm=>hw' m (List.mem_append.2 (.inr (List.mem_append.2 (.inr (List.mem_append.2 (.inr (List.mem_append.2 (.inr (List.mem_append.2 (.inr (List.mem_append.2 (.inl hm)))))))))))))
 have r5:=repl1 s5
 exact⟨⟨v0,v1,v2,v3,v4,v5⟩,RepL.append (RepL.append (RepL.append (RepL.append (RepL.append (r0) r1) r2) r3) r4) r5,⟨q1,by unfold reachBytes at l1;simp only;omega,q4,by unfold reachBytes at l4;simp only;omega,q5,by unfold reachBytes at l5;simp only;omega⟩⟩
theorem open_nodes {fuel:Nat} {v:Value} {x:DataW H×List MemPlace} (h:DataW.trod enc Tryz.prog W 0 (fun _=>true) true fuel 31 [v]=some x) (hw:∀m∈x.1.weights Tryz.prog 31,m≤reachBytes):∃l:List (NodeR),Rep (stOf W) W (Ab.sl nodeE 6 l .view) v∧(∀y∈l,RawN y)∧l.length*96≤reachBytes:=
 openSl (Q:=fun y=>RawN y) Tryz.underlying31 cNode bNode (by decide) (fun _=>rfl) (fun _=>rfl) (fun _ _ _ h hw=>open_node h hw) h hw
theorem open_hypo {fuel:Nat} {cs:List Value} {x:DataW H×List MemPlace} (h:DataW.trod enc Tryz.prog W 0 (fun _=>true) true fuel 43 cs=some x) (hw:∀m∈x.1.weights Tryz.prog 43,m≤reachBytes):∃y:HypR,RepL (stOf W) W (hypE y) cs∧RawP y.1:=by
 obtain⟨xs,n,rfl,rfl,hl,hx,hf⟩:=DataW.trod_struct Tryz.underlying43 h
 rw[cHypo]at hl
 match cs,hl with
 |[c0,c1],_=>
 have hx2:xs.length=2:=hx
 clear hx
 match xs,hx2 with
 |[x0,x1],_=>
 have f0:DataW.trod enc Tryz.prog W 0 (fun _=>true) true n 41 (([c0,c1].drop 0).take (Tryz.prog.cellsOf 41))=some x0:=hf 0 _ rfl
 rw[cPoly]at f0
 have f1:DataW.trod enc Tryz.prog W 0 (fun _=>true) true n 3 (([c0,c1].drop 1).take (Tryz.prog.cellsOf 3))=some x1:=hf 1 _ rfl
 rw[cI64]at f1
 rw[weightsA Tryz.underlying43]at hw
 have hw':∀m∈DataW.weightsEach Tryz.prog [41,3] [x0.1,x1.1],m≤reachBytes:=hw
 simp only[DataW.weightsEach]at hw'
 obtain⟨v0,s0,q0,l0⟩:=open_polyS (v:=c0) f0 (fun m hm=>hw' m (List.mem_append.2 (.inl hm)))
 have r0:=repl1 s0
 obtain⟨v1,e1,_,_⟩:=DataW.trod_int Tryz.underlying3 f1
 have e1:c1=.int .i64 v1:=by simpa using e1
 have r1:=repl1 (W:=W) (show Rep (stOf W) W (.int .i64 v1) c1 by rw[e1];exact .int _ _)
 exact⟨(v0,v1),RepL.append (r0) r1,q0⟩
theorem open_hypos {fuel:Nat} {v:Value} {x:DataW H×List MemPlace} (h:DataW.trod enc Tryz.prog W 0 (fun _=>true) true fuel 26 [v]=some x) (hw:∀m∈x.1.weights Tryz.prog 26,m≤reachBytes):∃l:List (HypR),Rep (stOf W) W (Ab.sl hypE 2 l .view) v∧(∀y∈l,RawP y.1)∧l.length*32≤reachBytes:=
 openSl (Q:=fun y:HypR=>RawP y.1) Tryz.underlying26 cHypo bHypo (by decide) (fun _=>rfl) (fun _=>rfl) (fun _ _ _ h hw=>open_hypo h hw) h hw
structure LayR where
 pts:Option Addr×Nat×Nat
 at':Option Addr×Nat×Nat
 params:Int
 vars:Int
def layE (y:LayR):List AV:=[concS y.pts,concS y.at',.int .i64 y.params,.int .i64 y.vars]
theorem open_lay {fuel:Nat} {cs:List Value} {x:DataW H×List MemPlace} (h:DataW.trod enc Tryz.prog W 0 (fun _=>true) true fuel 25 cs=some x) (hw:∀m∈x.1.weights Tryz.prog 25,m≤reachBytes):∃y:LayR,RepL (stOf W) W (layE y) cs∧True:=by
 obtain⟨xs,n,rfl,rfl,hl,hx,hf⟩:=DataW.trod_struct Tryz.underlying25 h
 rw[cLay]at hl
 match cs,hl with
 |[c0,c1,c2,c3],_=>
 have hx2:xs.length=4:=hx
 clear hx
 match xs,hx2 with
 |[x0,x1,x2,x3],_=>
 have f0:DataW.trod enc Tryz.prog W 0 (fun _=>true) true n 22 (([c0,c1,c2,c3].drop 0).take (Tryz.prog.cellsOf 22))=some x0:=hf 0 _ rfl
 rw[cStrs]at f0
 have f1:DataW.trod enc Tryz.prog W 0 (fun _=>true) true n 23 (([c0,c1,c2,c3].drop 1).take (Tryz.prog.cellsOf 23))=some x1:=hf 1 _ rfl
 rw[cCoords]at f1
 have f2:DataW.trod enc Tryz.prog W 0 (fun _=>true) true n 3 (([c0,c1,c2,c3].drop 2).take (Tryz.prog.cellsOf 3))=some x2:=hf 2 _ rfl
 rw[cI64]at f2
 have f3:DataW.trod enc Tryz.prog W 0 (fun _=>true) true n 3 (([c0,c1,c2,c3].drop 3).take (Tryz.prog.cellsOf 3))=some x3:=hf 3 _ rfl
 rw[cI64]at f3
 rw[weightsA Tryz.underlying25]at hw
 have hw':∀m∈DataW.weightsEach Tryz.prog [22,23,3,3] [x0.1,x1.1,x2.1,x3.1],m≤reachBytes:=hw
 simp only[DataW.weightsEach]at hw'
 obtain⟨v0,s0⟩:=openConc Tryz.underlying22 (v:=c0) f0
 have r0:=repl1 s0
 obtain⟨v1,s1⟩:=openConc Tryz.underlying23 (v:=c1) f1
 have r1:=repl1 s1
 obtain⟨v2,e2,_,_⟩:=DataW.trod_int Tryz.underlying3 f2
 have e2:c2=.int .i64 v2:=by simpa using e2
 have r2:=repl1 (W:=W) (show Rep (stOf W) W (.int .i64 v2) c2 by rw[e2];exact .int _ _)
 obtain⟨v3,e3,_,_⟩:=DataW.trod_int Tryz.underlying3 f3
 have e3:c3=.int .i64 v3:=by simpa using e3
 have r3:=repl1 (W:=W) (show Rep (stOf W) W (.int .i64 v3) c3 by rw[e3];exact .int _ _)
 exact⟨⟨v0,v1,v2,v3⟩,RepL.append (RepL.append (RepL.append (r0) r1) r2) r3,True.intro⟩
theorem open_sysC {fuel:Nat} {cs:List Value} {x:DataW H×List MemPlace} (h:DataW.trod enc Tryz.prog W 0 (fun _=>true) true fuel 30 cs=some x) (hw:∀m∈x.1.weights Tryz.prog 30,m≤reachBytes):∃y:SysR,RepL (stOf W) W (sysE y) cs∧(∀h∈y.hypos,RawP h.1)∧y.hypos.length≤1000000000000000∧(∀p∈y.shown,RawP p)∧y.shown.length≤5864062014634:=by
 obtain⟨xs,n,rfl,rfl,hl,hx,hf⟩:=DataW.trod_struct Tryz.underlying30 h
 rw[cSys]at hl
 match cs,hl with
 |[c0,c1,c2,c3,c4,c5,c6],_=>
 have hx2:xs.length=4:=hx
 clear hx
 match xs,hx2 with
 |[x0,x1,x2,x3],_=>
 have f0:DataW.trod enc Tryz.prog W 0 (fun _=>true) true n 25 (([c0,c1,c2,c3,c4,c5,c6].drop 0).take (Tryz.prog.cellsOf 25))=some x0:=hf 0 _ rfl
 rw[cLay]at f0
 have f1:DataW.trod enc Tryz.prog W 0 (fun _=>true) true n 26 (([c0,c1,c2,c3,c4,c5,c6].drop 4).take (Tryz.prog.cellsOf 26))=some x1:=hf 1 _ rfl
 rw[cHypos]at f1
 have f2:DataW.trod enc Tryz.prog W 0 (fun _=>true) true n 27 (([c0,c1,c2,c3,c4,c5,c6].drop 5).take (Tryz.prog.cellsOf 27))=some x2:=hf 2 _ rfl
 rw[cPolys]at f2
 have f3:DataW.trod enc Tryz.prog W 0 (fun _=>true) true n 28 (([c0,c1,c2,c3,c4,c5,c6].drop 6).take (Tryz.prog.cellsOf 28))=some x3:=hf 3 _ rfl
 rw[cSides]at f3
 rw[weightsA Tryz.underlying30]at hw
 have hw':∀m∈DataW.weightsEach Tryz.prog [25,26,27,28] [x0.1,x1.1,x2.1,x3.1],m≤reachBytes:=hw
 simp only[DataW.weightsEach]at hw'
 obtain⟨v0,r0,q0⟩:=open_lay f0 (fun m hm=>hw' m (List.mem_append.2 (.inl hm)))
 obtain⟨v1,s1,q1,l1⟩:=open_hypos (v:=c4) f1 (fun m hm=>hw' m (List.mem_append.2 (.inr (List.mem_append.2 (.inl hm)))))
 have r1:=repl1 s1
 obtain⟨v2,s2,q2,l2⟩:=open_polys (v:=c5) f2 (fun m hm=>hw' m (List.mem_append.2 (.inr (List.mem_append.2 (.inr (List.mem_append.2 (.inl hm)))))))
 have r2:=repl1 s2
 obtain⟨v3,s3⟩:=openConc Tryz.underlying28 (v:=c6) f3
 have r3:=repl1 s3
 exact⟨⟨v0.pts,v0.at',v0.params,v0.vars,v1,v2,v3⟩,RepL.append (RepL.append (RepL.append (r0) r1) r2) r3,q1,by unfold reachBytes at l1;simp only;omega,q2,by unfold reachBytes at l2;simp only;omega⟩
theorem open_sys {fuel:Nat} {v:Value} {x:DataW H×List MemPlace} (h:DataW.trod enc Tryz.prog W 0 (fun _=>true) true fuel 30 v.cells.toList=some x) (hw:∀m∈x.1.weights Tryz.prog 30,m≤reachBytes):
  ∃y:SysR,Rep (stOf W) W (.agg (sysE y)) v∧(∀h∈y.hypos,RawP h.1)∧y.hypos.length≤1000000000000000∧(∀p∈y.shown,RawP p)∧y.shown.length≤5864062014634:=by
 obtain⟨y,r,k⟩:=open_sysC h hw
 refine⟨y,?_,k⟩
 have hl:v.cells.toList.length=7:=r.1
 obtain⟨cs,rfl⟩:∃cs,v=.agg ⟨cs⟩:=by
  cases v with
  |agg a=>exact⟨a.toList,rfl⟩
  |_=>exact absurd hl (by show¬(1=7);decide)
 exact .agg _ _ r.1 r.2
end
end Go.Proofs.YtkbdklmdcbmgkaaGreat
