/-
  What is handed in, read as data: numbers, polynomials, rational numbers.
-/
import Derived.Test.YtamgilppehibeaaGreatDoorRw
import Derived.Test.YtamgilppehibeaaGreatDoorCg
import Derived.ProofKit
import Derived.Deep.Slices
import Derived.ChangeArms
set_option maxRecDepth 100000
namespace Go.Proofs.YtamgilppehibeaaGreatDoor
open Go.Ab Go.ChangeShapes Go.WideShapes Go.ChangeAt Go.RowKit Go.Deep
theorem cell_lt2 {W:World} {a:Addr} {v:Value} (h:W.cell? a=some v):a.block<W.heap.size∧a.spot=none:=by
 unfold World.cell? at h
 cases hb:W.heap[a.block]? with
 |none=>rw[hb]at h;cases h
 |some o=>
  refine⟨(Array.getElem?_eq_some_iff.1 hb).1,?_⟩
  rw[hb]at h
  cases o<;>simp at h
  cases hs:a.spot with
  |none=>rfl
  |some s=>simp[hs]at h
section
variable {H:Type} {enc:TypeId×Value→H} {W:World}
theorem weightsA {P:Program} {t:TypeId} {fs:Array Field} {parts:List (DataW H)} (hu:P.underlying t=some (.struct fs)):(DataW.agg parts).weights P t=DataW.weightsEach P (fs.toList.map (·.type)) parts:=by
 unfold DataW.weights
 rw[hu]
theorem weightsS {P:Program} {t e:TypeId} {xs ys:List (DataW H)} (hu:P.underlying t=some (.slice e)):(DataW.slice xs ys).weights P t=(xs.length+ys.length)*P.bytesOf e::(DataW.weightsAll P e xs++DataW.weightsAll P e ys):=by
 unfold DataW.weights
 rw[hu]
theorem weightsM {P:Program} {e:TypeId} {d:DataW H} {k:Nat}:∀{xs:List (DataW H)},d∈xs→k∈d.weights P e→k∈DataW.weightsAll P e xs
 |[],h,_=>absurd h List.not_mem_nil
 |x::xs,h,hk=>by
  unfold DataW.weightsAll
  rcases List.mem_cons.1 h with rfl|h
  ·exact List.mem_append.2 (.inl hk)
  ·exact List.mem_append.2 (.inr (weightsM h hk))
theorem openRows {α:Type} [Inhabited α] {C:α→List Value} {E:α→List AV} {sz:Nat} {Q:α→Prop} (hpos:0<sz) (hC:∀t,Q t→(C t).length=sz) (hE:∀t,(E t).length=sz)
  (hR:∀t,Q t→∀j v,(E t)[j]?=some v→Rep (stOf W) W v ((C t).getD j default)) (hO:∀t,Q t→∀j,j<sz→((C t).getD j default).oneCell'=true) {a:Addr} {len cap:Nat} (hl:len≤cap)
  (hex:∀i,i<len→∃t,W.cells? 0 (a.add (i*sz)) sz=some (C t)∧Q t):∃l:List α,l.length=len∧Rep (stOf W) W (sl E sz l .view) (.slice (some a) len cap)∧∀t∈l,Q t:=by
 obtain⟨q,hq⟩:∃q:Nat→α,∀i,i<len→W.cells? 0 (a.add (i*sz)) sz=some (C (q i))∧Q (q i):=
  ⟨fun i=>if h:i<len then Classical.choose (hex i h) else default,fun i hi=>by simp only[dif_pos hi];exact Classical.choose_spec (hex i hi)⟩
 have hc0:∀i,i<len→∀j,j<sz→W.cell? ((a.add (i*sz)).add j)=(C (q i))[j]?:=fun i hi j hj=>by
  have h1:=(hq i hi).1
  unfold World.cells? at h1
  rw[if_pos (Nat.zero_le _)]at h1
  exact mapM_some_get h1 j j (by simp[hj])
 have hget:∀i,i<len→∀j,j<sz→(C (q i))[j]?=some ((C (q i)).getD j default):=fun i hi j hj=>by
  have hjl:j<(C (q i)).length:=by rw[hC _ (hq i hi).2];exact hj
  rw[List.getD_eq_getElem?_getD,List.getElem?_eq_getElem hjl]
  rfl
 have hbase:len=0∨a=⟨a.block,a.off,none⟩:=by
  by_cases h0:len=0
  ·exact .inl h0
  ·have c0:=hc0 0 (by omega) 0 hpos
   rw[hget 0 (by omega) 0 hpos]at c0
   have:=(cell_lt2 c0).2
   obtain⟨b,off,spot⟩:=a
   simp only[Addr.add,Nat.zero_mul,if_true]at this
   subst this
   exact .inr rfl
 have hsp:∀i,i<len→∀j,j<sz→stOf W a.block (a.off+(i*sz+j))∧W.cell? ⟨a.block,a.off+(i*sz+j),none⟩=some ((C (q i)).getD j default):=by
  intro i hi j hj
  have c0:=hc0 i hi j hj
  rw[hget i hi j hj]at c0
  have ha:=hbase.resolve_left (by omega)
  rw[add_add,ha,addr_add]at c0
  exact⟨(cell_lt2 c0).1,c0⟩
 refine⟨(List.range len).map q,by simp,?_,fun t ht=>?_⟩
 ·show Rep (stOf W) W (.slice sz ((List.range len).map q).length (fun i=>E (((List.range len).map q).getD i default)) .view) _
  rw[List.length_map,List.length_range]
  refine(Sub.el (el:=fun i=>E (q i)) fun i hi=>?_) _ _ _ (.slice sz len (fun i=>E (q i)) .view (some a) cap a.block a.off (fun i j=>(C (q i)).getD j default) hl ?_ (fun _ _=>hE _) (fun i j hi hj=>hsp i hi j hj) (fun i j v hi hv=>hR _ (hq i hi).2 j v hv) trivial (fun i j hi hj=>hO _ (hq i hi).2 j hj))
  ·simp[List.getD,hi]
  ·exact hbase.imp id (congrArg some)
 ·obtain⟨i,hi,rfl⟩:=List.mem_map.1 ht
  exact(hq i (List.mem_range.1 hi)).2
theorem repl_get {vs:List AV} {cs:List Value} (h:RepL (stOf W) W vs cs) {j:Nat} {v:AV} (hv:vs[j]?=some v):Rep (stOf W) W v (cs.getD j default):=by
 have hj:j<vs.length:=by
  rcases Nat.lt_or_ge j vs.length with h1|h1
  ·exact h1
  ·rw[List.getElem?_eq_none h1]at hv;cases hv
 have hjc:j<cs.length:=by rw[h.1];exact hj
 refine h.2 j v _ hv ?_
 rw[List.getD_eq_getElem?_getD,List.getElem?_eq_getElem hjc]
 rfl
theorem repl1 {v:AV} {c:Value} (h:Rep (stOf W) W v c):RepL (stOf W) W [v] [c]:=⟨rfl,fun j x y hx hy=>by
 match j,hx,hy with
 |0,hx,hy=>cases hx;cases hy;exact h
 |j+1,hx,hy=>cases hx⟩
theorem repl_map {α β:Type} [Inhabited α] [Inhabited β] {E:β→List AV} {sz:Nat} {f:α→β} {l:List α} {v:Value} (h:Rep (stOf W) W (sl (fun t=>E (f t)) sz l .view) v):Rep (stOf W) W (sl E sz (l.map f) .view) v:=by
 unfold sl at h ⊢
 rw[List.length_map]
 refine(Sub.el fun i hi=>?_) _ _ _ h
 rw[List.getD_eq_getElem?_getD,List.getElem?_map,List.getD_eq_getElem?_getD,List.getElem?_eq_getElem hi]
 rfl
theorem openSl {α:Type} [Inhabited α] {E:α→List AV} {sz nb:Nat} {Q:α→Prop} {t e:TypeId} (hu:Tryz.prog.underlying t=some (.slice e)) (hce:Tryz.prog.cellsOf e=sz) (hbe:Tryz.prog.bytesOf e=nb) (hpos:0<sz) (hE:∀y,(E y).length=sz) (hone:∀y,(E y).all AV.one=true)
  (hop:∀fuel cs (x:DataW H×List MemPlace),DataW.trod enc Tryz.prog W 0 (fun _=>true) true fuel e cs=some x→(∀m∈x.1.weights Tryz.prog e,m≤reachBytes)→∃y,RepL (stOf W) W (E y) cs∧Q y)
  {fuel:Nat} {v:Value} {x:DataW H×List MemPlace} (h:DataW.trod enc Tryz.prog W 0 (fun _=>true) true fuel t [v]=some x) (hw:∀m∈x.1.weights Tryz.prog t,m≤reachBytes):
  ∃l:List α,Rep (stOf W) W (sl E sz l .view) v∧(∀y∈l,Q y)∧l.length*nb≤reachBytes:=by
 rcases open_slice hu h with⟨hc,_⟩|⟨a,len,cap,m,n,D,Pl,hc,_,hl,_,hm,hx,hall⟩
 ·simp only[List.cons.injEq,and_true]at hc
  rw[hc]
  exact⟨[],Sub.nilsv sz _ _ _ _ .nils,fun t ht=>absurd ht List.not_mem_nil,by simp⟩
 ·simp only[List.cons.injEq,and_true]at hc
  subst hc
  simp only[if_true]at hm
  subst hm
  rw[hce]at hx hall
  subst hx
  rw[weightsS hu]at hw
  have hwi:∀i,i<len→∀k∈(D i).weights Tryz.prog e,k≤reachBytes:=fun i hi k hk=>hw k (List.mem_cons_of_mem _ (List.mem_append.2 (.inl (weightsM (List.mem_map.2 ⟨i,List.mem_range.2 hi,rfl⟩) hk))))
  obtain⟨l,hll,h1,h2⟩:=openRows (α:=α×List Value) (W:=W) (C:=fun t=>t.2) (E:=fun t=>E t.1) (sz:=sz) (Q:=fun t=>RepL (stOf W) W (E t.1) t.2∧Q t.1) (a:=a) (len:=len) (cap:=m) hpos (fun y q=>by rw[q.1.1,hE]) (fun y=>hE y.1)
   (fun t q j v hv=>repl_get q.1 hv)
   (fun t q j hj=>by
     have hjv:j<(E t.1).length:=by rw[hE];exact hj
     have hv:(E t.1)[j]?=some (E t.1)[j]:=List.getElem?_eq_getElem hjv
     exact(one_cells (List.all_eq_true.1 (hone t.1) _ (List.getElem_mem hjv)) (repl_get q.1 hv)).2) hl fun i hi=>by
   obtain⟨cs',h1,h2⟩:=hall i (by omega)
   obtain⟨y,r,k⟩:=hop _ _ _ h2 (hwi i hi)
   exact⟨(y,cs'),h1,r,k⟩
  refine⟨l.map Prod.fst,repl_map h1,fun t ht=>?_,?_⟩
  ·obtain⟨p,hp,rfl⟩:=List.mem_map.1 ht
   exact(h2 p hp).2
  ·have h3:=hw _ (List.mem_cons_self ..)
   rw[List.length_map,List.length_map,List.length_range,List.length_range,hbe]at h3
   rw[List.length_map,hll]
   exact Nat.le_trans (Nat.mul_le_mul_right _ (by omega)) h3
theorem cU32:Tryz.prog.cellsOf 164=1:=by kernel_rfl
theorem cBool:Tryz.prog.cellsOf 4=1:=by kernel_rfl
theorem cI64:Tryz.prog.cellsOf 3=1:=by kernel_rfl
theorem cLims:Tryz.prog.cellsOf 40=1:=by kernel_rfl
theorem cPow:Tryz.prog.cellsOf 103=2:=by kernel_rfl
theorem cMono:Tryz.prog.cellsOf 68=1:=by kernel_rfl
theorem cIntR:Tryz.prog.cellsOf 42=2:=by kernel_rfl
theorem cTerm:Tryz.prog.cellsOf 70=3:=by kernel_rfl
theorem bU32:Tryz.prog.bytesOf 164=4:=by kernel_rfl
theorem bPow:Tryz.prog.bytesOf 103=16:=by kernel_rfl
theorem bTerm:Tryz.prog.bytesOf 70=56:=by kernel_rfl
theorem open_u32 {fuel:Nat} {cs:List Value} {x:DataW H×List MemPlace} (h:DataW.trod enc Tryz.prog W 0 (fun _=>true) true fuel 164 cs=some x):∃y:Nat,RepL (stOf W) W (limE y) cs∧y<B32:=by
 obtain⟨p,e1,_,e3⟩:=DataW.trod_int Tryz.underlying164 h
 have hr:0≤p∧p<4294967296:=by
  have:=e3
  simp only[Lit.wf,Bool.and_eq_true,decide_eq_true_eq]at this
  have h1:IntKind.min .u32=0:=by decide
  have h2:IntKind.max .u32=4294967295:=by decide
  omega
 refine⟨p.toNat,?_,by show p.toNat<4294967296;omega⟩
 have e:cs=[Value.int .u32 (p.toNat:Int)]:=by rw[Int.toNat_of_nonneg hr.1];simpa using e1
 rw[e]
 exact repl1 (.int _ _)
theorem open_lims {fuel:Nat} {v:Value} {x:DataW H×List MemPlace} (h:DataW.trod enc Tryz.prog W 0 (fun _=>true) true fuel 40 [v]=some x) (hw:∀m∈x.1.weights Tryz.prog 40,m≤reachBytes):∃l:List (Nat),Rep (stOf W) W (Ab.sl limE 1 l .view) v∧(∀y∈l,y<B32)∧l.length*4≤reachBytes:=
 openSl (Q:=fun y=>y<B32) Tryz.underlying40 cU32 bU32 (by decide) (fun _=>rfl) (fun _=>rfl) (fun _ _ _ h hw=>open_u32 h) h hw
theorem open_pow {fuel:Nat} {cs:List Value} {x:DataW H×List MemPlace} (h:DataW.trod enc Tryz.prog W 0 (fun _=>true) true fuel 103 cs=some x) (hw:∀m∈x.1.weights Tryz.prog 103,m≤reachBytes):∃y:Pw,RepL (stOf W) W (encP y) cs∧True:=by
 obtain⟨xs,n,rfl,rfl,hl,hx,hf⟩:=DataW.trod_struct Tryz.underlying103 h
 rw[cPow]at hl
 match cs,hl with
 |[c0,c1],_=>
 have hx2:xs.length=2:=hx
 clear hx
 match xs,hx2 with
 |[x0,x1],_=>
 have f0:DataW.trod enc Tryz.prog W 0 (fun _=>true) true n 3 (([c0,c1].drop 0).take (Tryz.prog.cellsOf 3))=some x0:=hf 0 _ rfl
 rw[cI64]at f0
 have f1:DataW.trod enc Tryz.prog W 0 (fun _=>true) true n 3 (([c0,c1].drop 1).take (Tryz.prog.cellsOf 3))=some x1:=hf 1 _ rfl
 rw[cI64]at f1
 rw[weightsA Tryz.underlying103]at hw
 have hw':∀m∈DataW.weightsEach Tryz.prog [3,3] [x0.1,x1.1],m≤reachBytes:=hw
 simp only[DataW.weightsEach]at hw'
 obtain⟨v0,e0,_,_⟩:=DataW.trod_int Tryz.underlying3 f0
 have e0:c0=.int .i64 v0:=by simpa using e0
 have r0:=repl1 (W:=W) (show Rep (stOf W) W (.int .i64 v0) c0 by rw[e0];exact .int _ _)
 obtain⟨v1,e1,_,_⟩:=DataW.trod_int Tryz.underlying3 f1
 have e1:c1=.int .i64 v1:=by simpa using e1
 have r1:=repl1 (W:=W) (show Rep (stOf W) W (.int .i64 v1) c1 by rw[e1];exact .int _ _)
 exact⟨(v0,v1),RepL.append (r0) r1,True.intro⟩
theorem open_pws {fuel:Nat} {v:Value} {x:DataW H×List MemPlace} (h:DataW.trod enc Tryz.prog W 0 (fun _=>true) true fuel 68 [v]=some x) (hw:∀m∈x.1.weights Tryz.prog 68,m≤reachBytes):∃l:List (Pw),Rep (stOf W) W (Ab.sl encP 2 l .view) v∧(∀y∈l,True)∧l.length*16≤reachBytes:=
 openSl (Q:=fun y=>True) Tryz.underlying68 cPow bPow (by decide) (fun _=>rfl) (fun _=>rfl) (fun _ _ _ h hw=>open_pow h hw) h hw
theorem open_intr {fuel:Nat} {cs:List Value} {x:DataW H×List MemPlace} (h:DataW.trod enc Tryz.prog W 0 (fun _=>true) true fuel 42 cs=some x) (hw:∀m∈x.1.weights Tryz.prog 42,m≤reachBytes):∃y:IntR,RepL (stOf W) W (intEs y) cs∧(∀z∈y.mag,z<B32)∧y.mag.length≤1000000000000000:=by
 obtain⟨xs,n,rfl,rfl,hl,hx,hf⟩:=DataW.trod_struct Tryz.underlying42 h
 rw[cIntR]at hl
 match cs,hl with
 |[c0,c1],_=>
 have hx2:xs.length=2:=hx
 clear hx
 match xs,hx2 with
 |[x0,x1],_=>
 have f0:DataW.trod enc Tryz.prog W 0 (fun _=>true) true n 4 (([c0,c1].drop 0).take (Tryz.prog.cellsOf 4))=some x0:=hf 0 _ rfl
 rw[cBool]at f0
 have f1:DataW.trod enc Tryz.prog W 0 (fun _=>true) true n 40 (([c0,c1].drop 1).take (Tryz.prog.cellsOf 40))=some x1:=hf 1 _ rfl
 rw[cLims]at f1
 rw[weightsA Tryz.underlying42]at hw
 have hw':∀m∈DataW.weightsEach Tryz.prog [4,40] [x0.1,x1.1],m≤reachBytes:=hw
 simp only[DataW.weightsEach]at hw'
 obtain⟨v0,e0,_⟩:=DataW.trod_bool Tryz.underlying4 f0
 have e0:c0=.bool v0:=by simpa using e0
 have r0:=repl1 (W:=W) (show Rep (stOf W) W (.bool v0) c0 by rw[e0];exact .bool _)
 obtain⟨v1,s1,q1,l1⟩:=open_lims (v:=c1) f1 (fun m hm=>hw' m (List.mem_append.2 (.inr (List.mem_append.2 (.inl hm)))))
 have r1:=repl1 s1
 exact⟨⟨v0,v1⟩,RepL.append (r0) r1,q1,by unfold reachBytes at l1;simp only;omega⟩
theorem open_term {fuel:Nat} {cs:List Value} {x:DataW H×List MemPlace} (h:DataW.trod enc Tryz.prog W 0 (fun _=>true) true fuel 70 cs=some x) (hw:∀m∈x.1.weights Tryz.prog 70,m≤reachBytes):∃y:TermR,RepL (stOf W) W (termE y) cs∧RawT y:=by
 obtain⟨xs,n,rfl,rfl,hl,hx,hf⟩:=DataW.trod_struct Tryz.underlying70 h
 rw[cTerm]at hl
 match cs,hl with
 |[c0,c1,c2],_=>
 have hx2:xs.length=2:=hx
 clear hx
 match xs,hx2 with
 |[x0,x1],_=>
 have f0:DataW.trod enc Tryz.prog W 0 (fun _=>true) true n 42 (([c0,c1,c2].drop 0).take (Tryz.prog.cellsOf 42))=some x0:=hf 0 _ rfl
 rw[cIntR]at f0
 have f1:DataW.trod enc Tryz.prog W 0 (fun _=>true) true n 68 (([c0,c1,c2].drop 2).take (Tryz.prog.cellsOf 68))=some x1:=hf 1 _ rfl
 rw[cMono]at f1
 rw[weightsA Tryz.underlying70]at hw
 have hw':∀m∈DataW.weightsEach Tryz.prog [42,68] [x0.1,x1.1],m≤reachBytes:=hw
 simp only[DataW.weightsEach]at hw'
 obtain⟨v0,r0,q0⟩:=open_intr f0 (fun m hm=>hw' m (List.mem_append.2 (.inl hm)))
 obtain⟨v1,s1,q1,l1⟩:=open_pws (v:=c2) f1 (fun m hm=>hw' m (List.mem_append.2 (.inr (List.mem_append.2 (.inl hm)))))
 have r1:=repl1 s1
 exact⟨⟨v0,v1⟩,RepL.append (r0) r1,⟨q0.1,q0.2,by unfold reachBytes at l1;simp only;omega⟩⟩
theorem open_poly0 {fuel:Nat} {v:Value} {x:DataW H×List MemPlace} (h:DataW.trod enc Tryz.prog W 0 (fun _=>true) true fuel 23 [v]=some x) (hw:∀m∈x.1.weights Tryz.prog 23,m≤reachBytes):∃l:List (TermR),Rep (stOf W) W (Ab.sl termE 3 l .view) v∧(∀y∈l,RawT y)∧l.length*56≤reachBytes:=
 openSl (Q:=fun y=>RawT y) Tryz.underlying23 cTerm bTerm (by decide) (fun _=>rfl) (fun _=>rfl) (fun _ _ _ h hw=>open_term h hw) h hw
theorem open_polyS {fuel:Nat} {v:Value} {x:DataW H×List MemPlace} (h:DataW.trod enc Tryz.prog W 0 (fun _=>true) true fuel 23 [v]=some x) (hw:∀m∈x.1.weights Tryz.prog 23,m≤reachBytes):∃l:List TermR,Rep (stOf W) W (polyV l) v∧RawP l∧True:=by
 obtain⟨l,r,q,b⟩:=open_poly0 h hw
 exact⟨l,r,⟨by unfold reachBytes at b;omega,q⟩,True.intro⟩
theorem cRatR:Tryz.prog.cellsOf 44=4:=by kernel_rfl
theorem bRatR:Tryz.prog.bytesOf 44=64:=by kernel_rfl
theorem open_ratr {fuel:Nat} {cs:List Value} {x:DataW H×List MemPlace} (h:DataW.trod enc Tryz.prog W 0 (fun _=>true) true fuel 44 cs=some x) (hw:∀m∈x.1.weights Tryz.prog 44,m≤reachBytes):∃y:RatR,RepL (stOf W) W (ratEs y) cs∧RawQ y:=by
 obtain⟨xs,n,rfl,rfl,hl,hx,hf⟩:=DataW.trod_struct Tryz.underlying44 h
 rw[cRatR]at hl
 match cs,hl with
 |[c0,c1,c2,c3],_=>
 have hx2:xs.length=2:=hx
 clear hx
 match xs,hx2 with
 |[x0,x1],_=>
 have f0:DataW.trod enc Tryz.prog W 0 (fun _=>true) true n 42 (([c0,c1,c2,c3].drop 0).take (Tryz.prog.cellsOf 42))=some x0:=hf 0 _ rfl
 rw[cIntR]at f0
 have f1:DataW.trod enc Tryz.prog W 0 (fun _=>true) true n 42 (([c0,c1,c2,c3].drop 2).take (Tryz.prog.cellsOf 42))=some x1:=hf 1 _ rfl
 rw[cIntR]at f1
 rw[weightsA Tryz.underlying44]at hw
 have hw':∀m∈DataW.weightsEach Tryz.prog [42,42] [x0.1,x1.1],m≤reachBytes:=hw
 simp only[DataW.weightsEach]at hw'
 obtain⟨v0,r0,q0⟩:=open_intr f0 (fun m hm=>hw' m (List.mem_append.2 (.inl hm)))
 obtain⟨v1,r1,q1⟩:=open_intr f1 (fun m hm=>hw' m (List.mem_append.2 (.inr (List.mem_append.2 (.inl hm)))))
 exact⟨⟨v0,v1⟩,RepL.append r0 r1,⟨q0.1,q0.2,q1.1,q1.2⟩⟩
theorem open_rats {fuel:Nat} {v:Value} {x:DataW H×List MemPlace} (h:DataW.trod enc Tryz.prog W 0 (fun _=>true) true fuel 38 [v]=some x) (hw:∀m∈x.1.weights Tryz.prog 38,m≤reachBytes):∃l:List RatR,Rep (stOf W) W (Ab.sl ratEs 4 l .view) v∧(∀y∈l,RawQ y)∧l.length*64≤reachBytes:=
 openSl (Q:=fun y=>RawQ y) Tryz.underlying38 cRatR bRatR (by decide) (fun _=>rfl) (fun _=>rfl) (fun _ _ _ h hw=>open_ratr h hw) h hw
theorem open_polyA {fuel:Nat} {v:Value} {x:DataW H×List MemPlace} (h:DataW.trod enc Tryz.prog W 0 (fun _=>true) true fuel 23 [v]=some x) (hw:∀m∈x.1.weights Tryz.prog 23,m≤reachBytes):∃l:List TermR,Rep (stOf W) W (polyV l) v∧RawP l:=
 let ⟨l,r,q,_⟩:=open_polyS h hw
 ⟨l,r,q⟩
theorem open_ratsA {fuel:Nat} {v:Value} {x:DataW H×List MemPlace} (h:DataW.trod enc Tryz.prog W 0 (fun _=>true) true fuel 38 [v]=some x) (hw:∀m∈x.1.weights Tryz.prog 38,m≤reachBytes):∃l:List RatR,Rep (stOf W) W (Ab.sl ratEs 4 l .view) v∧((∀y∈l,RawQ y)∧l.length≤1000000000000000):=by
 obtain⟨l,r,q,b⟩:=open_rats h hw
 exact⟨l,r,q,by unfold reachBytes at b;omega⟩
end
end Go.Proofs.YtamgilppehibeaaGreatDoor
