/-
  How long a statement's words are.
-/
import Derived.Test.YthfglhjdnpoepaaGreatDoorSi
import Derived.Test.YthfglhjdnpoepaaGreatDoorCg
import Derived.Deep.Slices
import Derived.ChangeArms
import Derived.Test.YthfglhjdnpoepaaGreatDoorOlM
set_option maxRecDepth 100000
namespace Go.Proofs.YthfglhjdnpoepaaGreatDoor
def cntL (xs:List (List UInt8)):Nat:=(xs.map fun x=>x.length+1).sum
def lenI (s:StI):Nat:=s.new.w.length+s.word.w.length+cntL (s.args.map (·.w))
end Go.Proofs.YthfglhjdnpoepaaGreatDoor
namespace Go.Proofs.YthfglhjdnpoepaaGreatDoor
open Go.Ab Go.ChangeShapes Go.WideShapes Go.ChangeAt Go.RowKit Go.Deep
theorem cellsTok:Tryz.prog.cellsOf 114=5:=by kernel_rfl
theorem cellsPlace:Tryz.prog.cellsOf 112=2:=by kernel_rfl
theorem cellsStmt:Tryz.prog.cellsOf 117=16:=by kernel_rfl
theorem cellsU8:Tryz.prog.cellsOf 5=1:=by kernel_rfl
theorem cellsStr:Tryz.prog.cellsOf 9=1:=by kernel_rfl
theorem cellsInt:Tryz.prog.cellsOf 3=1:=by kernel_rfl
theorem cellsToks:Tryz.prog.cellsOf 115=1:=by kernel_rfl
theorem cell_lt {W:World} {a:Addr} {v:Value} (h:W.cell? a=some v):a.block<W.heap.size∧a.spot=none:=by
 unfold World.cell? at h
 cases hb:W.heap[a.block]? with
 |none=>rw[hb]at h;cases h
 |some o=>
  refine⟨(Array.getElem?_eq_some_iff.1 hb).1,?_⟩
  rw[hb]at h
  cases o<;>simp at h
  cases hs:a.spot with
  |none=>rfl
  |some s=>simp[hs]at h
section
variable {H:Type} {enc:TypeId×Value→H} {W:World} {base:Nat} {spare:Nat→Bool} {held:Bool}
theorem weights_agg {P:Program} {t:TypeId} {fs:Array Field} {parts:List (DataW H)} (hu:P.underlying t=some (.struct fs)):(DataW.agg parts).weights P t=DataW.weightsEach P (fs.toList.map (·.type)) parts:=by
 unfold DataW.weights
 rw[hu]
theorem weights_slice {P:Program} {t e:TypeId} {xs ys:List (DataW H)} (hu:P.underlying t=some (.slice e)):(DataW.slice xs ys).weights P t=(xs.length+ys.length)*P.bytesOf e::(DataW.weightsAll P e xs++DataW.weightsAll P e ys):=by
 unfold DataW.weights
 rw[hu]
theorem weightsAll_mem {P:Program} {e:TypeId} {d:DataW H} {k:Nat}:∀{xs:List (DataW H)},d∈xs→k∈d.weights P e→k∈DataW.weightsAll P e xs
 |[],h,_=>absurd h List.not_mem_nil
 |x::xs,h,hk=>by
  unfold DataW.weightsAll
  rcases List.mem_cons.1 h with rfl|h
  ·exact List.mem_append.2 (.inl hk)
  ·exact List.mem_append.2 (.inr (weightsAll_mem h hk))
theorem open_place {fuel:Nat} {cs:List Value} {x:DataW H×List MemPlace} (h:DataW.trod enc Tryz.prog W base spare held fuel 112 cs=some x):∃a b:Int,cs=[.int .i64 a,.int .i64 b]:=by
 obtain⟨xs,n,rfl,rfl,hl,hx,hf⟩:=DataW.trod_struct Tryz.underlying112 h
 rw[cellsPlace]at hl
 match cs,hl with
 |[c0,c1],_=>
 have hx2:xs.length=2:=hx
 clear hx
 match xs,hx2 with
 |[x0,x1],_=>
 have f0:DataW.trod enc Tryz.prog W base spare held n 3 (([c0,c1].drop 0).take (Tryz.prog.cellsOf 3))=some x0:=hf 0 _ rfl
 rw[cellsInt]at f0
 have f1:DataW.trod enc Tryz.prog W base spare held n 3 (([c0,c1].drop 1).take (Tryz.prog.cellsOf 3))=some x1:=hf 1 _ rfl
 rw[cellsInt]at f1
 obtain⟨a,e0,_⟩:=DataW.trod_int Tryz.underlying3 f0
 obtain⟨b,e1,_⟩:=DataW.trod_int Tryz.underlying3 f1
 simp at e0 e1
 exact⟨a,b,by rw[e0,e1]⟩
def tokC (t:TokI):List Value:=[.int .u8 t.k,.string ⟨t.w.toArray⟩,.int .i64 t.n,.int .i64 t.ln,.int .i64 t.co]
theorem open_tok {fuel:Nat} {cs:List Value} {x:DataW H×List MemPlace} (h:DataW.trod enc Tryz.prog W base spare held fuel 114 cs=some x) (hw:∀m∈x.1.weights Tryz.prog 114,m≤reachBytes):
  ∃t:TokI,cs=tokC t∧(t.w.length≤reachBytes∧ -9223372036854775808≤t.n∧t.n≤9223372036854775807)∧t.w.length+1≤Rows.uptoBulk x.1:=by
 obtain⟨xs,n,rfl,rfl,hl,hx,hf⟩:=DataW.trod_struct Tryz.underlying114 h
 rw[cellsTok]at hl
 match cs,hl with
 |[c0,c1,c2,c3,c4],_=>
 have hx2:xs.length=4:=hx
 clear hx
 match xs,hx2 with
 |[x0,x1,x2,x3],_=>
 have f0:DataW.trod enc Tryz.prog W base spare held n 5 (([c0,c1,c2,c3,c4].drop 0).take (Tryz.prog.cellsOf 5))=some x0:=hf 0 _ rfl
 rw[cellsU8]at f0
 have f1:DataW.trod enc Tryz.prog W base spare held n 9 (([c0,c1,c2,c3,c4].drop 1).take (Tryz.prog.cellsOf 9))=some x1:=hf 1 _ rfl
 rw[cellsStr]at f1
 have f2:DataW.trod enc Tryz.prog W base spare held n 3 (([c0,c1,c2,c3,c4].drop 2).take (Tryz.prog.cellsOf 3))=some x2:=hf 2 _ rfl
 rw[cellsInt]at f2
 have f3:DataW.trod enc Tryz.prog W base spare held n 112 (([c0,c1,c2,c3,c4].drop 3).take (Tryz.prog.cellsOf 112))=some x3:=hf 3 _ rfl
 rw[cellsPlace]at f3
 obtain⟨a,e0,_⟩:=DataW.trod_int Tryz.underlying5 f0
 obtain⟨s,e1,rfl,_⟩:=DataW.trod_string Tryz.underlying9 f1
 obtain⟨b,e2,_,wf⟩:=DataW.trod_int Tryz.underlying3 f2
 obtain⟨p,q,e3⟩:=open_place f3
 simp at e0 e1 e2 e3
 obtain⟨e3,e4⟩:=e3
 refine⟨⟨a,s.data.toList,b,p,q⟩,by rw[e0,e1,e2,e3,e4];rfl,⟨hw _ ?_,?_⟩,?_⟩
 rotate_left
 ·simp only[Lit.wf,Bool.and_eq_true,decide_eq_true_eq]at wf
  have h1:IntKind.min .i64= -9223372036854775808:=by decide
  have h2:IntKind.max .i64=9223372036854775807:=by decide
  show -9223372036854775808≤b∧b≤9223372036854775807
  omega
 ·show _≤Rows.uptoBulk (.agg [x0.1,.lit (.string s.data.toList),x2.1,x3.1])
  simp only[Rows.uptoBulk,Rows.uptoBulkAll]
  omega
 rw[weights_agg Tryz.underlying114]
 show _∈DataW.weightsEach Tryz.prog [5,9,3,112] [x0.1,.lit (.string s.data.toList),x2.1,x3.1]
 simp only[DataW.weightsEach]
 refine List.mem_append.2 (.inr (List.mem_append.2 (.inl ?_)))
 simp[DataW.weights]
theorem bulk_cnt {D:Nat→DataW H} {q:Nat→TokI}:∀(ns:List Nat),(∀i∈ns,(q i).w.length+1≤Rows.uptoBulk (D i))→cntL ((ns.map q).map (·.w))≤Rows.uptoBulkAll (ns.map D)
 |[],_=>Nat.zero_le _
 |i::ns,h=>by
  have h1:=h i (List.mem_cons_self ..)
  have h2:=bulk_cnt ns fun j hj=>h j (List.mem_cons_of_mem _ hj)
  have e:cntL (((i::ns).map q).map (·.w))=(q i).w.length+1+cntL ((ns.map q).map (·.w)):=rfl
  rw[e]
  simp only[List.map_cons,Rows.uptoBulkAll]
  omega
theorem open_toks {fuel:Nat} {v:Value} {x:DataW H×List MemPlace} (h:DataW.trod enc Tryz.prog W 0 (fun _=>true) true fuel 115 [v]=some x) (hw:∀m∈x.1.weights Tryz.prog 115,m≤reachBytes):
  ∃l:List TokI,Rep (stOf W) W (sl tokEI 5 l .view) v∧l.length≤reachBytes∧(∀t∈l,t.w.length≤reachBytes∧ -9223372036854775808≤t.n∧t.n≤9223372036854775807)∧cntL (l.map (·.w))≤Rows.uptoBulk x.1:=by
 rcases open_slice Tryz.underlying115 h with⟨hc,_⟩|⟨a,len,cap,m,n,D,Pl,hc,_,hl,_,hm,hx,hall⟩
 ·simp only[List.cons.injEq,and_true]at hc
  rw[hc]
  exact⟨[],Sub.nilsv 5 _ _ _ _ .nils,Nat.zero_le _,fun t ht=>absurd ht List.not_mem_nil,Nat.zero_le _⟩
 ·simp only[List.cons.injEq,and_true]at hc
  subst hc
  simp only[if_true]at hm
  subst hm
  rw[cellsTok]at hx hall
  subst hx
  rw[weights_slice Tryz.underlying115]at hw
  have hwi:∀i,i<len→∀k∈(D i).weights Tryz.prog 114,k≤reachBytes:=fun i hi k hk=>hw k (List.mem_cons_of_mem _ (List.mem_append.2 (.inl (weightsAll_mem (List.mem_map.2 ⟨i,List.mem_range.2 hi,rfl⟩) hk))))
  have hex:∀i,i<len→∃t:TokI,W.cells? 0 (a.add (i*5)) 5=some (tokC t)∧(t.w.length≤reachBytes∧ -9223372036854775808≤t.n∧t.n≤9223372036854775807)∧t.w.length+1≤Rows.uptoBulk (D i):=fun i hi=>by
   obtain⟨cs',h1,h2⟩:=hall i (by omega)
   obtain⟨t,rfl,h3⟩:=open_tok h2 (hwi i hi)
   exact⟨t,h1,h3⟩
  obtain⟨q,hq⟩:∃q:Nat→TokI,∀i,i<len→W.cells? 0 (a.add (i*5)) 5=some (tokC (q i))∧((q i).w.length≤reachBytes∧ -9223372036854775808≤(q i).n∧(q i).n≤9223372036854775807)∧(q i).w.length+1≤Rows.uptoBulk (D i):=
   ⟨fun i=>if h:i<len then Classical.choose (hex i h) else default,fun i hi=>by simp only[dif_pos hi];exact Classical.choose_spec (hex i hi)⟩
  have hc0:∀i,i<len→∀j,j<5→W.cell? ((a.add (i*5)).add j)=(tokC (q i))[j]?:=fun i hi j hj=>by
   have h1:=(hq i hi).1
   unfold World.cells? at h1
   rw[if_pos (Nat.zero_le _)]at h1
   exact mapM_some_get h1 j j (by simp[hj])
  have hbase:len=0∨a=⟨a.block,a.off,none⟩:=by
   by_cases h0:len=0
   ·exact .inl h0
   ·have c0:=hc0 0 (by omega) 0 (by omega)
    have:=(cell_lt (v:=.int .u8 (q 0).k) c0).2
    obtain⟨b,off,spot⟩:=a
    simp only[Addr.add,Nat.zero_mul,if_true]at this
    subst this
    exact .inr rfl
  have hsp:∀i,i<len→∀j,j<5→stOf W a.block (a.off+(i*5+j))∧W.cell? ⟨a.block,a.off+(i*5+j),none⟩=some ((tokC (q i)).getD j default):=by
   intro i hi j hj
   have c0:=hc0 i hi j hj
   have hjl:j<(tokC (q i)).length:=hj
   rw[List.getElem?_eq_getElem hjl]at c0
   have ha:=hbase.resolve_left (by omega)
   rw[add_add,ha,addr_add]at c0
   refine⟨(cell_lt c0).1,?_⟩
   rw[c0,List.getD_eq_getElem?_getD,List.getElem?_eq_getElem hjl]
   rfl
  refine⟨(List.range len).map q,?_,?_,?_,?_⟩
  rotate_left 3
  ·have:=bulk_cnt (D:=D) (q:=q) (List.range len) fun i hi=>(hq i (List.mem_range.1 hi)).2.2
   simp only[Rows.uptoBulk]
   omega
  ·show Rep (stOf W) W (.slice 5 ((List.range len).map q).length (fun i=>tokEI (((List.range len).map q).getD i default)) .view) _
   rw[List.length_map,List.length_range]
   refine(Sub.el (el:=fun i=>tokEI (q i)) fun i hi=>?_) _ _ _ (.slice 5 len (fun i=>tokEI (q i)) .view (some a) _ a.block a.off (fun i j=>(tokC (q i)).getD j default) hl ?_ (fun _ _=>rfl) (fun i j hi hj=>hsp i hi j hj) ?_ trivial ?_)
   ·simp[List.getD,hi]
   ·exact hbase.imp id (congrArg some)
   ·intro i j v hi hv
    match j,hv with
    |0,hv=>cases hv;exact .int _ _
    |1,hv=>cases hv;exact .str _
    |2,hv=>cases hv;exact .int _ _
    |3,hv=>cases hv;exact .int _ _
    |4,hv=>cases hv;exact .int _ _
    |j+5,hv=>cases hv
   ·intro i j hi hj
    match j,hj with
    |0,_=>rfl
    |1,_=>rfl
    |2,_=>rfl
    |3,_=>rfl
    |4,_=>rfl
  ·rw[List.length_map,List.length_range]
   have h1:=hw _ (List.mem_cons_self ..)
   rw[List.length_map,List.length_map,List.length_range,List.length_range]at h1
   have hbt:Tryz.prog.bytesOf 114=48:=by kernel_rfl
   rw[hbt]at h1
   omega
  ·intro t ht
   obtain⟨i,hi,rfl⟩:=List.mem_map.1 ht
   exact(hq i (List.mem_range.1 hi)).2.1
theorem open_stmt {fuel:Nat} {v:Value} {x:DataW H×List MemPlace} (h:DataW.trod enc Tryz.prog W 0 (fun _=>true) true fuel 117 v.cells.toList=some x) (hw:∀m∈x.1.weights Tryz.prog 117,m≤reachBytes):
  ∃y:StI,Rep (stOf W) W (.agg (stmtEI y)) v∧y.args.length≤reachBytes∧y.new.w.length≤reachBytes∧y.word.w.length≤reachBytes∧(∀t∈y.args,t.w.length≤reachBytes)∧lenI y+1≤Rows.uptoBulk x.1∧∀t∈y.args,-9223372036854775808≤t.n∧t.n≤9223372036854775807:=by
 obtain⟨xs,n,rfl,rfl,hl,hx,hf⟩:=DataW.trod_struct Tryz.underlying117 h
 rw[cellsStmt]at hl
 obtain⟨cs,rfl⟩:∃cs,v=.agg ⟨cs⟩:=by
  cases v with
  |agg a=>exact⟨a.toList,rfl⟩
  |_=>exact absurd hl (by show¬(1=16);decide)
 have hl2:cs.length=16:=hl
 clear hl h
 match cs,hl2 with
 |[c0,c1,c2,c3,c4,c5,c6,c7,c8,c9,c10,c11,c12,c13,c14,c15],_=>
 have hx2:xs.length=6:=hx
 clear hx
 match xs,hx2 with
 |[x0,x1,x2,x3,x4,x5],_=>
 have f0:DataW.trod enc Tryz.prog W 0 (fun _=>true) true n 5 (([c0,c1,c2,c3,c4,c5,c6,c7,c8,c9,c10,c11,c12,c13,c14,c15].drop 0).take (Tryz.prog.cellsOf 5))=some x0:=hf 0 _ rfl
 rw[cellsU8]at f0
 have f1:DataW.trod enc Tryz.prog W 0 (fun _=>true) true n 114 (([c0,c1,c2,c3,c4,c5,c6,c7,c8,c9,c10,c11,c12,c13,c14,c15].drop 1).take (Tryz.prog.cellsOf 114))=some x1:=hf 1 _ rfl
 rw[cellsTok]at f1
 have f2:DataW.trod enc Tryz.prog W 0 (fun _=>true) true n 114 (([c0,c1,c2,c3,c4,c5,c6,c7,c8,c9,c10,c11,c12,c13,c14,c15].drop 6).take (Tryz.prog.cellsOf 114))=some x2:=hf 2 _ rfl
 rw[cellsTok]at f2
 have f3:DataW.trod enc Tryz.prog W 0 (fun _=>true) true n 115 (([c0,c1,c2,c3,c4,c5,c6,c7,c8,c9,c10,c11,c12,c13,c14,c15].drop 11).take (Tryz.prog.cellsOf 115))=some x3:=hf 3 _ rfl
 rw[cellsToks]at f3
 have f4:DataW.trod enc Tryz.prog W 0 (fun _=>true) true n 112 (([c0,c1,c2,c3,c4,c5,c6,c7,c8,c9,c10,c11,c12,c13,c14,c15].drop 12).take (Tryz.prog.cellsOf 112))=some x4:=hf 4 _ rfl
 rw[cellsPlace]at f4
 have f5:DataW.trod enc Tryz.prog W 0 (fun _=>true) true n 112 (([c0,c1,c2,c3,c4,c5,c6,c7,c8,c9,c10,c11,c12,c13,c14,c15].drop 14).take (Tryz.prog.cellsOf 112))=some x5:=hf 5 _ rfl
 rw[cellsPlace]at f5
 rw[weights_agg Tryz.underlying117]at hw
 have hw':∀m∈DataW.weightsEach Tryz.prog [5,114,114,115,112,112] [x0.1,x1.1,x2.1,x3.1,x4.1,x5.1],m≤reachBytes:=hw
 clear hw
 simp only[DataW.weightsEach]at hw'
 obtain⟨a,e0,_⟩:=DataW.trod_int Tryz.underlying5 f0
 obtain⟨t1,e1,b1,u1⟩:=open_tok f1 fun m hm=>hw' m (List.mem_append.2 (.inr (List.mem_append.2 (.inl hm))))
 obtain⟨t2,e2,b2,u2⟩:=open_tok f2 fun m hm=>hw' m (List.mem_append.2 (.inr (List.mem_append.2 (.inr (List.mem_append.2 (.inl hm))))))
 obtain⟨l,hr,b3,b4,u3⟩:=open_toks (v:=c11) f3 fun m hm=>hw' m (List.mem_append.2 (.inr (List.mem_append.2 (.inr (List.mem_append.2 (.inr (List.mem_append.2 (.inl hm))))))))
 obtain⟨p1,q1,e4⟩:=open_place f4
 obtain⟨p2,q2,e5⟩:=open_place f5
 simp only[tokC]at e1 e2
 simp at e0 e1 e2 e4 e5
 obtain⟨rfl,rfl,rfl,rfl,rfl⟩:=e1
 obtain⟨rfl,rfl,rfl,rfl,rfl⟩:=e2
 obtain⟨rfl,rfl⟩:=e4
 obtain⟨rfl,rfl⟩:=e5
 subst e0
 refine⟨⟨a,t1,t2,l,p1,q1,p2,q2⟩,.agg _ _ rfl fun j u z hv hz=>?_,b3,b1.1,b2.1,fun t ht=>(b4 t ht).1,?_,fun t ht=>(b4 t ht).2⟩
 rotate_left
 ·show _≤Rows.uptoBulk (.agg [x0.1,x1.1,x2.1,x3.1,x4.1,x5.1])
  simp only[Rows.uptoBulk,Rows.uptoBulkAll,lenI]
  omega
 match j,hv,hz with
  |0,hv,hz=>cases hv;cases hz;exact .int _ _
  |1,hv,hz=>cases hv;cases hz;exact .int _ _
  |2,hv,hz=>cases hv;cases hz;exact .str _
  |3,hv,hz=>cases hv;cases hz;exact .int _ _
  |4,hv,hz=>cases hv;cases hz;exact .int _ _
  |5,hv,hz=>cases hv;cases hz;exact .int _ _
  |6,hv,hz=>cases hv;cases hz;exact .int _ _
  |7,hv,hz=>cases hv;cases hz;exact .str _
  |8,hv,hz=>cases hv;cases hz;exact .int _ _
  |9,hv,hz=>cases hv;cases hz;exact .int _ _
  |10,hv,hz=>cases hv;cases hz;exact .int _ _
  |11,hv,hz=>cases hv;cases hz;exact hr
  |12,hv,hz=>cases hv;cases hz;exact .int _ _
  |13,hv,hz=>cases hv;cases hz;exact .int _ _
  |14,hv,hz=>cases hv;cases hz;exact .int _ _
  |15,hv,hz=>cases hv;cases hz;exact .int _ _
  |j+16,hv,hz=>cases hv
end
end Go.Proofs.YthfglhjdnpoepaaGreatDoor
namespace Go.Proofs.YthfglhjdnpoepaaGreatDoor
open Go.Ab Go.ChangeShapes Go.WideShapes Go.ChangeAt Go.RowKit Go.Deep
structure StB (y:StI):Prop where
 args:y.args.length≤reachBytes
 new:y.new.w.length≤reachBytes
 word:y.word.w.length≤reachBytes
 argw:∀t∈y.args,t.w.length≤reachBytes
 argn:∀t∈y.args,-9223372036854775808≤t.n∧t.n≤9223372036854775807
def bulkL (l:List StI):Nat:=(l.map fun x=>lenI x+1).sum
theorem rep_one {st:Stab} {w:World} {v:AV} {c:Value} (h:Rep st w v c):(match v with|.int .. =>True|.str _=>True|.slice .. =>True|_=>False)→c.oneCell'=true:=by
 intro hv
 cases h<;>first|exact hv.elim|rfl
section
variable {H:Type} {enc:TypeId×Value→H} {W:World}
theorem bulk_stmts {D:Nat→DataW H} {q:Nat→StI}:∀(ns:List Nat),(∀i∈ns,lenI (q i)+1≤Rows.uptoBulk (D i))→bulkL (ns.map q)≤Rows.uptoBulkAll (ns.map D)
 |[],_=>Nat.zero_le _
 |i::ns,h=>by
  have h1:=h i (List.mem_cons_self ..)
  have h2:=bulk_stmts ns fun j hj=>h j (List.mem_cons_of_mem _ hj)
  simp only[bulkL,List.map_cons,List.sum_cons,Rows.uptoBulkAll]at h2 ⊢
  omega
theorem open_stmts {fuel:Nat} {v:Value} {x:DataW H×List MemPlace} (h:DataW.trod enc Tryz.prog W 0 (fun _=>true) true fuel 65 [v]=some x) (hw:∀m∈x.1.weights Tryz.prog 65,m≤reachBytes):
  ∃l:List StI,Rep (stOf W) W (stmtsI l) v∧l.length≤reachBytes∧(∀y∈l,StB y)∧bulkL l≤Rows.uptoBulk x.1:=by
 rcases open_slice Tryz.underlying65 h with⟨hc,_⟩|⟨a,len,cap,m,n,D,Pl,hc,_,hl,_,hm,hx,hall⟩
 ·simp only[List.cons.injEq,and_true]at hc
  rw[hc]
  exact⟨[],Sub.nilsv 16 _ _ _ _ .nils,Nat.zero_le _,(fun t ht=>absurd ht List.not_mem_nil),Nat.zero_le _⟩
 ·simp only[List.cons.injEq,and_true]at hc
  subst hc
  simp only[if_true]at hm
  subst hm
  rw[cellsStmt]at hx hall
  subst hx
  rw[weights_slice Tryz.underlying65]at hw
  have hwi:∀i,i<len→∀k∈(D i).weights Tryz.prog 117,k≤reachBytes:=fun i hi k hk=>hw k (List.mem_cons_of_mem _ (List.mem_append.2 (.inl (weightsAll_mem (List.mem_map.2 ⟨i,List.mem_range.2 hi,rfl⟩) hk))))
  have hex:∀i,i<len→∃q:StI×List Value,W.cells? 0 (a.add (i*16)) 16=some q.2∧Rep (stOf W) W (.agg (stmtEI q.1)) (.agg ⟨q.2⟩)∧StB q.1∧lenI q.1+1≤Rows.uptoBulk (D i):=fun i hi=>by
   obtain⟨cs',h1,h2⟩:=hall i (by omega)
   obtain⟨y,h3,h4,h5,h6,h7,h8,h9⟩:=open_stmt (v:=.agg ⟨cs'⟩) h2 (hwi i hi)
   exact⟨(y,cs'),h1,h3,⟨h4,h5,h6,h7,h9⟩,h8⟩
  obtain⟨q,hq⟩:∃q:Nat→StI×List Value,∀i,i<len→W.cells? 0 (a.add (i*16)) 16=some (q i).2∧Rep (stOf W) W (.agg (stmtEI (q i).1)) (.agg ⟨(q i).2⟩)∧StB (q i).1∧lenI (q i).1+1≤Rows.uptoBulk (D i):=
   ⟨fun i=>if h:i<len then Classical.choose (hex i h) else(default,[]),fun i hi=>by simp only[dif_pos hi];exact Classical.choose_spec (hex i hi)⟩
  have hcl:∀i,i<len→(q i).2.length=16:=fun i hi=>by
   have:=(hq i hi).2.1
   generalize (q i).2=cs at this
   cases this with
   |agg _ _ hl _=>exact hl
  have hrp:∀i,i<len→∀j u z,(stmtEI (q i).1)[j]?=some u→(q i).2[j]?=some z→Rep (stOf W) W u z:=fun i hi=>by
   have:=(hq i hi).2.1
   generalize (q i).2=cs at this
   cases this with
   |agg _ _ _ h=>exact h
  have hc0:∀i,i<len→∀j,j<16→W.cell? ((a.add (i*16)).add j)=(q i).2[j]?:=fun i hi j hj=>by
   have h1:=(hq i hi).1
   unfold World.cells? at h1
   rw[if_pos (Nat.zero_le _)]at h1
   exact mapM_some_get h1 j j (by simp[hj])
  have hbase:len=0∨a=⟨a.block,a.off,none⟩:=by
   by_cases h0:len=0
   ·exact .inl h0
   ·have c0:=hc0 0 (by omega) 0 (by omega)
    rw[List.getElem?_eq_getElem (by rw[hcl 0 (by omega)];omega)]at c0
    have:=(cell_lt c0).2
    obtain⟨b,off,spot⟩:=a
    simp only[Addr.add,Nat.zero_mul,if_true]at this
    subst this
    exact .inr rfl
  have hsp:∀i,i<len→∀j,j<16→stOf W a.block (a.off+(i*16+j))∧W.cell? ⟨a.block,a.off+(i*16+j),none⟩=some ((q i).2.getD j default):=by
   intro i hi j hj
   have c0:=hc0 i hi j hj
   have hjl:j<(q i).2.length:=by rw[hcl i hi];exact hj
   rw[List.getElem?_eq_getElem hjl]at c0
   have ha:=hbase.resolve_left (by omega)
   rw[add_add,ha,addr_add]at c0
   refine⟨(cell_lt c0).1,?_⟩
   rw[c0,List.getD_eq_getElem?_getD,List.getElem?_eq_getElem hjl]
   rfl
  have hgd:∀i,i<len→∀j,j<16→(q i).2[j]?=some ((q i).2.getD j default):=fun i hi j hj=>by
   have hjl:j<(q i).2.length:=by rw[hcl i hi];exact hj
   rw[List.getD_eq_getElem?_getD,List.getElem?_eq_getElem hjl]
   rfl
  refine⟨(List.range len).map fun i=>(q i).1,?_,?_,?_,?_⟩
  rotate_left 3
  ·have:=bulk_stmts (D:=D) (q:=fun i=>(q i).1) (List.range len) fun i hi=>(hq i (List.mem_range.1 hi)).2.2.2
   simp only[Rows.uptoBulk]
   omega
  ·show Rep (stOf W) W (.slice 16 ((List.range len).map fun i=>(q i).1).length (fun i=>stmtEI (((List.range len).map fun i=>(q i).1).getD i default)) .view) _
   rw[List.length_map,List.length_range]
   refine(Sub.el (el:=fun i=>stmtEI (q i).1) fun i hi=>?_) _ _ _ (.slice 16 len (fun i=>stmtEI (q i).1) .view (some a) _ a.block a.off (fun i j=>(q i).2.getD j default) hl ?_ (fun _ _=>rfl) (fun i j hi hj=>hsp i hi j hj) ?_ trivial ?_)
   ·simp[List.getD,hi]
   ·exact hbase.imp id (congrArg some)
   ·intro i j v hi hv
    have hj:j<16:=(List.getElem?_eq_some_iff.1 hv).1
    exact hrp i hi j v _ hv (hgd i hi j hj)
   ·intro i j hi hj
    have hjl:j<(stmtEI (q i).1).length:=hj
    have:=hrp i hi j _ _ (List.getElem?_eq_getElem hjl) (hgd i hi j hj)
    refine rep_one this ?_
    match j,hj with
    |0,_=>trivial
    |1,_=>trivial
    |2,_=>trivial
    |3,_=>trivial
    |4,_=>trivial
    |5,_=>trivial
    |6,_=>trivial
    |7,_=>trivial
    |8,_=>trivial
    |9,_=>trivial
    |10,_=>trivial
    |11,_=>trivial
    |12,_=>trivial
    |13,_=>trivial
    |14,_=>trivial
    |15,_=>trivial
    |j+16,hj=>exact absurd hj (by omega)
  ·rw[List.length_map,List.length_range]
   have h1:=hw _ (List.mem_cons_self ..)
   rw[List.length_map,List.length_map,List.length_range,List.length_range]at h1
   have hbt:Tryz.prog.bytesOf 117=160:=by kernel_rfl
   rw[hbt]at h1
   omega
  ·intro y hy
   obtain⟨i,hi,rfl⟩:=List.mem_map.1 hy
   exact(hq i (List.mem_range.1 hi)).2.2.1
end
end Go.Proofs.YthfglhjdnpoepaaGreatDoor
namespace Go.Proofs.YthfglhjdnpoepaaGreatDoor
open Go.Ab Go.ChangeShapes Go.WideShapes Go.ChangeAt Go.RowKit Go.Deep
section
variable {H:Type} {enc:TypeId×Value→H} {W:World}
theorem spE_one (y:SpotR) (j:Nat) (v:AV) (h:(spE y)[j]?=some v):v.one=true:=by
 match j,h with
 |0,h=>cases h;rfl
 |1,h=>cases h;rfl
 |2,h=>cases h;rfl
 |3,h=>cases h;rfl
 |4,h=>cases h;rfl
 |5,h=>cases h;rfl
 |6,h=>cases h;rfl
 |7,h=>cases h;rfl
 |j+8,h=>cases h
theorem repl_get {vs:List AV} {cs:List Value} (h:RepL (stOf W) W vs cs) {j:Nat} {v:AV} (hv:vs[j]?=some v):Rep (stOf W) W v (cs.getD j default):=by
 have hj:j<vs.length:=by
  rcases Nat.lt_or_ge j vs.length with h1|h1
  ·exact h1
  ·rw[List.getElem?_eq_none h1]at hv;cases hv
 have hjc:j<cs.length:=by rw[h.1];exact hj
 refine h.2 j v _ hv ?_
 rw[List.getD_eq_getElem?_getD,List.getElem?_eq_getElem hjc]
 rfl
theorem open_spots {fuel:Nat} {v:Value} {x:DataW H×List MemPlace} (h:DataW.trod enc Tryz.prog W 0 (fun _=>true) true fuel 29 [v]=some x) (hw:∀m∈x.1.weights Tryz.prog 29,m≤reachBytes):
  ∃l:List SpotR,Rep (stOf W) W (spots l) v∧(∀t∈l,SpotOk reachBytes t)∧l.length≤1099511627744:=by
 rcases open_slice Tryz.underlying29 h with⟨hc,_⟩|⟨a,len,cap,m,n,D,Pl,hc,_,hl,_,hm,hx,hall⟩
 ·simp only[List.cons.injEq,and_true]at hc
  rw[hc]
  exact⟨[],Sub.nilsv 8 _ _ _ _ .nils,fun t ht=>absurd ht List.not_mem_nil,Nat.zero_le _⟩
 ·simp only[List.cons.injEq,and_true]at hc
  subst hc
  simp only[if_true]at hm
  subst hm
  rw[cellsSpot]at hx hall
  subst hx
  rw[weightsS Tryz.underlying29]at hw
  have hwi:∀i,i<len→∀k∈(D i).weights Tryz.prog 28,k≤reachBytes:=fun i hi k hk=>hw k (List.mem_cons_of_mem _ (List.mem_append.2 (.inl (weightsM (List.mem_map.2 ⟨i,List.mem_range.2 hi,rfl⟩) hk))))
  obtain⟨l,hll,h1,h2⟩:=openRows (α:=SpotR×List Value) (W:=W) (C:=fun t=>t.2) (E:=fun t=>spE t.1) (sz:=8) (Q:=fun t=>RepL (stOf W) W (spE t.1) t.2∧SpotOk reachBytes t.1) (a:=a) (len:=len) (cap:=m) (by decide) (fun _ q=>q.1.1) (fun _=>rfl)
   (fun t q j v hv=>repl_get q.1 hv)
   (fun t q j hj=>by
     have hjv:j<(spE t.1).length:=hj
     have hv:(spE t.1)[j]?=some (spE t.1)[j]:=List.getElem?_eq_getElem hjv
     exact(one_cells (spE_one t.1 j _ hv) (repl_get q.1 hv)).2) hl fun i hi=>by
   obtain⟨cs',h1,h2⟩:=hall i (by omega)
   obtain⟨y,r,k⟩:=open_spotC h2 (hwi i hi)
   exact⟨(y,cs'),h1,r,k⟩
  refine⟨l.map Prod.fst,?_,fun t ht=>?_,?_⟩
  ·show Rep (stOf W) W (.slice 8 (l.map Prod.fst).length (fun i=>spE ((l.map Prod.fst).getD i default)) .view) _
   rw[List.length_map]
   refine(Sub.el (el:=fun i=>spE (l.getD i default).1) fun i hi=>?_) _ _ _ h1
   simp[List.getD,hi]
  ·obtain⟨z,hz,rfl⟩:=List.mem_map.1 ht
   exact(h2 z hz).2
  ·rw[List.length_map,hll]
   have h3:=hw _ (List.mem_cons_self ..)
   rw[List.length_map,List.length_map,List.length_range,List.length_range]at h3
   have hbt:Tryz.prog.bytesOf 28=128:=by kernel_rfl
   rw[hbt]at h3
   have hrb:reachBytes=140737488351232:=rfl
   omega
end
end Go.Proofs.YthfglhjdnpoepaaGreatDoor
