/-
  Statements that are handed in, read as data.
-/
import Derived.Test.YthfglhjdnpoepaaGreatDoorOp
set_option maxRecDepth 100000
namespace Go.Proofs.YthfglhjdnpoepaaGreatDoor
open Go.Ab Go.ChangeShapes Go.WideShapes Go.ChangeAt Go.RowKit Go.Deep
structure StB (y:StI):Prop where
 args:y.args.length≤reachBytes
 new:y.new.w.length≤reachBytes
 word:y.word.w.length≤reachBytes
 argw:∀t∈y.args,t.w.length≤reachBytes
 argn:∀t∈y.args,-9223372036854775808≤t.n∧t.n≤9223372036854775807
def bulkL (l:List StI):Nat:=(l.map fun x=>lenI x+1).sum
theorem rep_one {st:Stab} {w:World} {v:AV} {c:Value} (h:Rep st w v c):(match v with|.int .. =>True|.str _=>True|.slice .. =>True|_=>False)→c.oneCell'=true:=by
 intro hv
 cases h<;>first|exact hv.elim|rfl
section
variable {H:Type} {enc:TypeId×Value→H} {W:World}
theorem bulk_stmts {D:Nat→DataW H} {q:Nat→StI}:∀(ns:List Nat),(∀i∈ns,lenI (q i)+1≤Rows.uptoBulk (D i))→bulkL (ns.map q)≤Rows.uptoBulkAll (ns.map D)
 |[],_=>Nat.zero_le _
 |i::ns,h=>by
  have h1:=h i (List.mem_cons_self ..)
  have h2:=bulk_stmts ns fun j hj=>h j (List.mem_cons_of_mem _ hj)
  simp only[bulkL,List.map_cons,List.sum_cons,Rows.uptoBulkAll]at h2 ⊢
  omega
theorem open_stmts {fuel:Nat} {v:Value} {x:DataW H×List MemPlace} (h:DataW.trod enc Tryz.prog W 0 (fun _=>true) true fuel 65 [v]=some x) (hw:∀m∈x.1.weights Tryz.prog 65,m≤reachBytes):
  ∃l:List StI,Rep (stOf W) W (stmtsI l) v∧l.length≤reachBytes∧(∀y∈l,StB y)∧bulkL l≤Rows.uptoBulk x.1:=by
 rcases open_slice Tryz.underlying65 h with⟨hc,_⟩|⟨a,len,cap,m,n,D,Pl,hc,_,hl,_,hm,hx,hall⟩
 ·simp only[List.cons.injEq,and_true]at hc
  rw[hc]
  exact⟨[],Sub.nilsv 16 _ _ _ _ .nils,Nat.zero_le _,(fun t ht=>absurd ht List.not_mem_nil),Nat.zero_le _⟩
 ·simp only[List.cons.injEq,and_true]at hc
  subst hc
  simp only[if_true]at hm
  subst hm
  rw[cellsStmt]at hx hall
  subst hx
  rw[weights_slice Tryz.underlying65]at hw
  have hwi:∀i,i<len→∀k∈(D i).weights Tryz.prog 117,k≤reachBytes:=fun i hi k hk=>hw k (List.mem_cons_of_mem _ (List.mem_append.2 (.inl (weightsAll_mem (List.mem_map.2 ⟨i,List.mem_range.2 hi,rfl⟩) hk))))
  have hex:∀i,i<len→∃q:StI×List Value,W.cells? 0 (a.add (i*16)) 16=some q.2∧Rep (stOf W) W (.agg (stmtEI q.1)) (.agg ⟨q.2⟩)∧StB q.1∧lenI q.1+1≤Rows.uptoBulk (D i):=fun i hi=>by
   obtain⟨cs',h1,h2⟩:=hall i (by omega)
   obtain⟨y,h3,h4,h5,h6,h7,h8,h9⟩:=open_stmt (v:=.agg ⟨cs'⟩) h2 (hwi i hi)
   exact⟨(y,cs'),h1,h3,⟨h4,h5,h6,h7,h9⟩,h8⟩
  obtain⟨q,hq⟩:∃q:Nat→StI×List Value,∀i,i<len→W.cells? 0 (a.add (i*16)) 16=some (q i).2∧Rep (stOf W) W (.agg (stmtEI (q i).1)) (.agg ⟨(q i).2⟩)∧StB (q i).1∧lenI (q i).1+1≤Rows.uptoBulk (D i):=
   ⟨fun i=>if h:i<len then Classical.choose (hex i h) else(default,[]),fun i hi=>by simp only[dif_pos hi];exact Classical.choose_spec (hex i hi)⟩
  have hcl:∀i,i<len→(q i).2.length=16:=fun i hi=>by
   have:=(hq i hi).2.1
   generalize (q i).2=cs at this
   cases this with
   |agg _ _ hl _=>exact hl
  have hrp:∀i,i<len→∀j u z,(stmtEI (q i).1)[j]?=some u→(q i).2[j]?=some z→Rep (stOf W) W u z:=fun i hi=>by
   have:=(hq i hi).2.1
   generalize (q i).2=cs at this
   cases this with
   |agg _ _ _ h=>exact h
  have hc0:∀i,i<len→∀j,j<16→W.cell? ((a.add (i*16)).add j)=(q i).2[j]?:=fun i hi j hj=>by
   have h1:=(hq i hi).1
   unfold World.cells? at h1
   rw[if_pos (Nat.zero_le _)]at h1
   exact mapM_some_get h1 j j (by simp[hj])
  have hbase:len=0∨a=⟨a.block,a.off,none⟩:=by
   by_cases h0:len=0
   ·exact .inl h0
   ·have c0:=hc0 0 (by omega) 0 (by omega)
    rw[List.getElem?_eq_getElem (by rw[hcl 0 (by omega)];omega)]at c0
    have:=(cell_lt c0).2
    obtain⟨b,off,spot⟩:=a
    simp only[Addr.add,Nat.zero_mul,if_true]at this
    subst this
    exact .inr rfl
  have hsp:∀i,i<len→∀j,j<16→stOf W a.block (a.off+(i*16+j))∧W.cell? ⟨a.block,a.off+(i*16+j),none⟩=some ((q i).2.getD j default):=by
   intro i hi j hj
   have c0:=hc0 i hi j hj
   have hjl:j<(q i).2.length:=by rw[hcl i hi];exact hj
   rw[List.getElem?_eq_getElem hjl]at c0
   have ha:=hbase.resolve_left (by omega)
   rw[add_add,ha,addr_add]at c0
   refine⟨(cell_lt c0).1,?_⟩
   rw[c0,List.getD_eq_getElem?_getD,List.getElem?_eq_getElem hjl]
   rfl
  have hgd:∀i,i<len→∀j,j<16→(q i).2[j]?=some ((q i).2.getD j default):=fun i hi j hj=>by
   have hjl:j<(q i).2.length:=by rw[hcl i hi];exact hj
   rw[List.getD_eq_getElem?_getD,List.getElem?_eq_getElem hjl]
   rfl
  refine⟨(List.range len).map fun i=>(q i).1,?_,?_,?_,?_⟩
  rotate_left 3
  ·have:=bulk_stmts (D:=D) (q:=fun i=>(q i).1) (List.range len) fun i hi=>(hq i (List.mem_range.1 hi)).2.2.2
   simp only[Rows.uptoBulk]
   omega
  ·show Rep (stOf W) W (.slice 16 ((List.range len).map fun i=>(q i).1).length (fun i=>stmtEI (((List.range len).map fun i=>(q i).1).getD i default)) .view) _
   rw[List.length_map,List.length_range]
   refine(Sub.el (el:=fun i=>stmtEI (q i).1) fun i hi=>?_) _ _ _ (.slice 16 len (fun i=>stmtEI (q i).1) .view (some a) _ a.block a.off (fun i j=>(q i).2.getD j default) hl ?_ (fun _ _=>rfl) (fun i j hi hj=>hsp i hi j hj) ?_ trivial ?_)
   ·simp[List.getD,hi]
   ·exact hbase.imp id (congrArg some)
   ·intro i j v hi hv
    have hj:j<16:=(List.getElem?_eq_some_iff.1 hv).1
    exact hrp i hi j v _ hv (hgd i hi j hj)
   ·intro i j hi hj
    have hjl:j<(stmtEI (q i).1).length:=hj
    have:=hrp i hi j _ _ (List.getElem?_eq_getElem hjl) (hgd i hi j hj)
    refine rep_one this ?_
    match j,hj with
    |0,_=>trivial
    |1,_=>trivial
    |2,_=>trivial
    |3,_=>trivial
    |4,_=>trivial
    |5,_=>trivial
    |6,_=>trivial
    |7,_=>trivial
    |8,_=>trivial
    |9,_=>trivial
    |10,_=>trivial
    |11,_=>trivial
    |12,_=>trivial
    |13,_=>trivial
    |14,_=>trivial
    |15,_=>trivial
    |j+16,hj=>exact absurd hj (by omega)
  ·rw[List.length_map,List.length_range]
   have h1:=hw _ (List.mem_cons_self ..)
   rw[List.length_map,List.length_map,List.length_range,List.length_range]at h1
   have hbt:Tryz.prog.bytesOf 117=160:=by kernel_rfl
   rw[hbt]at h1
   omega
  ·intro y hy
   obtain⟨i,hi,rfl⟩:=List.mem_map.1 hy
   exact(hq i (List.mem_range.1 hi)).2.2.1
end
end Go.Proofs.YthfglhjdnpoepaaGreatDoor
