/-
  Numbers and spots that are handed in, read as data.
-/
import Derived.Test.YthfglhjdnpoepaaGreatDoorCg
import Derived.Test.YthfglhjdnpoepaaGreatDoorNaM
import Derived.Deep.Slices
import Derived.ChangeArms
import Derived.Test.YthfglhjdnpoepaaGreatDoorSeM
set_option maxRecDepth 100000
namespace Go.Proofs.YthfglhjdnpoepaaGreatDoor
open Go.Ab Go.ChangeShapes Go.WideShapes Go.ChangeAt Go.RowKit Go.Deep
theorem cell_lt2 {W:World} {a:Addr} {v:Value} (h:W.cell? a=some v):a.block<W.heap.size∧a.spot=none:=by
 unfold World.cell? at h
 cases hb:W.heap[a.block]? with
 |none=>rw[hb]at h;cases h
 |some o=>
  refine⟨(Array.getElem?_eq_some_iff.1 hb).1,?_⟩
  rw[hb]at h
  cases o<;>simp at h
  cases hs:a.spot with
  |none=>rfl
  |some s=>simp[hs]at h
section
variable {H:Type} {enc:TypeId×Value→H} {W:World}
theorem weightsA {P:Program} {t:TypeId} {fs:Array Field} {parts:List (DataW H)} (hu:P.underlying t=some (.struct fs)):(DataW.agg parts).weights P t=DataW.weightsEach P (fs.toList.map (·.type)) parts:=by
 unfold DataW.weights
 rw[hu]
theorem weightsS {P:Program} {t e:TypeId} {xs ys:List (DataW H)} (hu:P.underlying t=some (.slice e)):(DataW.slice xs ys).weights P t=(xs.length+ys.length)*P.bytesOf e::(DataW.weightsAll P e xs++DataW.weightsAll P e ys):=by
 unfold DataW.weights
 rw[hu]
theorem weightsM {P:Program} {e:TypeId} {d:DataW H} {k:Nat}:∀{xs:List (DataW H)},d∈xs→k∈d.weights P e→k∈DataW.weightsAll P e xs
 |[],h,_=>absurd h List.not_mem_nil
 |x::xs,h,hk=>by
  unfold DataW.weightsAll
  rcases List.mem_cons.1 h with rfl|h
  ·exact List.mem_append.2 (.inl hk)
  ·exact List.mem_append.2 (.inr (weightsM h hk))
theorem openRows {α:Type} [Inhabited α] {C:α→List Value} {E:α→List AV} {sz:Nat} {Q:α→Prop} (hpos:0<sz) (hC:∀t,Q t→(C t).length=sz) (hE:∀t,(E t).length=sz)
  (hR:∀t,Q t→∀j v,(E t)[j]?=some v→Rep (stOf W) W v ((C t).getD j default)) (hO:∀t,Q t→∀j,j<sz→((C t).getD j default).oneCell'=true) {a:Addr} {len cap:Nat} (hl:len≤cap)
  (hex:∀i,i<len→∃t,W.cells? 0 (a.add (i*sz)) sz=some (C t)∧Q t):∃l:List α,l.length=len∧Rep (stOf W) W (sl E sz l .view) (.slice (some a) len cap)∧∀t∈l,Q t:=by
 obtain⟨q,hq⟩:∃q:Nat→α,∀i,i<len→W.cells? 0 (a.add (i*sz)) sz=some (C (q i))∧Q (q i):=
  ⟨fun i=>if h:i<len then Classical.choose (hex i h) else default,fun i hi=>by simp only[dif_pos hi];exact Classical.choose_spec (hex i hi)⟩
 have hc0:∀i,i<len→∀j,j<sz→W.cell? ((a.add (i*sz)).add j)=(C (q i))[j]?:=fun i hi j hj=>by
  have h1:=(hq i hi).1
  unfold World.cells? at h1
  rw[if_pos (Nat.zero_le _)]at h1
  exact mapM_some_get h1 j j (by simp[hj])
 have hget:∀i,i<len→∀j,j<sz→(C (q i))[j]?=some ((C (q i)).getD j default):=fun i hi j hj=>by
  have hjl:j<(C (q i)).length:=by rw[hC _ (hq i hi).2];exact hj
  rw[List.getD_eq_getElem?_getD,List.getElem?_eq_getElem hjl]
  rfl
 have hbase:len=0∨a=⟨a.block,a.off,none⟩:=by
  by_cases h0:len=0
  ·exact .inl h0
  ·have c0:=hc0 0 (by omega) 0 hpos
   rw[hget 0 (by omega) 0 hpos]at c0
   have:=(cell_lt2 c0).2
   obtain⟨b,off,spot⟩:=a
   simp only[Addr.add,Nat.zero_mul,if_true]at this
   subst this
   exact .inr rfl
 have hsp:∀i,i<len→∀j,j<sz→stOf W a.block (a.off+(i*sz+j))∧W.cell? ⟨a.block,a.off+(i*sz+j),none⟩=some ((C (q i)).getD j default):=by
  intro i hi j hj
  have c0:=hc0 i hi j hj
  rw[hget i hi j hj]at c0
  have ha:=hbase.resolve_left (by omega)
  rw[add_add,ha,addr_add]at c0
  exact⟨(cell_lt2 c0).1,c0⟩
 refine⟨(List.range len).map q,by simp,?_,fun t ht=>?_⟩
 ·show Rep (stOf W) W (.slice sz ((List.range len).map q).length (fun i=>E (((List.range len).map q).getD i default)) .view) _
  rw[List.length_map,List.length_range]
  refine(Sub.el (el:=fun i=>E (q i)) fun i hi=>?_) _ _ _ (.slice sz len (fun i=>E (q i)) .view (some a) cap a.block a.off (fun i j=>(C (q i)).getD j default) hl ?_ (fun _ _=>hE _) (fun i j hi hj=>hsp i hi j hj) (fun i j v hi hv=>hR _ (hq i hi).2 j v hv) trivial (fun i j hi hj=>hO _ (hq i hi).2 j hj))
  ·simp[List.getD,hi]
  ·exact hbase.imp id (congrArg some)
 ·obtain⟨i,hi,rfl⟩:=List.mem_map.1 ht
  exact(hq i (List.mem_range.1 hi)).2
theorem cellsU32:Tryz.prog.cellsOf 186=1:=by kernel_rfl
theorem cellsLims:Tryz.prog.cellsOf 22=1:=by kernel_rfl
theorem cellsBool:Tryz.prog.cellsOf 4=1:=by kernel_rfl
theorem cellsInt2:Tryz.prog.cellsOf 24=2:=by kernel_rfl
theorem cellsRat:Tryz.prog.cellsOf 26=4:=by kernel_rfl
theorem open_limbs {fuel:Nat} {v:Value} {x:DataW H×List MemPlace} (h:DataW.trod enc Tryz.prog W 0 (fun _=>true) true fuel 22 [v]=some x) (hw:∀m∈x.1.weights Tryz.prog 22,m≤reachBytes):
  ∃l:List Nat,Rep (stOf W) W (sl limE 1 l .view) v∧LimOk reachBytes l:=by
 rcases open_slice Tryz.underlying22 h with⟨hc,_⟩|⟨a,len,cap,m,n,D,Pl,hc,_,hl,_,hm,hx,hall⟩
 ·simp only[List.cons.injEq,and_true]at hc
  rw[hc]
  exact⟨[],Sub.nilsv 1 _ _ _ _ .nils,fun t ht=>absurd ht List.not_mem_nil,Nat.zero_le _⟩
 ·simp only[List.cons.injEq,and_true]at hc
  subst hc
  simp only[if_true]at hm
  subst hm
  rw[cellsU32]at hx hall
  subst hx
  rw[weightsS Tryz.underlying22]at hw
  obtain⟨l,hll,h1,h2⟩:=openRows (W:=W) (C:=fun t:Nat=>[Value.int .u32 t]) (E:=limE) (sz:=1) (Q:=fun t=>t<B32) (a:=a) (len:=len) (cap:=m) (by decide) (fun _ _=>rfl) (fun _=>rfl)
   (fun t _ j v hv=>by
     match j,hv with
     |0,hv=>cases hv;exact .int _ _
     |j+1,hv=>cases hv)
   (fun t _ j hj=>by
     match j,hj with
     |0,_=>rfl
     |j+1,hj=>exact absurd hj (by omega)) hl fun i hi=>by
   obtain⟨cs',h1,h2⟩:=hall i (by omega)
   obtain⟨p,e1,_,e3⟩:=DataW.trod_int Tryz.underlying186 h2
   have hr:0≤p∧p<4294967296:=by
    have:=e3
    simp only[Lit.wf,Bool.and_eq_true,decide_eq_true_eq]at this
    have h1:IntKind.min .u32=0:=by decide
    have h2:IntKind.max .u32=4294967295:=by decide
    omega
   refine⟨p.toNat,by rw[h1,e1,Int.toNat_of_nonneg hr.1],?_⟩
   show p.toNat<4294967296
   omega
  refine⟨l,h1,h2,?_⟩
  have h3:=hw _ (List.mem_cons_self ..)
  rw[List.length_map,List.length_map,List.length_range,List.length_range]at h3
  have hbt:Tryz.prog.bytesOf 186=4:=by kernel_rfl
  rw[hbt]at h3
  omega
theorem open_int {fuel:Nat} {cs:List Value} {x:DataW H×List MemPlace} (h:DataW.trod enc Tryz.prog W 0 (fun _=>true) true fuel 24 cs=some x) (hw:∀m∈x.1.weights Tryz.prog 24,m≤reachBytes):
  ∃y:IntR,RepL (stOf W) W (intEs y) cs∧LimOk reachBytes y.mag:=by
 obtain⟨xs,n,rfl,rfl,hl,hx,hf⟩:=DataW.trod_struct Tryz.underlying24 h
 rw[cellsInt2]at hl
 match cs,hl with
 |[c0,c1],_=>
 have hx2:xs.length=2:=hx
 clear hx
 match xs,hx2 with
 |[x0,x1],_=>
 have f0:DataW.trod enc Tryz.prog W 0 (fun _=>true) true n 4 (([c0,c1].drop 0).take (Tryz.prog.cellsOf 4))=some x0:=hf 0 _ rfl
 rw[cellsBool]at f0
 have f1:DataW.trod enc Tryz.prog W 0 (fun _=>true) true n 22 (([c0,c1].drop 1).take (Tryz.prog.cellsOf 22))=some x1:=hf 1 _ rfl
 rw[cellsLims]at f1
 rw[weightsA Tryz.underlying24]at hw
 have hw':∀m∈DataW.weightsEach Tryz.prog [4,22] [x0.1,x1.1],m≤reachBytes:=hw
 simp only[DataW.weightsEach]at hw'
 obtain⟨b,e0,_⟩:=DataW.trod_bool Tryz.underlying4 f0
 obtain⟨l,r1,ok⟩:=open_limbs (v:=c1) f1 fun m hm=>hw' m (List.mem_append.2 (.inr (List.mem_append.2 (.inl hm))))
 simp at e0
 subst e0
 refine⟨⟨b,l⟩,⟨rfl,fun j v x hv hx=>?_⟩,ok⟩
 match j,hv,hx with
 |0,hv,hx=>cases hv;cases hx;exact .bool _
 |1,hv,hx=>cases hv;cases hx;exact r1
 |j+2,hv,hx=>cases hv
theorem open_rat {fuel:Nat} {cs:List Value} {x:DataW H×List MemPlace} (h:DataW.trod enc Tryz.prog W 0 (fun _=>true) true fuel 26 cs=some x) (hw:∀m∈x.1.weights Tryz.prog 26,m≤reachBytes):
  ∃y:RatR,RepL (stOf W) W (ratEs y) cs∧RatOk reachBytes y:=by
 obtain⟨xs,n,rfl,rfl,hl,hx,hf⟩:=DataW.trod_struct Tryz.underlying26 h
 rw[cellsRat]at hl
 match cs,hl with
 |[c0,c1,c2,c3],_=>
 have hx2:xs.length=2:=hx
 clear hx
 match xs,hx2 with
 |[x0,x1],_=>
 have f0:DataW.trod enc Tryz.prog W 0 (fun _=>true) true n 24 (([c0,c1,c2,c3].drop 0).take (Tryz.prog.cellsOf 24))=some x0:=hf 0 _ rfl
 rw[cellsInt2]at f0
 have f1:DataW.trod enc Tryz.prog W 0 (fun _=>true) true n 24 (([c0,c1,c2,c3].drop 2).take (Tryz.prog.cellsOf 24))=some x1:=hf 1 _ rfl
 rw[cellsInt2]at f1
 rw[weightsA Tryz.underlying26]at hw
 have hw':∀m∈DataW.weightsEach Tryz.prog [24,24] [x0.1,x1.1],m≤reachBytes:=hw
 simp only[DataW.weightsEach]at hw'
 obtain⟨y0,r0,k0⟩:=open_int f0 fun m hm=>hw' m (List.mem_append.2 (.inl hm))
 obtain⟨y1,r1,k1⟩:=open_int f1 fun m hm=>hw' m (List.mem_append.2 (.inr (List.mem_append.2 (.inl hm))))
 exact⟨⟨y0,y1⟩,RepL.append (vs:=intEs y0) (us:=intEs y1) (xs:=[c0,c1]) (ys:=[c2,c3]) r0 r1,k0,k1⟩
end
end Go.Proofs.YthfglhjdnpoepaaGreatDoor
namespace Go.Proofs.YthfglhjdnpoepaaGreatDoor
open Go.Ab Go.ChangeShapes Go.WideShapes Go.ChangeAt Go.RowKit Go.Deep
section
variable {H:Type} {enc:TypeId×Value→H} {W:World}
theorem cellsSpot:Tryz.prog.cellsOf 28=8:=by kernel_rfl
theorem open_spotC {fuel:Nat} {cs:List Value} {x:DataW H×List MemPlace} (h:DataW.trod enc Tryz.prog W 0 (fun _=>true) true fuel 28 cs=some x) (hw:∀m∈x.1.weights Tryz.prog 28,m≤reachBytes):
  ∃y:SpotR,RepL (stOf W) W (spE y) cs∧SpotOk reachBytes y:=by
 obtain⟨xs,n,rfl,rfl,hl,hx,hf⟩:=DataW.trod_struct Tryz.underlying28 h
 rw[cellsSpot]at hl
 match cs,hl with
 |[c0,c1,c2,c3,c4,c5,c6,c7],_=>
 have hx2:xs.length=2:=hx
 clear hx
 match xs,hx2 with
 |[x0,x1],_=>
 have f0:DataW.trod enc Tryz.prog W 0 (fun _=>true) true n 26 (([c0,c1,c2,c3,c4,c5,c6,c7].drop 0).take (Tryz.prog.cellsOf 26))=some x0:=hf 0 _ rfl
 rw[cellsRat]at f0
 have f1:DataW.trod enc Tryz.prog W 0 (fun _=>true) true n 26 (([c0,c1,c2,c3,c4,c5,c6,c7].drop 4).take (Tryz.prog.cellsOf 26))=some x1:=hf 1 _ rfl
 rw[cellsRat]at f1
 rw[weightsA Tryz.underlying28]at hw
 have hw':∀m∈DataW.weightsEach Tryz.prog [26,26] [x0.1,x1.1],m≤reachBytes:=hw
 simp only[DataW.weightsEach]at hw'
 obtain⟨y0,r0,k0⟩:=open_rat f0 fun m hm=>hw' m (List.mem_append.2 (.inl hm))
 obtain⟨y1,r1,k1⟩:=open_rat f1 fun m hm=>hw' m (List.mem_append.2 (.inr (List.mem_append.2 (.inl hm))))
 exact⟨⟨y0,y1⟩,RepL.append (vs:=ratEs y0) (us:=ratEs y1) (xs:=[c0,c1,c2,c3]) (ys:=[c4,c5,c6,c7]) r0 r1,k0,k1⟩
theorem open_spot {fuel:Nat} {v:Value} {x:DataW H×List MemPlace} (h:DataW.trod enc Tryz.prog W 0 (fun _=>true) true fuel 28 v.cells.toList=some x) (hw:∀m∈x.1.weights Tryz.prog 28,m≤reachBytes):
  ∃y:SpotR,Rep (stOf W) W (.agg (spE y)) v∧SpotOk reachBytes y:=by
 obtain⟨y,r,k⟩:=open_spotC h hw
 refine⟨y,?_,k⟩
 have hl:v.cells.toList.length=8:=r.1
 obtain⟨cs,rfl⟩:∃cs,v=.agg ⟨cs⟩:=by
  cases v with
  |agg a=>exact⟨a.toList,rfl⟩
  |_=>exact absurd hl (by show¬(1=8);decide)
 exact .agg _ _ r.1 r.2
end
end Go.Proofs.YthfglhjdnpoepaaGreatDoor
