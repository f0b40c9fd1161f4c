/-
  Rows of spots and of whole numbers that are handed in, read as data.
-/
import Derived.Test.YthfglhjdnpoepaaGreatDoorOlM
set_option maxRecDepth 100000
namespace Go.Proofs.YthfglhjdnpoepaaGreatDoor
open Go.Ab Go.ChangeShapes Go.WideShapes Go.ChangeAt Go.RowKit Go.Deep
section
variable {H:Type} {enc:TypeId×Value→H} {W:World}
theorem spE_one (y:SpotR) (j:Nat) (v:AV) (h:(spE y)[j]?=some v):v.one=true:=by
 match j,h with
 |0,h=>cases h;rfl
 |1,h=>cases h;rfl
 |2,h=>cases h;rfl
 |3,h=>cases h;rfl
 |4,h=>cases h;rfl
 |5,h=>cases h;rfl
 |6,h=>cases h;rfl
 |7,h=>cases h;rfl
 |j+8,h=>cases h
theorem repl_get {vs:List AV} {cs:List Value} (h:RepL (stOf W) W vs cs) {j:Nat} {v:AV} (hv:vs[j]?=some v):Rep (stOf W) W v (cs.getD j default):=by
 have hj:j<vs.length:=by
  rcases Nat.lt_or_ge j vs.length with h1|h1
  ·exact h1
  ·rw[List.getElem?_eq_none h1]at hv;cases hv
 have hjc:j<cs.length:=by rw[h.1];exact hj
 refine h.2 j v _ hv ?_
 rw[List.getD_eq_getElem?_getD,List.getElem?_eq_getElem hjc]
 rfl
theorem open_spots {fuel:Nat} {v:Value} {x:DataW H×List MemPlace} (h:DataW.trod enc Tryz.prog W 0 (fun _=>true) true fuel 29 [v]=some x) (hw:∀m∈x.1.weights Tryz.prog 29,m≤reachBytes):
  ∃l:List SpotR,Rep (stOf W) W (spots l) v∧(∀t∈l,SpotOk reachBytes t)∧l.length≤1099511627744:=by
 rcases open_slice Tryz.underlying29 h with⟨hc,_⟩|⟨a,len,cap,m,n,D,Pl,hc,_,hl,_,hm,hx,hall⟩
 ·simp only[List.cons.injEq,and_true]at hc
  rw[hc]
  exact⟨[],Sub.nilsv 8 _ _ _ _ .nils,fun t ht=>absurd ht List.not_mem_nil,Nat.zero_le _⟩
 ·simp only[List.cons.injEq,and_true]at hc
  subst hc
  simp only[if_true]at hm
  subst hm
  rw[cellsSpot]at hx hall
  subst hx
  rw[weightsS Tryz.underlying29]at hw
  have hwi:∀i,i<len→∀k∈(D i).weights Tryz.prog 28,k≤reachBytes:=fun i hi k hk=>hw k (List.mem_cons_of_mem _ (List.mem_append.2 (.inl (weightsM (List.mem_map.2 ⟨i,List.mem_range.2 hi,rfl⟩) hk))))
  obtain⟨l,hll,h1,h2⟩:=openRows (α:=SpotR×List Value) (W:=W) (C:=fun t=>t.2) (E:=fun t=>spE t.1) (sz:=8) (Q:=fun t=>RepL (stOf W) W (spE t.1) t.2∧SpotOk reachBytes t.1) (a:=a) (len:=len) (cap:=m) (by decide) (fun _ q=>q.1.1) (fun _=>rfl)
   (fun t q j v hv=>repl_get q.1 hv)
   (fun t q j hj=>by
     have hjv:j<(spE t.1).length:=hj
     have hv:(spE t.1)[j]?=some (spE t.1)[j]:=List.getElem?_eq_getElem hjv
     exact(one_cells (spE_one t.1 j _ hv) (repl_get q.1 hv)).2) hl fun i hi=>by
   obtain⟨cs',h1,h2⟩:=hall i (by omega)
   obtain⟨y,r,k⟩:=open_spotC h2 (hwi i hi)
   exact⟨(y,cs'),h1,r,k⟩
  refine⟨l.map Prod.fst,?_,fun t ht=>?_,?_⟩
  ·show Rep (stOf W) W (.slice 8 (l.map Prod.fst).length (fun i=>spE ((l.map Prod.fst).getD i default)) .view) _
   rw[List.length_map]
   refine(Sub.el (el:=fun i=>spE (l.getD i default).1) fun i hi=>?_) _ _ _ h1
   simp[List.getD,hi]
  ·obtain⟨z,hz,rfl⟩:=List.mem_map.1 ht
   exact(h2 z hz).2
  ·rw[List.length_map,hll]
   have h3:=hw _ (List.mem_cons_self ..)
   rw[List.length_map,List.length_map,List.length_range,List.length_range]at h3
   have hbt:Tryz.prog.bytesOf 28=128:=by kernel_rfl
   rw[hbt]at h3
   have hrb:reachBytes=140737488351232:=rfl
   omega
end
end Go.Proofs.YthfglhjdnpoepaaGreatDoor
