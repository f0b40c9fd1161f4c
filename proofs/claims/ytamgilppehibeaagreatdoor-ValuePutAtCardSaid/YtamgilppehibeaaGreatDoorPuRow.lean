/-
  The law ValuePutAt returns true for every input, and what is handed in reads as it did: the given card.
-/
import Derived.Test.YtamgilppehibeaaGreatDoorCards
import Derived.Test.YtamgilppehibeaaGreatDoorTie
import Derived.Test.YtamgilppehibeaaGreatDoorCg
import Derived.SevenTiedAt
import Derived.Stop.Joined
import Derived.Carry
import Derived.Test.YtamgilppehibeaaGreatDoorOa
import Derived.Test.YtamgilppehibeaaGreatDoorPuM
set_option maxRecDepth 100000
namespace Go.Proofs.YtamgilppehibeaaGreatDoor
open Go.Ab Go.ChangeShapes Go.WideShapes Go.ChangeAt Go.RowKit
theorem valuePutAt_lifted (os:Os) (started:os.Started) (H:Type) (enc:TypeId×Value→H):
  ReturnsInHanded {} Tryz.checked os 7 .any (fun w args=>(Rows.valuePutAtSpec.pre enc Tryz.prog Tryz.f7 [] false w args∧laidMetH Tryz.prog Rows.valuePutAtRow.laid w)∧sizedMet enc Tryz.prog Tryz.f7 (OpenSpec.ofChange Rows.valuePutAtSpec) false w args) (Rows.valuePutAtSpec.post enc Tryz.prog Tryz.f7 false true false false):=by
 refine ret_shaped_and (C:=Tryz.checked) (X:=fun w _=>laidMetH Tryz.prog Rows.valuePutAtRow.laid w) (fun _ _ _ hh h=>h.of_heap hh) own started (by kernel_rfl) Tryz.func7
  (ChangeSpec.witness_shaped (enc:=enc) (C:=Tryz.checked) (os:=os) (X:=fun w _=>laidMetH Tryz.prog Rows.valuePutAtRow.laid w) false (World.laidAll Tryz.prog os Rows.valuePutAtRow.laid) #[.slice none 0 0,.int .i64 0,.slice none 0 0,.slice none 0 0] 8 (World.laidAll_os _ _ _)
    (World.shaped_of_ZipB (by kernel_rfl) (by kernel_rfl)) (by kernel_rfl) (by kernel_rfl) (by kernel_rfl)
    (by rw[MakeChecks.laidMetH_plain _ _ _ (by kernel_rfl)];exact laidMet_laidAll _ (by kernel_rfl) (by kernel_rfl))) ?_
 intro W base args ds gs before hval0 hW hwt hL hsh
 have hval:∀(j:Nat) t v,Tryz.f7.params[j]?=some t→args[j]?=some v→Value.okWide Tryz.prog W .any base t v:=hval0
 have hW':=hW
 obtain⟨p,q,hA0,hV,rfl,hfz,hnd⟩:=hW
 have hA:DataW.TrodAll enc Tryz.prog W 0 (fun _=>true) true Tryz.f7.params.toList args.toList ds p:=hA0
 rw[Tryz.params7]at hA hval
 rw[MakeChecks.laidMetH_plain _ _ _ (by kernel_rfl)]at hL
 have hgl:Gl [] W:=gl_start hsh hL (.tail _ (.tail _ (.tail _ (.tail _ (.tail _ (.head _)))))) (.tail _ (.tail _ (.tail _ (.tail _ (.head _))))) (.tail _ (.tail _ (.head _)))
 obtain⟨v0,v1,v2,v3,d0,d1,d2,d3,p0,p1,p2,p3,rfl,rfl,rfl,h0,h1,h2,h3⟩:=trodAll_four hA
 obtain⟨rfl,rfl⟩:=trodVars_none hV
 simp only[List.append_nil]at hW'
 have hlt:∀x∈p0++p1++p2++p3,x.block<W.heap.size:=fun x hx=>by simpa using hW'.lt x (by simpa using hx)
 have hc0:=h0
 obtain⟨fu0,hfu0⟩:=hc0
 rw[Tryz.params7]at hwt
 have hwt0:∀m∈d0.weights Tryz.prog 23,m≤reachBytes:=fun m hm=>by
  have hz:=List.all_eq_true.1 hwt m (show m∈DataW.weightsEach Tryz.prog ([23,3,23,38]++_) ([d0,d1,d2,d3]++_) from by simp only[List.cons_append,DataW.weightsEach];exact List.mem_append.2 (.inl hm))
  simpa using hz
 obtain⟨a0,len0,cap0,rfl⟩:=okWide_slice Tryz.underlying23 (hval 0 23 v0 rfl rfl)
 have hfu0':DataW.trod enc Tryz.prog W 0 (fun _=>true) true fu0 23 [.slice a0 len0 cap0]=some (d0,p0):=hfu0
 obtain⟨y0,hr0,ok0⟩:=open_polyA hfu0' hwt0
 obtain⟨m1,rfl⟩:=okWide_int Tryz.underlying3 (hval 1 3 v1 rfl rfl)
 have hc2:=h2
 obtain⟨fu2,hfu2⟩:=hc2
 have hwt2:∀m∈d2.weights Tryz.prog 23,m≤reachBytes:=fun m hm=>by
  have hz:=List.all_eq_true.1 hwt m (show m∈DataW.weightsEach Tryz.prog ([23,3,23,38]++_) ([d0,d1,d2,d3]++_) from by simp only[List.cons_append,DataW.weightsEach];exact List.mem_append.2 (.inr (List.mem_append.2 (.inr (List.mem_append.2 (.inl hm))))))
  simpa using hz
 obtain⟨a2,len2,cap2,rfl⟩:=okWide_slice Tryz.underlying23 (hval 2 23 v2 rfl rfl)
 have hfu2':DataW.trod enc Tryz.prog W 0 (fun _=>true) true fu2 23 [.slice a2 len2 cap2]=some (d2,p2):=hfu2
 obtain⟨y2,hr2,ok2⟩:=open_polyA hfu2' hwt2
 have hc3:=h3
 obtain⟨fu3,hfu3⟩:=hc3
 have hwt3:∀m∈d3.weights Tryz.prog 38,m≤reachBytes:=fun m hm=>by
  have hz:=List.all_eq_true.1 hwt m (show m∈DataW.weightsEach Tryz.prog ([23,3,23,38]++_) ([d0,d1,d2,d3]++_) from by simp only[List.cons_append,DataW.weightsEach];exact List.mem_append.2 (.inr (List.mem_append.2 (.inr (List.mem_append.2 (.inr (List.mem_append.2 (.inl hm))))))))
  simpa using hz
 obtain⟨a3,len3,cap3,rfl⟩:=okWide_slice Tryz.underlying38 (hval 3 38 v3 rfl rfl)
 have hfu3':DataW.trod enc Tryz.prog W 0 (fun _=>true) true fu3 38 [.slice a3 len3 cap3]=some (d3,p3):=hfu3
 obtain⟨y3,hr3,ok3⟩:=open_ratsA hfu3' hwt3
 clear hA0 hval0
 refine((valuePutAt_c y0 m1 y2 y3 ok0 ok2 ok3).2 (stOf W) W [.slice a0 len0 cap0,.int .i64 m1,.slice a2 len2 cap2,.slice a3 len3 cap3] (conc_start W) ⟨rfl,fun j v x hv hx=>?_⟩ hgl).mono fun e W' he=>?_
 ·match j,hv,hx with
  |0,hv,hx=>simp at hv hx;subst hv;subst hx;exact hr0
  |1,hv,hx=>simp at hv hx;subst hv;subst hx;exact(.int _ _)
  |2,hv,hx=>simp at hv hx;subst hv;subst hx;exact hr2
  |3,hv,hx=>simp at hv hx;subst hv;subst hx;exact hr3
 cases e with
 |outgrown=>exact he.elim
 |panicked c=>
  obtain⟨st',r,H',k1,k2,rfl,rfl⟩:=he
  exact k2.elim
 |returned c=>
  obtain⟨st',r,H',k1,k2,rfl,rfl⟩:=he
  cases k2
  have bel:=below_of k1
  refine⟨_,rfl,_,_,_,[],p0++p1++p2++p3,[],hW',?_,?_,rfl,bel.frame _,fun h=>by cases h⟩
  ·exact trodAll_mk1 (shut_bool Tryz.underlying4 true)
  ·have mk:=trodAll_mk4 (Below.trod laidOut (by kernel_rfl) (of_decide_eq_true (by kernel_rfl)) h0 bel fun x hx=>hlt x (by simp[hx])) (Below.trod laidOut (by kernel_rfl) (of_decide_eq_true (by kernel_rfl)) h1 bel fun x hx=>hlt x (by simp[hx])) (Below.trod laidOut (by kernel_rfl) (of_decide_eq_true (by kernel_rfl)) h2 bel fun x hx=>hlt x (by simp[hx])) (Below.trod laidOut (by kernel_rfl) (of_decide_eq_true (by kernel_rfl)) h3 bel fun x hx=>hlt x (by simp[hx]))
   simp only[←List.append_assoc]at mk
   exact mk
theorem valuePutAt_row:Rows.ValuePutAtSaid:=
 OpenClaim.holds_of_wide 7 Tryz.f7 rfl rfl rfl rfl rfl rfl rfl ⟨rfl,rfl,rfl,rfl,rfl⟩ rfl rfl rfl rfl rfl (by kernel_rfl) Tryz.func7 (by kernel_rfl)
  (of_decide_eq_true (by kernel_rfl)) (by unfold Func.isWrapper;rw[if_neg (by decide +kernel)];exact⟨rfl,rfl⟩)
  (fun os started H enc _=>valuePutAt_lifted os started H enc)
theorem valuePutAt_holds:Rows.ValuePutAtCardSaid:=
 Claim7.holds_tied_plain_at .later [] _ true _ _
  valuePutAt_row (fun _ h=>by cases h) (by kernel_rfl) (fun _ h=>by cases h) valuePutAt_row_tie rfl ⟨rfl,rfl⟩ (by kernel_rfl) rfl
  (fun f fn hf hfn=>by
    obtain rfl:f=7:=Option.some.inj ((show Tryz.prog.funcNamed "porism/porismlaw10.ValuePutAt" =some 7 by kernel_rfl).symm.trans hf) |>.symm
    obtain rfl:fn=Tryz.f7:=(Option.some.inj (Tryz.func7.symm.trans hfn)).symm
    exact⟨by kernel_rfl,fun j t ht=>by
     rw[Tryz.params7]at ht
     have hm:t∈[23,3,23,38]:=by simpa using Array.mem_of_getElem? ht
     have hall:([23,3,23,38].all fun u=> !Tryz.prog.wantsStandIn u)=true:=by kernel_rfl
     exact(show Tryz.prog.wantsStandIn t=false by simpa using List.all_eq_true.1 hall t hm)⟩)
  (by kernel_rfl)
#print axioms valuePutAt_holds
end Go.Proofs.YtamgilppehibeaaGreatDoor
