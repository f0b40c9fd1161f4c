/-
  The law ValueTexts returns true for every input, and what is handed in reads as it did: the given card.
-/
import Derived.Test.YtamgilppehibeaaGreatDoorCards
import Derived.Test.YtamgilppehibeaaGreatDoorTie
import Derived.Test.YtamgilppehibeaaGreatDoorCg
import Derived.SevenTiedAt
import Derived.Stop.Joined
import Derived.Test.YtamgilppehibeaaGreatDoorOa
import Derived.Test.YtamgilppehibeaaGreatDoorVtM
set_option maxRecDepth 100000
namespace Go.Proofs.YtamgilppehibeaaGreatDoor
open Go.Ab Go.ChangeShapes Go.WideShapes Go.ChangeAt Go.RowKit
theorem valueTexts_lifted (os:Os) (started:os.Started) (H:Type) (enc:TypeId×Value→H):
  ReturnsInHanded {} Tryz.checked os 3 .any (fun w args=>(Rows.valueTextsSpec.pre enc Tryz.prog Tryz.f3 [] false w args∧laidMetH Tryz.prog Rows.valueTextsRow.laid w)∧sizedMet enc Tryz.prog Tryz.f3 (OpenSpec.ofChange Rows.valueTextsSpec) false w args) (Rows.valueTextsSpec.post enc Tryz.prog Tryz.f3 false true false false):=by
 refine ret_shaped_and (C:=Tryz.checked) (X:=fun w _=>laidMetH Tryz.prog Rows.valueTextsRow.laid w) (fun _ _ _ hh h=>h.of_heap hh) own started (by kernel_rfl) Tryz.func3
  (ChangeSpec.witness_shaped (enc:=enc) (C:=Tryz.checked) (os:=os) (X:=fun w _=>laidMetH Tryz.prog Rows.valueTextsRow.laid w) false (World.laidAll Tryz.prog os Rows.valueTextsRow.laid) #[.slice none 0 0,.string ⟨#[]⟩] 8 (World.laidAll_os _ _ _)
    (World.shaped_of_ZipB (by kernel_rfl) (by kernel_rfl)) (by kernel_rfl) (by kernel_rfl) (by kernel_rfl)
    (by rw[MakeChecks.laidMetH_plain _ _ _ (by kernel_rfl)];exact laidMet_laidAll _ (by kernel_rfl) (by kernel_rfl))) ?_
 intro W base args ds gs before hval0 hW hwt hL hsh
 have hval:∀(j:Nat) t v,Tryz.f3.params[j]?=some t→args[j]?=some v→Value.okWide Tryz.prog W .any base t v:=hval0
 have hW':=hW
 obtain⟨p,q,hA0,hV,rfl,hfz,hnd⟩:=hW
 have hA:DataW.TrodAll enc Tryz.prog W 0 (fun _=>true) true Tryz.f3.params.toList args.toList ds p:=hA0
 rw[Tryz.params3]at hA hval
 rw[MakeChecks.laidMetH_plain _ _ _ (by kernel_rfl)]at hL
 have hgl:Gl [] W:=gl_start hsh hL (.tail _ (.tail _ (.tail _ (.tail _ (.tail _ (.head _)))))) (.tail _ (.tail _ (.tail _ (.tail _ (.head _))))) (.tail _ (.tail _ (.head _)))
 obtain⟨v0,v1,d0,d1,p0,p1,rfl,rfl,rfl,h0,h1⟩:=trodAll_two hA
 obtain⟨rfl,rfl⟩:=trodVars_none hV
 simp only[List.append_nil]at hW'
 have hlt:∀x∈p0++p1,x.block<W.heap.size:=fun x hx=>by simpa using hW'.lt x (by simpa using hx)
 have hc0:=h0
 obtain⟨fu0,hfu0⟩:=hc0
 rw[Tryz.params3]at hwt
 have hwt0:∀m∈d0.weights Tryz.prog 23,m≤reachBytes:=fun m hm=>by
  have hz:=List.all_eq_true.1 hwt m (show m∈DataW.weightsEach Tryz.prog ([23,9]++_) ([d0,d1]++_) from by simp only[List.cons_append,DataW.weightsEach];exact List.mem_append.2 (.inl hm))
  simpa using hz
 obtain⟨a0,len0,cap0,rfl⟩:=okWide_slice Tryz.underlying23 (hval 0 23 v0 rfl rfl)
 have hfu0':DataW.trod enc Tryz.prog W 0 (fun _=>true) true fu0 23 [.slice a0 len0 cap0]=some (d0,p0):=hfu0
 obtain⟨y0,hr0,ok0⟩:=open_polyA hfu0' hwt0
 obtain⟨m1,rfl⟩:=okWide_string Tryz.underlying9 (hval 1 9 v1 rfl rfl)
 clear hA0 hval0
 refine((valueTexts_c y0 m1.data.toList ok0).2 (stOf W) W [.slice a0 len0 cap0,.string m1] (conc_start W) ⟨rfl,fun j v x hv hx=>?_⟩ hgl).mono fun e W' he=>?_
 ·match j,hv,hx with
  |0,hv,hx=>simp at hv hx;subst hv;subst hx;exact hr0
  |1,hv,hx=>simp at hv hx;subst hv;subst hx;exact(.str _)
 cases e with
 |outgrown=>exact he.elim
 |panicked c=>
  obtain⟨st',r,H',k1,k2,rfl,rfl⟩:=he
  exact k2.elim
 |returned c=>
  obtain⟨st',r,H',k1,k2,rfl,rfl⟩:=he
  cases k2
  have bel:=below_of k1
  refine⟨_,rfl,_,_,_,[],p0++p1,[],hW',?_,?_,rfl,bel.frame _,fun h=>by cases h⟩
  ·exact trodAll_mk1 (shut_bool Tryz.underlying4 true)
  ·have mk:=trodAll_mk2 (Below.trod laidOut (by kernel_rfl) (of_decide_eq_true (by kernel_rfl)) h0 bel fun x hx=>hlt x (by simp[hx])) (Below.trod laidOut (by kernel_rfl) (of_decide_eq_true (by kernel_rfl)) h1 bel fun x hx=>hlt x (by simp[hx]))
   exact mk
theorem valueTexts_row:Rows.ValueTextsSaid:=
 OpenClaim.holds_of_wide 3 Tryz.f3 rfl rfl rfl rfl rfl rfl rfl ⟨rfl,rfl,rfl,rfl,rfl⟩ rfl rfl rfl rfl rfl (by kernel_rfl) Tryz.func3 (by kernel_rfl)
  (of_decide_eq_true (by kernel_rfl)) (by unfold Func.isWrapper;rw[if_neg (by decide +kernel)];exact⟨rfl,rfl⟩)
  (fun os started H enc _=>valueTexts_lifted os started H enc)
theorem valueTexts_holds:Rows.ValueTextsCardSaid:=
 Claim7.holds_tied_plain_at .later [] _ true _ _
  valueTexts_row (fun _ h=>by cases h) (by kernel_rfl) (fun _ h=>by cases h) valueTexts_row_tie rfl ⟨rfl,rfl⟩ (by kernel_rfl) rfl
  (fun f fn hf hfn=>by
    obtain rfl:f=3:=Option.some.inj ((show Tryz.prog.funcNamed "porism/porismlaw10.ValueTexts" =some 3 by kernel_rfl).symm.trans hf) |>.symm
    obtain rfl:fn=Tryz.f3:=(Option.some.inj (Tryz.func3.symm.trans hfn)).symm
    exact⟨by kernel_rfl,fun j t ht=>by
     rw[Tryz.params3]at ht
     have hm:t∈[23,9]:=by simpa using Array.mem_of_getElem? ht
     have hall:([23,9].all fun u=> !Tryz.prog.wantsStandIn u)=true:=by kernel_rfl
     exact(show Tryz.prog.wantsStandIn t=false by simpa using List.all_eq_true.1 hall t hm)⟩)
  (by kernel_rfl)
#print axioms valueTexts_holds
end Go.Proofs.YtamgilppehibeaaGreatDoor
