/-
  The law ValueOne returns true for every input, and what is handed in reads as it did: the given card.
-/
import Derived.Test.YtamgilppehibeaaGreatDoorCards
import Derived.Test.YtamgilppehibeaaGreatDoorTie
import Derived.Test.YtamgilppehibeaaGreatDoorCg
import Derived.SevenTiedAt
import Derived.Stop.Joined
import Derived.Test.YtamgilppehibeaaGreatDoorVkM
set_option maxRecDepth 100000
namespace Go.Proofs.YtamgilppehibeaaGreatDoor
open Go.Ab Go.ChangeShapes Go.WideShapes Go.ChangeAt Go.RowKit
theorem valueOne_lifted (os:Os) (started:os.Started) (H:Type) (enc:TypeId×Value→H):
  ReturnsInHanded {} Tryz.checked os 4 .any (fun w args=>(Rows.valueOneSpec.pre enc Tryz.prog Tryz.f4 [] false w args∧laidMetH Tryz.prog Rows.valueOneRow.laid w)∧sizedMet enc Tryz.prog Tryz.f4 (OpenSpec.ofChange Rows.valueOneSpec) false w args) (Rows.valueOneSpec.post enc Tryz.prog Tryz.f4 false true false false):=by
 refine ret_shaped_and (C:=Tryz.checked) (X:=fun w _=>laidMetH Tryz.prog Rows.valueOneRow.laid w) (fun _ _ _ hh h=>h.of_heap hh) own started (by kernel_rfl) Tryz.func4
  (ChangeSpec.witness_shaped (enc:=enc) (C:=Tryz.checked) (os:=os) (X:=fun w _=>laidMetH Tryz.prog Rows.valueOneRow.laid w) false (World.laidAll Tryz.prog os Rows.valueOneRow.laid) #[.string ⟨#[]⟩] 8 (World.laidAll_os _ _ _)
    (World.shaped_of_ZipB (by kernel_rfl) (by kernel_rfl)) (by kernel_rfl) (by kernel_rfl) (by kernel_rfl)
    (by rw[MakeChecks.laidMetH_plain _ _ _ (by kernel_rfl)];exact laidMet_laidAll _ (by kernel_rfl) (by kernel_rfl))) ?_
 intro W base args ds gs before hval0 hW _ hL hsh
 have hval:∀(j:Nat) t v,Tryz.f4.params[j]?=some t→args[j]?=some v→Value.okWide Tryz.prog W .any base t v:=hval0
 have hW':=hW
 obtain⟨p,q,hA0,hV,rfl,hfz,hnd⟩:=hW
 have hA:DataW.TrodAll enc Tryz.prog W 0 (fun _=>true) true Tryz.f4.params.toList args.toList ds p:=hA0
 rw[Tryz.params4]at hA hval
 rw[MakeChecks.laidMetH_plain _ _ _ (by kernel_rfl)]at hL
 have hgl:Gl [] W:=gl_start hsh hL (.tail _ (.tail _ (.tail _ (.tail _ (.tail _ (.head _)))))) (.tail _ (.tail _ (.tail _ (.tail _ (.head _))))) (.tail _ (.tail _ (.head _)))
 obtain⟨v0,d0,rfl,rfl,h0⟩:=trodAll_one hA
 obtain⟨rfl,rfl⟩:=trodVars_none hV
 simp only[List.append_nil]at hW'
 have hlt:∀x∈p,x.block<W.heap.size:=fun x hx=>by simpa using hW'.lt x (by simpa using hx)
 obtain⟨m0,rfl⟩:=okWide_string Tryz.underlying9 (hval 0 9 v0 rfl rfl)
 clear hA0 hval0
 refine((valueOne_c m0.data.toList).2 (stOf W) W [.string m0] (conc_start W) ⟨rfl,fun j v x hv hx=>?_⟩ hgl).mono fun e W' he=>?_
 ·match j,hv,hx with
  |0,hv,hx=>simp at hv hx;subst hv;subst hx;exact(.str _)
 cases e with
 |outgrown=>exact he.elim
 |panicked c=>
  obtain⟨st',r,H',k1,k2,rfl,rfl⟩:=he
  exact k2.elim
 |returned c=>
  obtain⟨st',r,H',k1,k2,rfl,rfl⟩:=he
  cases k2
  have bel:=below_of k1
  refine⟨_,rfl,_,_,_,[],p,[],hW',?_,?_,rfl,bel.frame _,fun h=>by cases h⟩
  ·exact trodAll_mk1 (shut_bool Tryz.underlying4 true)
  ·have mk:=trodAll_mk1 (Below.trod laidOut (by kernel_rfl) (of_decide_eq_true (by kernel_rfl)) h0 bel fun x hx=>hlt x (by simp[hx]))
   exact mk
theorem valueOne_row:Rows.ValueOneSaid:=
 OpenClaim.holds_of_wide 4 Tryz.f4 rfl rfl rfl rfl rfl rfl rfl ⟨rfl,rfl,rfl,rfl,rfl⟩ rfl rfl rfl rfl rfl (by kernel_rfl) Tryz.func4 (by kernel_rfl)
  (of_decide_eq_true (by kernel_rfl)) (by unfold Func.isWrapper;rw[if_neg (by decide +kernel)];exact⟨rfl,rfl⟩)
  (fun os started H enc _=>valueOne_lifted os started H enc)
theorem valueOne_holds:Rows.ValueOneCardSaid:=
 Claim7.holds_tied_plain_at .later [] _ true _ _
  valueOne_row (fun _ h=>by cases h) (by kernel_rfl) (fun _ h=>by cases h) valueOne_row_tie rfl ⟨rfl,rfl⟩ (by kernel_rfl) rfl
  (fun f fn hf hfn=>by
    obtain rfl:f=4:=Option.some.inj ((show Tryz.prog.funcNamed "porism/porismlaw10.ValueOne" =some 4 by kernel_rfl).symm.trans hf) |>.symm
    obtain rfl:fn=Tryz.f4:=(Option.some.inj (Tryz.func4.symm.trans hfn)).symm
    exact⟨by kernel_rfl,fun j t ht=>by
     rw[Tryz.params4]at ht
     have hm:t∈[9]:=by simpa using Array.mem_of_getElem? ht
     have hall:([9].all fun u=> !Tryz.prog.wantsStandIn u)=true:=by kernel_rfl
     exact(show Tryz.prog.wantsStandIn t=false by simpa using List.all_eq_true.1 hall t hm)⟩)
  (by kernel_rfl)
#print axioms valueOne_holds
end Go.Proofs.YtamgilppehibeaaGreatDoor
