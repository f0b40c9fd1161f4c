/-
  The law CheckerSound: the given statement.
  What is proved: where a proof is accepted, at each point at which all hypotheses are 0 and no condition is, all that is shown is 0, for every input.
-/
import Derived.Test.YtkbdklmdcbmgkaaGreatOgR
import Derived.Test.YtkbdklmdcbmgkaaGreatVs1
set_option maxRecDepth 100000
namespace Go.Proofs.YtkbdklmdcbmgkaaGreat
open Go.Ab Go.ChangeShapes Go.WideShapes Go.ChangeAt Go.RowKit Go.Deep
theorem ret_sized {H:Type} {enc:TypeId×Value→H} {a:Assume} {C:Checked} {os:Os} {f:FuncId} {fn:Func} {s:ChangeSpec} {conds:List PathCond} {apart fresh handsOn again:Bool}
  (own:ownKnob C.prog.godebug=none) (started:os.Started) (noInit:C.prog.inits.idxOf? f=none) (hfn:C.prog.funcs[f]?=some fn)
  (witness:∃(w:World) (tape:Tape) (i:Input),w.os=os∧(w.forCall tape i).Shaped C.prog∧i.vars=[]∧Input.okWide C.prog (w.forCall tape i) .any w.heap.size f i∧
    s.pre6 enc C.prog fn conds apart (w.forCall tape i).memory i.args∧a.holds C.prog (lone (Frame.enter C.prog f i.args .normal) [] (w.forCall tape i)))
  (contract:∀(W:World) (base:Nat) (args:Array Value) (ds gs:List (DataW H)) (before:List MemPlace),
    (∀(j:Nat) t v,fn.params[j]?=some t→args[j]?=some v→Value.okWide C.prog W .any base t v)→
    DataW.Whole enc C.prog fn.params.toList s.vars apart W args.toList ds gs before→
    (DataW.weightsEach C.prog (fn.params.toList++s.plain.varTypes C.prog) (ds++gs)).all (· ≤reachBytes)=true→
    Calls C.prog f args W fun e W'=>∃v,e=.returned v∧s.post enc C.prog fn apart fresh handsOn again W args v W'):
  ReturnsInHanded a C os f .any (s.pre6 enc C.prog fn conds apart) (s.post enc C.prog fn apart fresh handsOn again):=by
 refine returnsInHanded_of_calls own started noInit witness ?_
 intro w tape i _ _ _ hok hpre _
 obtain⟨_,_,_,fn',hfn',_,_,_,_,hval⟩:=hok
 have e:fn'=fn:=Option.some.inj (hfn'.symm.trans hfn)
 subst e
 obtain⟨⟨ds,gs,before,hw,hc⟩,hz⟩:=hpre
 have hw':=DataW.Whole.of_heap (w':=w.forCall tape i) (by rfl) hw
 refine(contract (w.forCall tape i) w.heap.size i.args ds gs before hval hw' (hz.weights hw)).mono fun e W' ⟨v,he,hp⟩=>?_
 subst he
 exact ChangeSpec.post_blind hp
theorem checkerSound_lifted (os:Os) (started:os.Started) (H:Type) (enc:TypeId×Value→H):
  ReturnsInHanded {} Tryz.checked os 4 .any (Rows.checkerSoundSpec.pre6 enc Tryz.prog Tryz.f4 Rows.checkerSoundRow.domain false) (Rows.checkerSoundSpec.post enc Tryz.prog Tryz.f4 false true false false):=by
 refine ret_sized (C:=Tryz.checked) own started (by kernel_rfl) Tryz.func4
  (ChangeSpec.witness6 (enc:=enc) (C:=Tryz.checked) false ⟨#[],#[.agg #[.slice none 0 0,.slice none 0 0,.int .i64 0,.int .i64 0,.slice none 0 0,.slice none 0 0,.slice none 0 0],.slice none 0 0,.slice none 0 0,.slice none 0 0],[]⟩ 8 (by kernel_rfl) (by kernel_rfl) (by kernel_rfl) (by kernel_rfl)) ?_
 intro W base args ds gs before hval0 hW hsz
 have hval:∀(j:Nat) t v,Tryz.f4.params[j]?=some t→args[j]?=some v→Value.okWide Tryz.prog W .any base t v:=hval0
 have hW':=hW
 obtain⟨p,q,hA0,hV,rfl,hfz,hnd⟩:=hW
 have hA:DataW.TrodAll enc Tryz.prog W 0 (fun _=>true) true Tryz.f4.params.toList args.toList ds p:=hA0
 have hsz0:(DataW.weightsEach Tryz.prog (Tryz.f4.params.toList++Rows.checkerSoundSpec.plain.varTypes Tryz.prog) (ds++gs)).all (· ≤reachBytes)=true:=hsz
 rw[Tryz.params4]at hA hval hsz0
 obtain⟨v0,v1,v2,v3,d0,d1,d2,d3,p0,p1,p2,p3,rfl,rfl,rfl,h0,h1,h2,h3⟩:=trodAll_four hA
 obtain⟨rfl,rfl⟩:=trodVars_none hV
 simp only[List.append_nil]at hW'
 have hlt:∀x∈p0++p1++p2++p3,x.block<W.heap.size:=fun x hx=>by simpa using hW'.lt x (by simpa using hx)
 have hwt:∀m∈DataW.weightsEach Tryz.prog [30,27,31,34] [d0,d1,d2,d3],m≤reachBytes:=fun m hm=>by
  have:=List.all_eq_true.1 hsz0 m hm
  simpa using this
 simp only[DataW.weightsEach]at hwt
 have h0k:=h0
 have h1k:=h1
 have h2k:=h2
 have h3k:=h3
 obtain⟨fuel0,hf0⟩:=h0
 obtain⟨x,hx,y1,y2,y3,y4⟩:=open_sys hf0 fun m hm=>hwt m (List.mem_append.2 (.inl hm))
 obtain⟨a1,len1,cap1,rfl⟩:=okWide_slice Tryz.underlying27 (hval 1 27 v1 rfl rfl)
 obtain⟨fuel1,hf1⟩:=h1
 obtain⟨cs,hcs,z1,z2⟩:=open_polys (v:=.slice a1 len1 cap1) (by simpa [Value.cells]using hf1) fun m hm=>hwt m (List.mem_append.2 (.inr (List.mem_append.2 (.inl hm))))
 obtain⟨a2,len2,cap2,rfl⟩:=okWide_slice Tryz.underlying31 (hval 2 31 v2 rfl rfl)
 obtain⟨fuel2,hf2⟩:=h2
 obtain⟨ns,hns,u1,u2⟩:=open_nodes (v:=.slice a2 len2 cap2) (by simpa [Value.cells]using hf2) fun m hm=>hwt m (List.mem_append.2 (.inr (List.mem_append.2 (.inr (List.mem_append.2 (.inl hm))))))
 obtain⟨a3,len3,cap3,rfl⟩:=okWide_slice Tryz.underlying34 (hval 3 34 v3 rfl rfl)
 obtain⟨fuel3,hf3⟩:=h3
 obtain⟨qs,hqs,w1,w2⟩:=open_rats (v:=.slice a3 len3 cap3) (by simpa [Value.cells]using hf3) fun m hm=>hwt m (List.mem_append.2 (.inr (List.mem_append.2 (.inr (List.mem_append.2 (.inr (List.mem_append.2 (.inl hm))))))))
 clear hA0 hval0
 have hraw:RawS x cs ns:=⟨y1,y2,y3,y4,z1,by unfold reachBytes at z2;omega,u1,by unfold reachBytes at u2;omega⟩
 refine((checkerSound_c x cs ns qs hraw w1 (by unfold reachBytes at w2;omega)).2 (stOf W) W [v0,.slice a1 len1 cap1,.slice a2 len2 cap2,.slice a3 len3 cap3] (conc_start W) ⟨rfl,fun j v x hv hx=>?_⟩ (fun g hg=>absurd hg List.not_mem_nil)).mono fun e W' he=>?_
 ·match j,hv,hx with
  |0,hv,hx=>simp at hv hx;subst hv;subst hx;assumption
  |1,hv,hx=>simp at hv hx;subst hv;subst hx;exact hcs
  |2,hv,hx=>simp at hv hx;subst hv;subst hx;exact hns
  |3,hv,hx=>simp at hv hx;subst hv;subst hx;exact hqs
 cases e with
 |outgrown=>exact he.elim
 |panicked c=>
  obtain⟨st',r,H',k1,k2,rfl,rfl⟩:=he
  exact k2.elim
 |returned c=>
  obtain⟨st',r,H',k1,k2,rfl,rfl⟩:=he
  cases k2
  have bel:=below_of k1
  refine⟨_,rfl,_,_,_,[],p0++p1++p2++p3,[],hW',?_,?_,rfl,bel.frame _,fun h=>by cases h⟩
  ·exact trodAll_mk1 (shut_bool Tryz.underlying4 true)
  ·have mk:=trodAll_mk4 (Below.trod laidOut (by kernel_rfl) (of_decide_eq_true (by kernel_rfl)) h0k bel fun x hx=>hlt x (by simp[hx])) (Below.trod laidOut (by kernel_rfl) (of_decide_eq_true (by kernel_rfl)) h1k bel fun x hx=>hlt x (by simp[hx])) (Below.trod laidOut (by kernel_rfl) (of_decide_eq_true (by kernel_rfl)) h2k bel fun x hx=>hlt x (by simp[hx])) (Below.trod laidOut (by kernel_rfl) (of_decide_eq_true (by kernel_rfl)) h3k bel fun x hx=>hlt x (by simp[hx]))
   simp only[←List.append_assoc]at mk
   exact mk
theorem checkerSound_holds:Rows.CheckerSoundSaid:=
 OpenClaim.holds_of_wide 4 Tryz.f4 rfl rfl rfl rfl rfl rfl rfl ⟨rfl,rfl,rfl,rfl,rfl⟩ rfl rfl rfl rfl rfl (by kernel_rfl) Tryz.func4 (by kernel_rfl)
  (of_decide_eq_true (by kernel_rfl)) (by unfold Func.isWrapper;rw[if_neg (by decide +kernel)];exact⟨rfl,rfl⟩)
  (fun os started H enc _=>checkerSound_lifted os started H enc)
#print axioms checkerSound_holds
end Go.Proofs.YtkbdklmdcbmgkaaGreat
