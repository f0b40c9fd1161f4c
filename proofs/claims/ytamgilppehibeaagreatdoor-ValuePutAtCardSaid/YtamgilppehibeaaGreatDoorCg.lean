/-
  What a row with laid tables gives at the start.
-/
import Derived.Test.YtamgilppehibeaaGreatDoorRows
import Derived.Test.YtamgilppehibeaaGreatDoorAbA
import Derived.ProofKit
import Derived.LaidMore
import Derived.Lay
import Derived.Lib.LaidU8
import Derived.HandedShaped
import Derived.Shelf.Vars
namespace Go.Proofs.YtamgilppehibeaaGreatDoor
open Go.Ab Go.ChangeShapes Go.WideShapes Go.ChangeAt Go.RowKit
theorem own:ownKnob Tryz.prog.godebug=none:=by kernel_rfl
theorem laidOut:laidOutB Tryz.prog=true:=by kernel_rfl
def stOf (W:World):Stab:=fun b _=>b<W.heap.size
theorem conc_start (W:World):Conc (Env0.of W (stOf W) []) (stOf W) [] W:=
 ⟨rfl,rfl,rfl,Nat.le_refl _,fun _ _ _=>rfl,fun _ _ _=>rfl,fun _ _ h=>h,fun _ _ h=>.inl h,fun _ _ h=>h,fun k ⟨_,h,_⟩=>(by cases h),fun k ⟨_,h,_⟩=>(by cases h),fun _ h=>(by cases h),.nil,fun _ _ h k=>k h⟩
theorem below_of {W W':World} {st':Stab} {H':AHeap} (h:Conc (Env0.of W (stOf W) []) st' H' W'):Below W.heap.size W W':=
 ⟨h.os,h.tape,h.output,h.size,fun k hk=>h.old k hk fun⟨_,h,_⟩=>(by cases h)⟩
theorem ret_shaped_and {H:Type} {enc:TypeId×Value→H} {a:Assume} {C:Checked} {os:Os} {f:FuncId} {fn:Func} {s:ChangeSpec} {conds:List PathCond} {apart fresh handsOn again:Bool} {X:World→Array Value→Prop}
  (hX:∀(w w':World) (args:Array Value),w.heap=w'.heap→X w args→X w' args)
  (own:ownKnob C.prog.godebug=none) (started:os.Started) (noInit:C.prog.inits.idxOf? f=none) (hfn:C.prog.funcs[f]?=some fn)
  (witness:∃(w:World) (tape:Tape) (i:Input),w.os=os∧(w.forCall tape i).Shaped C.prog∧i.vars=[]∧Input.okWide C.prog (w.forCall tape i) .any w.heap.size f i∧
    ((s.pre enc C.prog fn conds apart (w.forCall tape i).memory i.args∧X (w.forCall tape i).memory i.args)∧sizedMet enc C.prog fn (OpenSpec.ofChange s) apart (w.forCall tape i).memory i.args)∧a.holds C.prog (lone (Frame.enter C.prog f i.args .normal) [] (w.forCall tape i)))
  (contract:∀(W:World) (base:Nat) (args:Array Value) (ds gs:List (DataW H)) (before:List MemPlace),
    (∀(j:Nat) t v,fn.params[j]?=some t→args[j]?=some v→Value.okWide C.prog W .any base t v)→
    DataW.Whole enc C.prog fn.params.toList s.vars apart W args.toList ds gs before→
    (DataW.weightsEach C.prog (fn.params.toList++s.plain.varTypes C.prog) (ds++gs)).all (· ≤reachBytes)=true→X W args→W.ShapedOpen C.prog→
    Calls C.prog f args W fun e W'=>∃v,e=.returned v∧s.post enc C.prog fn apart fresh handsOn again W args v W'):
  ReturnsInHanded a C os f .any (fun w args=>(s.pre enc C.prog fn conds apart w args∧X w args)∧sizedMet enc C.prog fn (OpenSpec.ofChange s) apart w args) (s.post enc C.prog fn apart fresh handsOn again):=by
 refine returnsInHanded_of_calls own started noInit witness ?_
 intro w tape i _ hsh _ hok hpre _
 obtain⟨_,_,_,fn',hfn',_,_,_,_,hval⟩:=hok
 have e:fn'=fn:=Option.some.inj (hfn'.symm.trans hfn)
 subst e
 obtain⟨⟨⟨ds,gs,before,hw,_⟩,hx⟩,hz⟩:=hpre
 have hw':=DataW.Whole.of_heap (w':=w.forCall tape i) (by rfl) hw
 refine(contract (w.forCall tape i) w.heap.size i.args ds gs before hval hw' (hz.weights hw) (hX _ _ _ (by rfl) hx) hsh).mono fun e W' ⟨v,he,hp⟩=>?_
 subst he
 exact ChangeSpec.post_blind hp
theorem row_of_var {P:Program} {W:World} {n:String} {cs:Array Value} {g:Nat} (hg:P.globalNamed n=some g) (h:W.var? P n=some cs):∃t f,W.heap[g]?=some (.cells cs t f):=by
 unfold World.var? at h
 rw[hg]at h
 simp only[Option.bind_some]at h
 split at h
 ·rename_i c t f hw
  cases h
  exact⟨t,f,hw⟩
 ·cases h
theorem row_iface {W:World} {n:String} {nm:String} {d:DataW Unit} {g t:Nat} {ms:Array (String×TypeId)} (hg:Tryz.prog.globalNamed n=some g) (ht:(Tryz.prog.globals[g]?).map (·.type)=some t) (hu:Tryz.prog.underlying t=some (.interface ms))
  (h:Lib.VarReads Tryz.prog W n (.iface nm d)):∃c t f,W.heap[g]?=some (.cells c t f)∧∃t v,c= #[.iface t v]:=by
 obtain⟨g',t',cs,fuel,p,hg',ht',hv,hd⟩:=h
 obtain rfl:=Option.some.inj (hg.symm.trans hg')
 obtain rfl:=Option.some.inj (ht.symm.trans ht')
 obtain⟨tt,f,hw⟩:=row_of_var hg hv
 obtain⟨_,u,v,hc,_,_⟩:=iface_of_trod hu hd
 exact⟨cs,tt,f,hw,u,v,by cases cs;simp_all⟩
theorem row_tab {W:World} {n:String} {k:IntKind} {zs:List Int} {g t e m:Nat} (hg:Tryz.prog.globalNamed n=some g) (ht:(Tryz.prog.globals[g]?).map (·.type)=some t) (hu:Tryz.prog.underlying t=some (.array m e)) (he:Tryz.prog.underlying e=some (.int k)) (hce:Tryz.prog.cellsOf e=1) (hct:Tryz.prog.cellsOf t=m)
  (h:Lib.VarReads Tryz.prog W n (Lib.tabData k zs)):∃c t f,W.heap[g]?=some (.cells c t f)∧c=(zs.map fun z=>Value.int k z).toArray:=by
 obtain⟨g',t',cs,fuel,p,hg',ht',hv,hd⟩:=h
 obtain rfl:=Option.some.inj (hg.symm.trans hg')
 obtain rfl:=Option.some.inj (ht.symm.trans ht')
 obtain⟨tt,f,hw⟩:=row_of_var hg hv
 have hc:=Lib.cells_of_tab hu he hce hct hd
 exact⟨cs,tt,f,hw,by cases cs;simp_all⟩
theorem row_int {W:World} {g t:Nat} {zero:Array Value} {k:IntKind} (h:W.ShapedOpen Tryz.prog) (hg:g<Tryz.prog.globals.size)
  (h0:((begin Tryz.prog (fun _ _=>0) default).world.heap[g]?).bind Obj.row?=some (zero,t)) (hz:zero.size=1)
  (hb:Tryz.prog.buildable t=true) (hc:Tryz.prog.cellTypes Tryz.prog.depth t=some [t]) (hu:Tryz.prog.underlying t=some (.int k)):∃c t f,W.heap[g]?=some (.cells c t f)∧∃m,c= #[.int k m]:=by
 obtain⟨m,hm⟩:=cell_of_shapedOpen_int h hg h0 hz hb hc hu
 obtain⟨cs,hh,hs,_⟩:=h.1 g zero t hg h0
 rw[hz]at hs
 refine⟨cs,_,_,hh,m,?_⟩
 match cs,hs with
 |⟨[x]⟩,_=>simpa [World.cell?,hh]using hm
theorem gl_start {W:World} {l:List (String×DataW Unit)} (hsh:W.ShapedOpen Tryz.prog) (hL:laidMet Tryz.prog l W) (h1:("strconv.ErrSyntax",Rows.laid_strconv_ErrSyntax)∈l) (h2:("strconv.ErrRange",Rows.laid_strconv_ErrRange)∈l)
  (h3:("internal/strconv.uint64pow10",Rows.laid_internal_strconv_uint64pow10)∈l):Gl [] W:=by
 have hno:∀b,¬AHeap.owns [] b:=fun b ⟨_,h,_⟩=>(by cases h)
 have a1:=row_iface (g:=4) (by kernel_rfl) (by kernel_rfl) Tryz.underlying81 (Lib.laidMet.reads hL h1)
 have a2:=row_iface (g:=5) (by kernel_rfl) (by kernel_rfl) Tryz.underlying81 (Lib.laidMet.reads hL h2)
 have a3:=row_tab (g:=0) (t:=258) (e:=160) (m:=20) (k:=.u64) (zs:=Lib.pow10Tab) (by kernel_rfl) (by kernel_rfl) (by kernel_rfl) (by kernel_rfl) (by kernel_rfl) (by kernel_rfl) (Lib.laidMet.reads hL h3)
 have a4:=row_int (g:=1) (zero:= #[.int .i64 0]) (t:=3) hsh (of_decide_eq_true (by kernel_rfl)) (by kernel_rfl) rfl (by kernel_rfl) (by kernel_rfl) Tryz.underlying3
 intro g hg
 refine⟨hno _,?_⟩
 simp only[globs,List.mem_cons,List.mem_nil_iff,or_false]at hg
 rcases hg with rfl|rfl|rfl|rfl
 ·exact a4
 ·exact a1
 ·exact a2
 ·exact a3
end Go.Proofs.YtamgilppehibeaaGreatDoor
