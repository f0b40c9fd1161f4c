/-
  A part of code with labels of its own, in which no jump is made, and which always returns.
-/
import Derived.Test.YtcbdfmmiigpddaaDoorAb32
namespace Go.Ab
section
variable {P:Program} {b:Frame} {a:Act} {k:List Item} {cs:List Frame} {w:World} {F:Fence} {n:Nat} {Q:Exit→Act→World→Prop}
theorem stepS_scope {c:Code}:step P (lone (b.atR a (.code (.scope c)::k)) cs w)=.next (lone (b.atR a (.code c::.inScope c::k)) cs w):=
 step_lone_go (by simp[stepG,stepG.exec,Frame.atR])
theorem stepS_inScope {c:Code}:step P (lone (b.atR a (.inScope c::k)) cs w)=.next (lone (b.atR a k) cs w):=
 step_lone_go (by simp[stepG,stepG.exec,Frame.atR])
theorem wpIn_scopeS {c:Code} (h:c.wpIn F n P (fun e a w=>(∀l,e≠.goto l)∧Q e a w) a w):(Code.scope c).wpIn F n P Q a w:=by
 intro b k cs hro hb hr
 have h0:(lone (b.atR a (.code (.scope c)::k)) cs w).fenced P F:=fenced_calm hb hr rfl
 obtain⟨e,a₁,w₁,⟨hg,hq⟩,harr⟩:=h b (.inScope c::k) cs hro hb hr
 cases e with
 |normal=>exact⟨.normal,a₁,w₁,hq,.head h0 stepS_scope (StepsIn.trans harr (.one (fenced_calm hb hr rfl) stepS_inScope))⟩
 |exit id=>
  have hx:exitTo id (.inScope c::k)=exitTo id k:=by simp[exitTo]
  exact⟨.exit id,a₁,w₁,hq,fun k' hk=>.head h0 stepS_scope (harr.1 k' (by rw[hx];exact hk)),
    fun hr' hk=>let ⟨k₁,h1,h2⟩:=harr.2 hr' (by rw[hx];exact hk);⟨k₁,h1,.head h0 stepS_scope h2⟩⟩
 |goto l=>exact absurd rfl (hg l)
 |ret=>exact⟨_,a₁,w₁,hq,.of_steps (.one h0 stepS_scope) harr⟩
 |panic ch=>exact⟨_,a₁,w₁,hq,.of_steps (.one h0 stepS_scope) harr⟩
 |outgrown=>exact⟨_,a₁,w₁,hq,.of_steps (.one h0 stepS_scope) harr⟩
end
def retS (Q:APost):APost
 |.ret,T,H=>Q .ret T H
 |_,_,_=>False
theorem retS_ret {Q:APost} {T:Tmps} {H:AHeap} (h:Q .ret T H):retS Q .ret T H:=h
theorem awp_scopeS {P:Program} {N:Nat} {T:Tmps} {H:AHeap} {Q:APost} {c:Code} (h:AWP P N c T H (retS Q)):AWP P N (.scope c) T H Q:=by
 intro E st w a r B hc hf hd
 refine wpIn_scopeS (wpIn_mono (h E st w a r B hc hf hd) ?_)
 intro e a' w' hp
 cases e with
 |outgrown=>exact hp.elim
 |_=>
  obtain⟨st',T',H',x,h1,h2,h3,h4,h5⟩:=hp
  cases x<;>first|exact h4.elim|exact h5.elim|exact⟨fun l e=>(by cases e),st',T',H',_,h1,h2,h3,h4,h5⟩
end Go.Ab
