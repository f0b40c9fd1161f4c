/-
  An append of a slice of another named type.
-/
import Derived.Test.YthfglhjdnpoepaaGreatDoorAb34
namespace Go.Ab
section
variable {P:Program} {N:Nat} {ty:TypeId→Option TyI} {T:Tmps} {H:AHeap} {Q:APost} {o:Oper} {l0:List Oper} {LD:LDs} {W:Bool} {l:List (Nat×Oper)} {nn:Nat} {F:Operand→Option AV}
theorem append_types {w:World} {t t2 tt e e2:TypeId} {a a2:Option Addr} {k cap k2 cap2:Nat} (hd:P.underlying t=some (.slice e)) (hd2:P.underlying t2=some (.slice e2)):
  (Builtin.append_ #[t,t2] tt #[.slice a k cap,.slice a2 k2 cap2]).run P w=(Builtin.append_ #[t,t] tt #[.slice a k cap,.slice a2 k2 cap2]).run P w:=by
 unfold Builtin.append_
 simp[run_underlying hd,run_underlying hd2]
theorem hard_append_full2 (hty:TyOk P ty) {s x:Operand} {t t2 e e2:TypeId} {ti ti2 ei:TyI} {vs vx:AV} {sz n m:Nat} {el el2:Nat→List AV} {ow:Own} {V:Option Addr→Nat→AV}
  (ho:o.op=.call {callee:=.builtin .append,args:= #[s,x],argTypes:= #[t,t2]}) (hti:ty t=some ti) (hk:ti.k=.slice e) (hti2:ty t2=some ti2) (hk2:ti2.k=.slice e2) (hei:ty e=some ei) (hsz:ei.size=sz) (hpos:Nat.ble 1 sz=true)
  (hs:F s=some vs) (hx:F x=some vx) (hvs:asSl sz vs=some (n,el,.full)) (hvx:asSl sz vx=some (m,el2,ow)) (hb:(n+m)*ei.bytes≤140737488355328∧n+m≤9223372036854775807)
  (hV:∀a cap,Sub (.slice sz (n+m) (glue n el el2) (.own a cap)) (V a cap)):
  AHard P o F H fun r H'=>∃a cap,r=.ret (V a cap)∧H'=.tok a cap (n+m) sz e::H:=by
 intro E st w act r next Q hc hF _ hr _
 obtain⟨⟨d,hd,hkf⟩,-⟩:=hty t ti hti
 rw[hk]at hkf
 obtain rfl:d=.slice e:=hkf
 obtain⟨⟨d2,hd2,hkf2⟩,-⟩:=hty t2 ti2 hti2
 rw[hk2]at hkf2
 obtain rfl:d2=.slice e2:=hkf2
 obtain⟨-,inf,z,hinf,hisz,hby,hz,hzs,hzr,-⟩:=hty e ei hei
 have hp:0<sz:=Nat.le_of_ble_eq_true hpos
 obtain⟨a,cap,b,off,C,hsv,hn,hok,h1⟩:=row_of (asSl_rep hvs (hF s vs hs)) hp
 obtain⟨a2,cap2,b2,off2,C2,hxv,hn2,-,h2⟩:=row_of (asSl_rep hvx (hF x vx hx)) hp
 have hcapn:cap=n:=hok
 have hexec:∀v' w',(Builtin.append_ #[t,t] o.type #[.slice a n cap,.slice a2 m cap2]).run P w=.ok v' w'→(execOp act.eval o).run P w=.ok (.value v') w':=by
  intro v' w' h
  simp[execOp,ho,resolve,invoke,builtin,hsv,hxv,append_types hd hd2,h]
 by_cases hm:m=0
 ·subst hm
  have hrun:=run_append_zero (P:=P) (w:=w) (tt:=o.type) (a:=a) (a2:=a2) (n:=n) (cap:=cap) (cap2:=cap2) hd hinf hn
  have hg:=Conc.grow (st':=st) (w':=w) (Hn:=[.tok a cap (n+0) sz e]) hc rfl rfl rfl (Nat.le_refl _) (fun _ _=>rfl) (fun _ _ h=>h) (fun _ _ h=>.inl h)
   (fun e1 he1=>by simp at he1;subst he1;exact .inl (by omega)) (fun k ⟨e1,he1,hk⟩=>by simp at he1;subst he1;exact absurd hk.1 (by omega)) (by simp)
  refine upon_value_ok (hexec _ _ hrun) (hr st w (V a cap) _ _ hg.1 hg.2 ?_ ⟨a,cap,rfl,rfl⟩)
  refine hV a cap _ _ _ (rep_of_row (b:=b) (off:=off) (C:=C) hn ⟨rfl,rfl⟩ ?_)
  exact⟨h1.base,fun i hi=>by rw[glue,if_pos (show i<n from hi)];exact h1.len i hi,h1.cell,fun i j v hi hv=>h1.rep i j v hi (by rw[glue,if_pos (show i<n from hi)]at hv;exact hv),h1.one⟩
 ·obtain⟨w',st',cap',D,hrun,hc',hkp,hcap',hrow⟩:=append_grow (P:=P) (tt:=o.type) (cap2:=cap2) hc hd hinf hz (by omega) (by omega) hp h1 h2 (full_nil h1 hcapn) (by omega) hn (by simp only[maxLen];omega) (by rw[hby];exact hb.1)
  exact upon_value_ok (hexec _ _ hrun) (hr st' w' (V _ cap') _ _ hc' hkp (hV _ cap' _ _ _ (rep_of_row hcap' ⟨rfl,rfl⟩ hrow)) ⟨_,cap',rfl,rfl⟩)
theorem TR.appendF2 (hty:TyOk P ty) {s x:Operand} {t t2 e e2:TypeId} {ti ti2 ei:TyI} {vs vx:AV} {sz m' m:Nat} {el el2:Nat→List AV} {ow:Own} {d:Nat} (V:Option Addr→Nat→AV)
  (hg:o.guard=none) (ho:o.op=.call {callee:=.builtin .append,args:= #[s,x],argTypes:= #[t,t2]}) (hd:o.dst=some d) (hN:dstOk o.dst N=true) (hon:optN True T (tmpsOf o.op))
  (hti:ty t=some ti) (hk:ti.k=.slice e) (hti2:ty t2=some ti2) (hk2:ti2.k=.slice e2) (hei:ty e=some ei) (hsz:ei.size=sz) (hpos:Nat.ble 1 sz=true)
  (hs:opvL (tmpsOf o.op) T s=some vs) (hx:opvL (tmpsOf o.op) T x=some vx) (hvs:asSl sz vs=some (m',el,.full)) (hvx:asSl sz vx=some (m,el2,ow))
  (hb:(m'+m)*ei.bytes≤140737488355328∧m'+m≤9223372036854775807) (hV:∀a cap,Sub (.slice sz (m'+m) (glue m' el el2) (.own a cap)) (V a cap))
  (k:∀a cap,TR P N ty l0 LD W Q l ((d,V a cap)::T) (.tok a cap (m'+m) sz e::H)):TR P N ty l0 LD W Q ((nn,o)::l) T H:=by
 refine TR.hard _ (.inr (by rw[ho];rfl)) hg hN hon (hard_append_full2 hty ho hti hk hti2 hk2 hei hsz hpos hs hx hvs hvx hb hV) ?_ ?_ (fun _ v H' ⟨_,_,_,e⟩=>e▸KeepB.cons _ _) (fun h=>by rw[ho]at h;cases h)
 ·rintro v H' ⟨a,cap,e,rfl⟩
  cases e
  rw[hd]
  exact k a cap
 ·rintro v H' ⟨a,cap,e,rfl⟩
  cases e
theorem awp_weak {c:Code} {T':Tmps} (h:Weak T T') (k:AWP P N c T' H Q):AWP P N c T H Q:=awp_weaken (Weak.spec h) k
def allocsOkS (sc:List Nat) (l:List Oper) (σ A τ:List Nat):Bool:=
 A.all (hardAt l (fun x=>sc.contains x))&&A.all (fun a=>A.all fun b=>Nat.beq a b || pairOkM sc l (ancsOf l []) (fun i=>A.contains i) a b)&&σ.all (fun j=> !A.contains j&& !hardAt l (fun x=>sc.contains x) j)&&τ.all (fun t=> !A.contains t)&& !A.isEmpty
theorem areg_softAllocs (hm:P.follows .mixedOrders=true) (hty:TyOk P ty) (sc:List Nat) (kc:List (Nat×List Nat)) (σ A τ:List Nat) {id:Nat} {l:List Oper} (hchk:drawOkM sc l N (fun i=>A.contains i) (σ++(A++τ))=true) (hA:allocsOkS sc l σ A τ=true)
  (h:TR P N ty l (ldOf sc l (ancsOf l []) kc (σ++(A++τ))) false (pQ l (Qs P N ty l (ldOf sc l (ancsOf l []) kc (σ++(A++τ))) Q τ A)) (sel l σ) T H):AWP P N (.region id l.toArray true) T H Q:=by
 simp only[allocsOkS,Bool.and_eq_true,List.all_eq_true,Bool.not_eq_true',Bool.or_eq_true]at hA
 obtain⟨⟨⟨⟨a1,a2⟩,a3⟩,a4⟩,a5⟩:=hA
 have hmem:∀a,A.contains a=true→a∈A:=fun a ha=>by simpa using ha
 have hmem':∀a∈A,A.contains a=true:=fun a ha=>by simpa using ha
 have hmh:∀a,A.contains a=true→hardAt l (fun x=>sc.contains x) a=true:=fun a ha=>a1 a (hmem a ha)
 refine areg_chain hm (mv:=fun i=>A.contains i) (σ++(A++τ)) (chain_ch hty hmh a4) (fun a b ha hb hne _=>?_) (checked_of sc kc hchk) ⟨σ,A,τ,rfl,a3,hmem',a4⟩
  (.inr ⟨σ,A,rfl,by rintro rfl;simp at a5,a3,hmem',h⟩)
 have hp:pairOkM sc l (ancsOf l []) (fun i=>A.contains i) a b=true:=by
  rcases a2 a (hmem a ha) b (hmem b hb)with e|e
  ·exact absurd (Nat.eq_of_beq_eq_true e) hne
  ·exact e
 obtain⟨p1,p2,p3,p4⟩:=pairOkM_spec hp
 refine⟨p1,p2,p3,p4,fun hs=>?_⟩
 have h1:hardAt l (fun x=>sc.contains x) a=false:=hs
 exact absurd (h1.symm.trans (hmh a ha)) (by simp)
end
end Go.Ab
