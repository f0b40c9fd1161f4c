/-
  Where ways meet again, whatever the order of the heap.
-/
import Derived.Test.YtamgilppehibeaaGreatDoorAbB
import Derived.ChangeKeysEq
import Derived.MapKept
import Derived.Lib.AppendStr
import Derived.Lib.UnsafeStr
namespace Go.Ab
theorem allO_zero {P:Program} {N:Nat} {ty:TypeId→Option TyI} {l:List Oper} {LD:LDs} {Q:APost} {τ A:List Nat} {T:Tmps} {H:AHeap} (h:TR P N ty l LD false (pQ l Q) (sel l τ) T H):AllO P N ty l LD Q τ 0 A T H:=h
theorem awp_permS {P:Program} {N:Nat} {c:Code} {T:Tmps} {H H':AHeap} {Q:APost} (hp:H'.Perm H) (h:AWP P N c T H Q):AWP P N c T H' Q:=fun E st w a r B hc hf hd=>
 h E st w a r B (hc.perm hp) hf (hd.sub fun _ ⟨e,he,hk⟩=>⟨e,hp.mem_iff.2 he,hk⟩)
theorem cutKP {P:Program} {N:Nat} {Q:APost} {K:Tmps→AHeap→Prop} {c:Code} {Wk:Tmps} {H0:AHeap} (hK:∀T' H',AWP P N c T' H' Q→K T' H') (hA:AWP P N c Wk H0 Q):∀T' H',Weak T' Wk→H'.Perm H0→K T' H':=
 fun _ _ hw hp=>hK _ _ (awp_weaken (Weak.spec hw) (awp_permS hp hA))
theorem subAgg {vs vs':List AV} (h:SubL vs vs'):Sub (.agg vs) (.agg vs'):=by
 intro st w c hr
 cases hr with
 |agg _ cs hl hh=>
  exact .agg vs' cs (by rw[hl,h.length]) fun j v' x hv hx=>by
   obtain⟨v,h1,h2⟩:=h.get j v' hv
   exact h2 _ _ _ (hh j v x h1 hx)
inductive Pick:AHeap→Ent→AHeap→Prop
 |here {e:Ent} {G:AHeap}:Pick (e::G) e G
 |there {y e:Ent} {H G:AHeap} (h:Pick H e G):Pick (y::H) e (y::G)
theorem Pick.perm {H G:AHeap} {e:Ent} (h:Pick H e G):H.Perm (e::G):=by
 induction h with
 |here=>exact List.Perm.refl _
 |there _ ih=>exact(ih.cons _).trans (List.Perm.swap _ _ _)
section
variable {P:Program} {N:Nat} {ty:TypeId→Option TyI} {l0:List Oper} {LD:LDs} {W:Bool} {Q:APost} {n:Nat} {o:Oper} {l:List (Nat×Oper)} {T:Tmps} {H:AHeap}
theorem qcallE {cf:Operand} {args:Array Operand} {ats:Array TypeId} {f:FuncId} {first captured vs:List AV} {b0:Nat} {t0:TypeId} {u0 u1:AV} {G:AHeap} {u:AV} {d:Nat}
  (hp:Pick H (.box b0 t0 u0) G) (h:ACalls P f (first++vs++captured) [.box b0 t0 u0] fun r H'=>r=.ret u∧H'=[.box b0 t0 u1])
  (k:TR P N ty l0 LD W Q l ((d,u)::T) (.box b0 t0 u1::G))
  (hg:o.guard=none:=by exact rfl) (ho:o.op=.call {callee:=.value cf,args:=args,argTypes:=ats}:=by exact rfl) (hd:o.dst=some d:=by exact rfl)
  (hN:dstOk o.dst N=true:=by exact rfl) (hon:optN True T (tmpsOf o.op):=by exact True.intro) (hf:opvL (tmpsOf o.op) T cf=some (.func (.func f) first captured):=by exact rfl)
  (hm:mapF (opvL (tmpsOf o.op) T) args.toList=some vs:=by exact rfl) (hkb:LD.kp n t0=false:=by exact rfl) (hsc:LD.sc n=false:=by exact rfl):TR P N ty l0 LD W Q ((n,o)::l) T H:=by
 refine TR.hcall (Hc:=[.box b0 t0 u0]) (G:=G) hg ho hN hon hf hm hp.perm h (fun v H' hK=>?_) (fun v H' hK=>?_) (fun v H' hK=>?_) hsc
 ·obtain⟨e1,rfl⟩:=hK
  cases e1
  rw[hd]
  exact k
 ·obtain⟨e1,rfl⟩:=hK
  cases e1
 ·obtain⟨e1,rfl⟩:=hK
  intro b t u ht hm2
  rcases List.mem_cons.1 (hp.perm.mem_iff.1 hm2)with e|e
  ·cases e
   rw[ht]at hkb
   cases hkb
  ·exact List.mem_cons_of_mem _ e
end
end Go.Ab
namespace Go.Ab
section
variable {P:Program} {N:Nat} {ty:TypeId→Option TyI} {l0:List Oper} {LD:LDs} {W:Bool} {Q:APost} {n:Nat} {o:Oper} {l:List (Nat×Oper)} {T:Tmps} {H:AHeap}
end
end Go.Ab
namespace Go.Ab
open Go.MapKept
def keyEnt (p:List UInt8×Nat):MapEntry:={key:=.string ⟨p.1.toArray⟩,val:=.agg #[],born:=p.2}
def keyObj (ns:List (List UInt8)):Obj:=.map ((ns.zipIdx).map keyEnt).toArray ns.length
theorem keyObj_nil:keyObj []=.map #[] 0:=rfl
section
variable {P:Program} {N:Nat} {ty:TypeId→Option TyI} {T:Tmps} {H:AHeap} {Q:APost} {o:Oper} {F:Operand→Option AV}
variable {l0:List Oper} {LD:LDs} {W:Bool} {l:List (Nat×Oper)} {n:Nat}
theorem qcallH {cf:Operand} {args:Array Operand} {ats:Array TypeId} {f:FuncId} {first captured vs vs0:List AV} {G Hc Hc' H2:AHeap} {u:AV} (h:ACalls P f vs0 Hc fun r H'=>r=.ret u∧H'=Hc')
  (k:TR P N ty l0 LD W Q l (putO o.dst u T) H2) (hp:AppL G Hc H:=by(first|exact .nil|exact .cons (.nil)|exact .cons (.cons (.nil))|exact .cons (.cons (.cons (.nil)))|exact .cons (.cons (.cons (.cons (.nil))))|exact .cons (.cons (.cons (.cons (.cons (.nil)))))|exact .cons (.cons (.cons (.cons (.cons (.cons (.nil))))))|exact .cons (.cons (.cons (.cons (.cons (.cons (.cons (.nil)))))))|exact .cons (.cons (.cons (.cons (.cons (.cons (.cons (.cons (.nil))))))))|exact .cons (.cons (.cons (.cons (.cons (.cons (.cons (.cons (.cons (.nil)))))))))|exact .cons (.cons (.cons (.cons (.cons (.cons (.cons (.cons (.cons (.cons (.nil))))))))))|exact .cons (.cons (.cons (.cons (.cons (.cons (.cons (.cons (.cons (.cons (.cons (.nil))))))))))))) (hp2:AppL G Hc' H2:=by(first|exact .nil|exact .cons (.nil)|exact .cons (.cons (.nil))|exact .cons (.cons (.cons (.nil)))|exact .cons (.cons (.cons (.cons (.nil))))|exact .cons (.cons (.cons (.cons (.cons (.nil)))))|exact .cons (.cons (.cons (.cons (.cons (.cons (.nil))))))|exact .cons (.cons (.cons (.cons (.cons (.cons (.cons (.nil)))))))|exact .cons (.cons (.cons (.cons (.cons (.cons (.cons (.cons (.nil))))))))|exact .cons (.cons (.cons (.cons (.cons (.cons (.cons (.cons (.cons (.nil)))))))))|exact .cons (.cons (.cons (.cons (.cons (.cons (.cons (.cons (.cons (.cons (.nil))))))))))|exact .cons (.cons (.cons (.cons (.cons (.cons (.cons (.cons (.cons (.cons (.cons (.nil)))))))))))))
  (hg:o.guard=none:=by exact rfl) (ho:o.op=.call {callee:=.value cf,args:=args,argTypes:=ats}:=by exact rfl)
  (hN:dstOk o.dst N=true:=by exact rfl) (hon:optN True T (tmpsOf o.op):=by exact True.intro) (hf:opvL (tmpsOf o.op) T cf=some (.func (.func f) first captured):=by exact rfl)
  (hm:mapF (opvL (tmpsOf o.op) T) args.toList=some vs:=by exact rfl) (he:first++vs++captured=vs0:=by exact rfl)
  (hkb:(∀t,LD.kp n t=false)∨Hc=Hc':=by first|exact .inl (fun _=>rfl)|exact .inr rfl) (hsc:LD.sc n=false:=by exact rfl):TR P N ty l0 LD W Q ((n,o)::l) T H:=by
 have e1:=hp.eq
 have e2:=hp2.eq
 subst e1
 subst e2
 subst he
 refine TR.hcallT G hg ho hN hon hf hm rfl h (fun v H' hK=>?_) (fun v H' hK=>?_) (fun v H' hK=>?_) hsc
 ·obtain⟨e1,rfl⟩:=hK
  cases e1
  exact k
 ·obtain⟨e1,rfl⟩:=hK
  cases e1
 ·obtain⟨e1,rfl⟩:=hK
  rcases hkb with hkb|rfl
  ·intro b t u h
   rw[hkb t]at h
   cases h
  ·exact KeepB.refl _
theorem qcallX {ι:Type} {cf:Operand} {args:Array Operand} {ats:Array TypeId} {f:FuncId} {first captured vs vs0:List AV} {G Hc:AHeap} {Hc' H2:ι→AHeap} {u:AV} (h:ACalls P f vs0 Hc fun r H'=>r=.ret u∧∃i,H'=Hc' i)
  (k:∀i,TR P N ty l0 LD W Q l (putO o.dst u T) (H2 i)) (hp:AppL G Hc H:=by(first|exact .nil|exact .cons (.nil)|exact .cons (.cons (.nil))|exact .cons (.cons (.cons (.nil)))|exact .cons (.cons (.cons (.cons (.nil))))|exact .cons (.cons (.cons (.cons (.cons (.nil)))))|exact .cons (.cons (.cons (.cons (.cons (.cons (.nil))))))|exact .cons (.cons (.cons (.cons (.cons (.cons (.cons (.nil)))))))|exact .cons (.cons (.cons (.cons (.cons (.cons (.cons (.cons (.nil))))))))|exact .cons (.cons (.cons (.cons (.cons (.cons (.cons (.cons (.cons (.nil)))))))))|exact .cons (.cons (.cons (.cons (.cons (.cons (.cons (.cons (.cons (.cons (.nil))))))))))|exact .cons (.cons (.cons (.cons (.cons (.cons (.cons (.cons (.cons (.cons (.cons (.nil))))))))))))) (hp2:∀i,AppL G (Hc' i) (H2 i):=by intro i;(first|exact .nil|exact .cons (.nil)|exact .cons (.cons (.nil))|exact .cons (.cons (.cons (.nil)))|exact .cons (.cons (.cons (.cons (.nil))))|exact .cons (.cons (.cons (.cons (.cons (.nil)))))|exact .cons (.cons (.cons (.cons (.cons (.cons (.nil))))))|exact .cons (.cons (.cons (.cons (.cons (.cons (.cons (.nil)))))))|exact .cons (.cons (.cons (.cons (.cons (.cons (.cons (.cons (.nil))))))))|exact .cons (.cons (.cons (.cons (.cons (.cons (.cons (.cons (.cons (.nil)))))))))|exact .cons (.cons (.cons (.cons (.cons (.cons (.cons (.cons (.cons (.cons (.nil))))))))))|exact .cons (.cons (.cons (.cons (.cons (.cons (.cons (.cons (.cons (.cons (.cons (.nil)))))))))))))
  (hg:o.guard=none:=by exact rfl) (ho:o.op=.call {callee:=.value cf,args:=args,argTypes:=ats}:=by exact rfl)
  (hN:dstOk o.dst N=true:=by exact rfl) (hon:optN True T (tmpsOf o.op):=by exact True.intro) (hf:opvL (tmpsOf o.op) T cf=some (.func (.func f) first captured):=by exact rfl)
  (hm:mapF (opvL (tmpsOf o.op) T) args.toList=some vs:=by exact rfl) (he:first++vs++captured=vs0:=by exact rfl)
  (hkb:∀t,LD.kp n t=false:=by exact(fun _=>rfl)) (hsc:LD.sc n=false:=by exact rfl):TR P N ty l0 LD W Q ((n,o)::l) T H:=by
 have e1:=hp.eq
 subst e1
 subst he
 refine TR.hcallT G hg ho hN hon hf hm rfl h (fun v H' hK=>?_) (fun v H' hK=>?_) (fun v H' hK=>?_) hsc
 ·obtain⟨e1,i,rfl⟩:=hK
  cases e1
  have e2:=(hp2 i).eq
  rw[←e2]
  exact k i
 ·obtain⟨e1,_⟩:=hK
  cases e1
 ·intro b t u h
  rw[hkb t]at h
  cases h
end
end Go.Ab
namespace Go.Ab
section
variable {P:Program} {N:Nat} {ty:TypeId→Option TyI} {l0:List Oper} {LD:LDs} {W:Bool} {Q:APost} {n:Nat} {o:Oper} {l:List (Nat×Oper)} {T:Tmps} {H:AHeap}
end
end Go.Ab
namespace Go.Ab
section
variable {P:Program} {N:Nat} {ty:TypeId→Option TyI} {l0:List Oper} {LD:LDs} {W:Bool} {Q:APost} {n:Nat} {o:Oper} {l:List (Nat×Oper)} {T:Tmps} {H:AHeap}
end
end Go.Ab
namespace Go.Ab
section
variable {P:Program} {N:Nat} {ty:TypeId→Option TyI} {l0:List Oper} {LD:LDs} {W:Bool} {Q:APost} {n:Nat} {o:Oper} {l:List (Nat×Oper)} {T:Tmps} {H:AHeap}
theorem qappL {α:Type} [Inhabited α] (hty:TyOk P ty) (f:α→List AV) (xs ys:List α) {s y:Operand} {t e:TypeId} {ti ei:TyI} {vx:AV} {sz:Nat} {el2:Nat→List AV} {ow:Own} {d:Nat} {a:Option Addr} {cap:Nat} {F:Ent→AHeap}
  (hel:∀i,i<ys.length→SubL (el2 i) (f (ys.getD i default))) (hb:(xs.length+ys.length)*ei.bytes≤140737488355328∧xs.length+ys.length≤9223372036854775807)
  (k:∀a cap,TR P N ty l0 LD W Q l ((d,sl f sz (xs++ys) (.own a cap))::T) (F (.tok a cap (xs++ys).length sz e)))
  (hg:o.guard=none:=by exact rfl) (ho:o.op=.call {callee:=.builtin .append,args:= #[s,y],argTypes:= #[t,t]}:=by exact rfl) (hd:o.dst=some d:=by exact rfl) (hN:Nat.ble (d+1) N=true:=by exact rfl)
  (hon:optN True T (tmpsOf o.op):=by exact True.intro) (hti:ty t=some ti:=by exact rfl) (hk:ti.k=.slice e:=by exact rfl) (hei:ty e=some ei:=by exact rfl) (hsz:ei.size=sz:=by exact rfl) (hpos:Nat.ble 1 sz=true:=by exact rfl)
  (hs:opvL (tmpsOf o.op) T s=some (sl f sz xs (.own a cap)):=by exact rfl) (hx:opvL (tmpsOf o.op) T y=some vx:=by exact rfl) (hvx:asSl sz vx=some (ys.length,el2,ow):=by exact rfl)
  (hi:EntAt H (.tok a cap xs.length sz e) F:=by(first|exact .here|exact .there (.here)|exact .there (.there (.here))|exact .there (.there (.there (.here)))|exact .there (.there (.there (.there (.here))))|exact .there (.there (.there (.there (.there (.here)))))|exact .there (.there (.there (.there (.there (.there (.here))))))|exact .there (.there (.there (.there (.there (.there (.there (.here)))))))|exact .there (.there (.there (.there (.there (.there (.there (.there (.here))))))))|exact .there (.there (.there (.there (.there (.there (.there (.there (.there (.here)))))))))|exact .there (.there (.there (.there (.there (.there (.there (.there (.there (.there (.here))))))))))|exact .there (.there (.there (.there (.there (.there (.there (.there (.there (.there (.there (.here)))))))))))|exact .there (.there (.there (.there (.there (.there (.there (.there (.there (.there (.there (.there (.here))))))))))))|exact .there (.there (.there (.there (.there (.there (.there (.there (.there (.there (.there (.there (.there (.here)))))))))))))|exact .there (.there (.there (.there (.there (.there (.there (.there (.there (.there (.there (.there (.there (.there (.here))))))))))))))|exact .there (.there (.there (.there (.there (.there (.there (.there (.there (.there (.there (.there (.there (.there (.there (.here))))))))))))))))):TR P N ty l0 LD W Q ((n,o)::l) T H:=by
 obtain⟨i,g1,g2⟩:=hi.spec
 have hvs:asSl sz (sl f sz xs (.own a cap))=some (xs.length,fun i=>f (xs.getD i default),.own a cap):=by
  simp[asSl,sl]
 refine TR.appendO hty i (fun ad cp=>sl f sz (xs++ys) (.own ad cp)) hg ho hd (by rw[hd];exact hN) hon hti hk hei hsz hpos hs hx hvs hvx g1 hb (fun ad cp=>glue_slS f sz xs ys el2 hel _) fun ad cp=>?_
 have:=k ad cp
 rw[g2]at this
 rw[List.length_append]at this
 exact this
end
end Go.Ab
namespace Go.Ab
def byteE (b:UInt8):List AV:=[.int .u8 b.toNat]
def byteV (s:List UInt8) (j:Nat):Value:=.int .u8 (s.getD j 0).toNat
theorem strCells_get (s:List UInt8) (j:Nat) (hj:j<s.length):(Lib.strCells ⟨s.toArray⟩)[j]?=some (byteV s j):=by
 simp[Lib.strCells,byteV,List.getD,hj]
theorem strCells_len (s:List UInt8):(Lib.strCells ⟨s.toArray⟩).length=s.length:=by simp[Lib.strCells]
theorem size_of (s:List UInt8):(ByteArray.mk s.toArray).size=s.length:=by simp[ByteArray.size]
section
variable {P:Program} {ty:TypeId→Option TyI} {o:Oper} {F:Operand→Option AV} {H:AHeap}
variable {F:Operand→Option AV}
end
section
variable {P:Program} {N:Nat} {ty:TypeId→Option TyI} {l0:List Oper} {LD:LDs} {W:Bool} {Q:APost} {n:Nat} {o:Oper} {l:List (Nat×Oper)} {T:Tmps} {H:AHeap}
def bytesA (s:List UInt8) (w:Own):AV:=sl byteE 1 s w
end
end Go.Ab
namespace Go.Ab
def byEl (s:List UInt8) (j:Nat):AV:=cond (Nat.blt j s.length) (.int .u8 (s.getD j 0).toNat) .any
def rowB (g:Nat) (e:TypeId) (cap:Nat) (s:List UInt8):Ent:=.box g e (.vec cap (byEl s))
theorem rowB_rep {st:Stab} {w:World} {cap:Nat} {s:List UInt8} {cs:List Value} (hl:cs.length=cap) (h:∀j,j<s.length→cs[j]?=some (byteV s j)) (hone:∀x∈cs,x.oneCell'=true):Rep st w (.vec cap (byEl s)) (.agg ⟨cs⟩):=by
 refine .vec _ _ _ hl (fun j x hx=>?_) hone
 unfold byEl
 by_cases hj:j<s.length
 ·have hb:Nat.blt j s.length=true:=by rw[Nat.blt_eq];exact hj
  have:=(h j hj).symm.trans hx
  simp only[Option.some.injEq]at this
  subst this
  rw[hb]
  exact .int _ _
 ·have hb:Nat.blt j s.length=false:=by rw[←Bool.not_eq_true,Nat.blt_eq];exact hj
  rw[hb]
  exact .any _
theorem rowB_get {st:Stab} {w:World} {cap:Nat} {s:List UInt8} {cv:Value} (hc:s.length≤cap) (h:Rep st w (.vec cap (byEl s)) cv):
  ∃cs,cv=.agg ⟨cs⟩∧cs.length=cap∧(∀j,j<s.length→cs[j]?=some (byteV s j))∧∀x∈cs,x.oneCell'=true:=by
 cases h with
 |vec _ _ cs hl h hone=>
  refine⟨cs,rfl,hl,fun j hj=>?_,hone⟩
  have hj2:j<cs.length:=by omega
  have h1:=h j _ (List.getElem?_eq_getElem hj2)
  unfold byEl at h1
  have hb:Nat.blt j s.length=true:=by rw[Nat.blt_eq];exact hj
  rw[hb]at h1
  rw[List.getElem?_eq_getElem hj2]
  generalize cs[j]=x at h1
  cases h1
  rfl
theorem zero_one {z:Array Value} {n:Nat} (h:∀x∈z.toList,x.oneCell'=true):∀x∈(Builtin.zeroCells z n).toList,x.oneCell'=true:=by
 intro x hx
 refine h x ?_
 simp[Builtin.zeroCells]at hx
 obtain⟨a,ha,rfl⟩:=hx
 have hp:0<z.size:=by
  rcases Nat.eq_zero_or_pos z.size with h|h
  ·rw[h]at ha;omega
  ·exact h
 have hlt:=Nat.mod_lt a hp
 rw[getElem!_pos z (a%z.size) hlt]
 simp
section
variable {P:Program} {ty:TypeId→Option TyI} {o:Oper} {F:Operand→Option AV} {H:AHeap}
theorem hard_app_nil (hty:TyOk P ty) {s x:Operand} {t u e:TypeId} {ti ui ei:TyI} {y:List UInt8}
  (ho:o.op=.call {callee:=.builtin .append,args:= #[s,x],argTypes:= #[t,u]}) (hti:ty t=some ti) (hk:ti.k=.slice e) (hui:ty u=some ui) (huk:ui.k=.str) (hei:ty e=some ei) (hsz:ei.size=1)
  (hs:F s=some .nils) (hx:F x=some (.str y)) (h0:y≠[]) (hb:y.length*ei.bytes≤140737488355328∧y.length≤9223372036854775807):
  AHard P o F H fun r H'=>∃g cap,y.length≤cap∧cap≤maxLen∧r=.ret (.mslice g 0 y.length cap)∧H'=rowB g e cap y::H:=by
 intro E st w act r next Q hc hF _ hr _
 obtain⟨⟨d,hd,hkf⟩,-⟩:=hty t ti hti
 rw[hk]at hkf
 obtain rfl:d=.slice e:=hkf
 obtain⟨⟨d2,hd2,hkf2⟩,-⟩:=hty u ui hui
 rw[huk]at hkf2
 obtain rfl:d2=.string:=hkf2
 obtain⟨-,inf,z,hinf,hisz,hby,hz,hzs,hzr,hzo⟩:=hty e ei hei
 have hsv:act.eval s=.slice none 0 0:=by
  have h:=hF s _ hs
  generalize act.eval s=c at h
  cases h
  rfl
 have hxv:act.eval x=.string ⟨y.toArray⟩:=by
  have h:=hF x _ hx
  generalize act.eval x=c at h
  cases h
  rfl
 have hsl:=size_of y
 have hcl:=strCells_len y
 have hpos:0<y.length:=List.length_pos_iff.2 h0
 have hcap:=grownCap_ge w y.length 0 e
 have hmax:=grownCap_le_maxLen w y.length 0 e (by simp only[maxLen];omega)
 have hrun:=run_append_nil_string (P:=P) w t u o.type e inf z hd hd2 hinf hz ⟨y.toArray⟩ (by rw[hsl];exact hpos) (by rw[hsl];omega) (by rw[hsl,hby];omega)
 rw[hsl]at hrun
 generalize hg:grownCap w y.length 0 e=cap' at hrun hcap hmax
 have hexec:∀v' w',(Builtin.append_ #[t,u] o.type #[.slice none 0 0,.string ⟨y.toArray⟩]).run P w=.ok v' w'→(execOp act.eval o).run P w=.ok (.value v') w':=by
  intro v' w' h
  simp[execOp,ho,resolve,invoke,builtin,hsv,hxv,h]
 have e1:(((⟨y.toArray⟩:ByteArray).data.map fun b=>Value.int .u8 b.toNat))=(Lib.strCells ⟨y.toArray⟩).toArray:=by
  apply Array.ext'
  simp[Lib.strCells]
 rw[e1]at hrun
 generalize harrd:(Lib.strCells ⟨y.toArray⟩).toArray++Builtin.zeroCells z.cells (cap'-y.length)=arr at hrun
 have hw:(w.drew.alloc (.cells arr e)).heap[w.heap.size]?=some (.cells arr e):=heap_alloc_new w.drew _
 have hlen:arr.toList.length=cap':=by
  rw[←harrd]
  simp only[Array.length_toList,Array.size_append,List.size_toArray,size_zeroCells,hzs,hcl,hsz]
  omega
 have hget:∀j,j<y.length→arr.toList[j]?=some (byteV y j):=by
  intro j hj
  rw[←harrd]
  simp only[Array.toList_append]
  rw[List.getElem?_append_left (by rw[hcl];exact hj)]
  exact strCells_get y j hj
 have hone:∀x∈arr.toList,x.oneCell'=true:=by
  intro x hx
  rw[←harrd]at hx
  simp only[Array.toList_append,List.mem_append]at hx
  rcases hx with hx|hx
  ·exact Lib.strCells_oneCell _ x hx
  ·exact zero_one hzo x hx
 have hgrow:=Conc.grow (st':=st) (w':=w.drew.alloc (.cells arr e)) (Hn:=[rowB w.heap.size e cap' y]) hc rfl rfl rfl (by simp) (fun k hk=>heap_alloc_old w.drew _ hk)
  (fun b o h=>h) (fun b o h=>.inl h) ?_ ?_ (by simp)
 ·exact upon_value_ok (hexec _ _ hrun) (hr st _ (.mslice w.heap.size 0 y.length cap') _ _ hgrow.1 hgrow.2 (.mslice _ _ _ _) ⟨_,_,hcap,hmax,rfl,rfl⟩)
 ·intro e1 he1
  simp at he1
  subst he1
  exact⟨arr,.agg arr,hw,rowB_rep hlen hget hone,rfl,hone,fun o hs=>absurd (hc.stlt _ _ hs) (by omega)⟩
 ·rintro k ⟨e1,he1,hk⟩
  simp at he1
  subst he1
  have hk:w.heap.size=k:=hk
  subst hk
  simp
theorem hard_app_row (hty:TyOk P ty) {s x:Operand} {t u e:TypeId} {ti ui ei:TyI} {xs y:List UInt8} {g cap:Nat} (i:Nat)
  (ho:o.op=.call {callee:=.builtin .append,args:= #[s,x],argTypes:= #[t,u]}) (hti:ty t=some ti) (hk:ti.k=.slice e) (hui:ty u=some ui) (huk:ui.k=.str) (hei:ty e=some ei) (hsz:ei.size=1)
  (hs:F s=some (.mslice g 0 xs.length cap)) (hx:F x=some (.str y)) (h0:y≠[]) (hcx:xs.length≤cap) (hcm:cap≤maxLen) (hi:H[i]?=some (rowB g e cap xs))
  (hb:(xs.length+y.length)*ei.bytes≤140737488355328∧xs.length+y.length≤9223372036854775807):
  AHard P o F H fun r H'=>∃g' cap',(xs++y).length≤cap'∧cap'≤maxLen∧r=.ret (.mslice g' 0 (xs++y).length cap')∧H'=H.set i (rowB g' e cap' (xs++y)):=by
 intro E st w act r next Q hc hF _ hr _
 obtain⟨⟨d,hd,hkf⟩,-⟩:=hty t ti hti
 rw[hk]at hkf
 obtain rfl:d=.slice e:=hkf
 obtain⟨⟨d2,hd2,hkf2⟩,-⟩:=hty u ui hui
 rw[huk]at hkf2
 obtain rfl:d2=.string:=hkf2
 obtain⟨-,inf,z,hinf,hisz,hby,hz,hzs,hzr,hzo⟩:=hty e ei hei
 have hsv:act.eval s=.slice (some ⟨g,0,none⟩) xs.length cap:=by
  have h:=hF s _ hs
  generalize act.eval s=c at h
  cases h
  rfl
 have hxv:act.eval x=.string ⟨y.toArray⟩:=by
  have h:=hF x _ hx
  generalize act.eval x=c at h
  cases h
  rfl
 have hsl:=size_of y
 have hcl:=strCells_len y
 have hpos:0<y.length:=List.length_pos_iff.2 h0
 have hexec:∀v' w',(Builtin.append_ #[t,u] o.type #[.slice (some ⟨g,0,none⟩) xs.length cap,.string ⟨y.toArray⟩]).run P w=.ok v' w'→(execOp act.eval o).run P w=.ok (.value v') w':=by
  intro v' w' h
  simp[execOp,ho,resolve,invoke,builtin,hsv,hxv,h]
 have hc1:=hc.perm (perm_eraseIdx H i _ hi)
 obtain⟨arr,cv,hg,hrep,hcells,hone0,hns⟩:=hc1.ents _ (List.mem_cons_self ..)
 obtain⟨cs,rfl,hcl2,hget0,hone⟩:=rowB_get hcx hrep
 obtain rfl:(⟨cs⟩:Array Value)=arr:=hcells
 have hla:(xs++y).length=xs.length+y.length:=List.length_append
 have hcells2:∀(rest:List Value) (j:Nat),j<(xs++y).length→(cs.take xs.length++Lib.strCells ⟨y.toArray⟩++rest)[j]?=some (byteV (xs++y) j):=by
  intro rest j hj
  have ht:(cs.take xs.length).length=xs.length:=by simp;omega
  rw[List.getElem?_append_left (by rw[List.length_append,ht,hcl];omega)]
  by_cases h:j<xs.length
  ·rw[List.getElem?_append_left (by omega),List.getElem?_take,if_pos h,hget0 j h]
   simp[byteV,List.getD,List.getElem?_append_left h]
  ·rw[List.getElem?_append_right (by omega),ht,strCells_get y _ (by omega)]
   simp[byteV,List.getD,List.getElem?_append_right (Nat.le_of_not_lt h)]
 by_cases hroom:xs.length+y.length≤cap
 ·have hrun:=Lib.run_append_room_string (P:=P) w t u o.type e inf hd hd2 hinf (by omega) g xs.length cap ⟨cs⟩ hg ⟨y.toArray⟩ (by rw[hsl];exact hroom) (by rw[hsl];simp;omega)
  rw[hsl]at hrun
  have hst:=hc1.store (u':=.vec cap (byEl (xs++y))) (arr':=(cs.take xs.length++Lib.strCells ⟨y.toArray⟩++cs.drop (xs.length+y.length)).toArray) (cv':=.agg (cs.take xs.length++Lib.strCells ⟨y.toArray⟩++cs.drop (xs.length+y.length)).toArray) hg
   (rowB_rep (by simp[hcl];omega) (hcells2 _) ?_) rfl ?_
  ·refine upon_value_ok (hexec _ _ hrun) (hr st _ (.mslice g 0 (xs++y).length cap) _ _ (hst.1.perm (perm_set H i _ _ hi)) hst.2 (by rw[hla];exact .mslice _ _ _ _) ⟨_,_,by rw[hla];exact hroom,hcm,rfl,rfl⟩)
  all_goals
   intro x hx
   simp only[List.mem_append]at hx
   rcases hx with(hx|hx)|hx
   ·exact hone x (List.mem_of_mem_take hx)
   ·exact Lib.strCells_oneCell _ x hx
   ·exact hone x (List.mem_of_mem_drop hx)
 ·have holds:∀j v,(cs.take xs.length)[j]?=some v→w.cell? ((⟨g,0,none⟩:Addr).add j)=some v:=by
   intro j v hv
   rw[List.getElem?_take]at hv
   split at hv
   ·rw[addr_add,Nat.zero_add,cell_of_row w g j ⟨cs⟩ e (0,0) hg]
    simpa using hv
   ·cases hv
  have hcap:=grownCap_ge w (xs.length+y.length) cap e
  have hmax:=grownCap_le_maxLen w (xs.length+y.length) cap e (by simp only[maxLen];omega)
  have hrun:=Lib.run_append_grow_string (P:=P) w t u o.type e inf z hd hd2 hinf hz ⟨g,0,none⟩ xs.length cap (cs.take xs.length) (by simp[hisz,hsz];omega) holds ⟨y.toArray⟩ (by rw[hsl];omega) (by rw[hsl];omega) (by rw[hsl];exact growslice_fits (by omega) (by rw[hby];exact hb.1))
  rw[hsl]at hrun
  generalize hgc:grownCap w (xs.length+y.length) cap e=cap' at hrun hcap hmax
  have hc2:Conc E st (H.eraseIdx i) w:=Conc.drop_front (F:=[_]) hc1
  generalize harrd:(cs.take xs.length).toArray++(Lib.strCells ⟨y.toArray⟩).toArray++Builtin.zeroCells z.cells (cap'-(xs.length+y.length))=arr at hrun
  have harrl:arr.toList=cs.take xs.length++Lib.strCells ⟨y.toArray⟩++(Builtin.zeroCells z.cells (cap'-(xs.length+y.length))).toList:=by
   rw[←harrd]
   simp
  have hw:(w.drew.alloc (.cells arr e)).heap[w.heap.size]?=some (.cells arr e):=heap_alloc_new w.drew _
  have hlen:arr.toList.length=cap':=by
   rw[harrl]
   simp only[List.length_append,List.length_take,Array.length_toList,size_zeroCells,hzs,hcl,hsz]
   omega
  have hone2:∀x∈arr.toList,x.oneCell'=true:=by
   intro x hx
   rw[harrl]at hx
   simp only[List.mem_append]at hx
   rcases hx with(hx|hx)|hx
   ·exact hone x (List.mem_of_mem_take hx)
   ·exact Lib.strCells_oneCell _ x hx
   ·exact zero_one hzo x hx
  have hgrow:=Conc.grow (st':=st) (w':=w.drew.alloc (.cells arr e)) (Hn:=[rowB w.heap.size e cap' (xs++y)]) hc2 rfl rfl rfl (by simp) (fun k hk=>heap_alloc_old w.drew _ hk)
   (fun b o h=>h) (fun b o h=>.inl h) ?_ ?_ (by simp)
  ·exact upon_value_ok (hexec _ _ hrun) (hr st _ (.mslice w.heap.size 0 (xs++y).length cap') _ _ (hgrow.1.perm (perm_set H i _ _ hi)) hgrow.2 (by rw[hla];exact .mslice _ _ _ _) ⟨_,_,by rw[hla];exact hcap,hmax,rfl,rfl⟩)
  ·intro e1 he1
   simp at he1
   subst he1
   exact⟨arr,.agg arr,hw,rowB_rep hlen (fun j hj=>by rw[harrl];exact hcells2 _ j hj) hone2,rfl,hone2,fun o hs=>absurd (hc.stlt _ _ hs) (by omega)⟩
  ·rintro k ⟨e1,he1,hk⟩
   simp at he1
   subst he1
   have hk:w.heap.size=k:=hk
   subst hk
   simp
theorem freeze_other (w:World) (g n k:Nat) (hk:k≠g):(w.freeze ⟨g,0,none⟩ n).heap[k]?=w.heap[k]?:=by
 unfold World.freeze
 split
 ·rfl
 ·simp only[Array.getElem?_modify]
  rw[if_neg (by omega)]
theorem freeze_size (w:World) (g n:Nat):(w.freeze ⟨g,0,none⟩ n).heap.size=w.heap.size:=by
 unfold World.freeze
 split<;>simp
theorem Conc.frozen {E:Env0} {st:Stab} {w:World} {g n:Nat} {e:Ent} {G:AHeap} (hc1:Conc E st (e::G) w) (hns:∀o,¬st g o) (how:e.owns g):Conc E st G (w.freeze ⟨g,0,none⟩ n)∧Keeps st st w (w.freeze ⟨g,0,none⟩ n):=by
 have hkc:∀b o,st b o→(w.freeze ⟨g,0,none⟩ n).cell? ⟨b,o,none⟩=w.cell? ⟨b,o,none⟩:=fun b o hs=>
  World.cell?_of_block (w:=w) (freeze_other w g _ b (by rintro rfl;exact hns _ hs))
 have hk:Keeps st st w (w.freeze ⟨g,0,none⟩ n):=⟨fun _ _ h=>h,hkc⟩
 have hc2:Conc E st (G) w:=Conc.drop_front (F:=[_]) hc1
 have hsep:=(List.pairwise_cons.1 hc1.sep).1
 have hno:¬AHeap.owns (G) g:=fun⟨e1,h1,h2⟩=>hsep e1 h1 g how h2
 have hO:E.O g∨E.w0.heap.size≤g:=hc1.ownnew g ⟨_,List.mem_cons_self ..,how⟩
 have hfr:∀{α:Type} (f:World→α),(∀h,f {w with heap:=h}=f w)→f (w.freeze ⟨g,0,none⟩ n)=f w:=by
  intro α f hf
  unfold World.freeze
  split
  ·rfl
  ·exact hf _
 have hcf:Conc E st (G) (w.freeze ⟨g,0,none⟩ n):=by
  refine⟨(hfr (·.os) (fun _=>rfl)).trans hc2.os,(hfr (·.tape) (fun _=>rfl)).trans hc2.tape,(hfr (·.output) (fun _=>rfl)).trans hc2.output,by rw[freeze_size];exact hc2.size,fun k hk hO2=>?_,fun b o hs=>(hkc b o (hc2.stle b o hs)).trans (hc2.keep b o hs),hc2.stle,hc2.stnew,fun b o hs=>by rw[freeze_size];exact hc2.stlt b o hs,hc2.ownnew,fun k hk=>by rw[freeze_size];exact hc2.ownlt k hk,fun e1 h1=>?_,hc2.sep,fun b o hs hk=>(hc2.fz b o hs hk).same (freeze_other w g _ b (by rintro rfl;exact hns _ hs))⟩
  ·refine(freeze_other w g _ k ?_).trans (hc2.old k hk hO2)
   rintro rfl
   rcases hO with h|h
   ·exact hO2 h
   ·omega
  ·exact Ent.holds_keep hk (hc2.ents e1 h1) (fun b hb=>freeze_other w g _ b (by rintro rfl;exact hno ⟨e1,h1,hb⟩)) (fun _ _ _ h=>h)
 exact⟨hcf,hk⟩
end
section
variable {P:Program} {N:Nat} {ty:TypeId→Option TyI} {l0:List Oper} {LD:LDs} {W:Bool} {Q:APost} {n:Nat} {o:Oper} {l:List (Nat×Oper)} {T:Tmps} {H:AHeap}
theorem qappN (hty:TyOk P ty) (ys:List UInt8) {s y:Operand} {t u e:TypeId} {ti ui ei:TyI} {d:Nat} (h0:ys≠[]) (hb:ys.length*ei.bytes≤140737488355328∧ys.length≤9223372036854775807)
  (k:∀g cap,ys.length≤cap→cap≤maxLen→TR P N ty l0 LD W Q l ((d,.mslice g 0 ys.length cap)::T) (rowB g e cap ys::H))
  (hg:o.guard=none:=by exact rfl) (ho:o.op=.call {callee:=.builtin .append,args:= #[s,y],argTypes:= #[t,u]}:=by exact rfl) (hd:o.dst=some d:=by exact rfl) (hN:Nat.ble (d+1) N=true:=by exact rfl)
  (hon:optN True T (tmpsOf o.op):=by exact True.intro) (hti:ty t=some ti:=by exact rfl) (hk:ti.k=.slice e:=by exact rfl) (hui:ty u=some ui:=by exact rfl) (huk:ui.k=.str:=by exact rfl) (hei:ty e=some ei:=by exact rfl) (hsz:ei.size=1:=by exact rfl)
  (hs:opvL (tmpsOf o.op) T s=some .nils:=by exact rfl) (hx:opvL (tmpsOf o.op) T y=some (.str ys):=by exact rfl):TR P N ty l0 LD W Q ((n,o)::l) T H:=by
 refine TR.hard _ (.inr (by rw[ho];rfl)) hg (by rw[hd];exact hN) hon (hard_app_nil hty ho hti hk hui huk hei hsz hs hx h0 hb) ?_ ?_ (fun _ v H' ⟨g,cap,_,_,_,e⟩=>e▸KeepB.cons _ _) (fun h=>by rw[ho]at h;cases h)
 ·rintro v H' ⟨g,cap,h1,h2,e,rfl⟩
  cases e
  rw[hd]
  exact k g cap h1 h2
 ·rintro v H' ⟨g,cap,_,_,e,_⟩
  cases e
theorem qappR (hty:TyOk P ty) (xs ys:List UInt8) {s y:Operand} {t u e:TypeId} {ti ui ei:TyI} {d g cap:Nat} {F:Ent→AHeap} (h0:ys≠[]) (hcx:xs.length≤cap) (hcm:cap≤maxLen) (hb:(xs.length+ys.length)*ei.bytes≤140737488355328∧xs.length+ys.length≤9223372036854775807)
  (k:∀g cap,(xs++ys).length≤cap→cap≤maxLen→TR P N ty l0 LD W Q l ((d,.mslice g 0 (xs++ys).length cap)::T) (F (rowB g e cap (xs++ys))))
  (hg:o.guard=none:=by exact rfl) (ho:o.op=.call {callee:=.builtin .append,args:= #[s,y],argTypes:= #[t,u]}:=by exact rfl) (hd:o.dst=some d:=by exact rfl) (hN:Nat.ble (d+1) N=true:=by exact rfl)
  (hon:optN True T (tmpsOf o.op):=by exact True.intro) (hti:ty t=some ti:=by exact rfl) (hk:ti.k=.slice e:=by exact rfl) (hui:ty u=some ui:=by exact rfl) (huk:ui.k=.str:=by exact rfl) (hei:ty e=some ei:=by exact rfl) (hsz:ei.size=1:=by exact rfl)
  (hs:opvL (tmpsOf o.op) T s=some (.mslice g 0 xs.length cap):=by exact rfl) (hx:opvL (tmpsOf o.op) T y=some (.str ys):=by exact rfl) (hkp:LD.kp n e=false:=by exact rfl)
  (hi:EntAt H (rowB g e cap xs) F:=by(first|exact .here|exact .there (.here)|exact .there (.there (.here))|exact .there (.there (.there (.here)))|exact .there (.there (.there (.there (.here))))|exact .there (.there (.there (.there (.there (.here)))))|exact .there (.there (.there (.there (.there (.there (.here))))))|exact .there (.there (.there (.there (.there (.there (.there (.here)))))))|exact .there (.there (.there (.there (.there (.there (.there (.there (.here))))))))|exact .there (.there (.there (.there (.there (.there (.there (.there (.there (.here)))))))))|exact .there (.there (.there (.there (.there (.there (.there (.there (.there (.there (.here))))))))))|exact .there (.there (.there (.there (.there (.there (.there (.there (.there (.there (.there (.here)))))))))))|exact .there (.there (.there (.there (.there (.there (.there (.there (.there (.there (.there (.there (.here))))))))))))|exact .there (.there (.there (.there (.there (.there (.there (.there (.there (.there (.there (.there (.there (.here)))))))))))))|exact .there (.there (.there (.there (.there (.there (.there (.there (.there (.there (.there (.there (.there (.there (.here))))))))))))))|exact .there (.there (.there (.there (.there (.there (.there (.there (.there (.there (.there (.there (.there (.there (.there (.here))))))))))))))))):TR P N ty l0 LD W Q ((n,o)::l) T H:=by
 obtain⟨i,g1,g2⟩:=hi.spec
 refine TR.hard _ (.inr (by rw[ho];rfl)) hg (by rw[hd];exact hN) hon (hard_app_row hty i ho hti hk hui huk hei hsz hs hx h0 hcx hcm g1 hb) ?_ ?_ (fun _ v H' ⟨g,cap,_,_,_,e⟩=>e▸KeepB.setBox g1 hkp _) (fun h=>by rw[ho]at h;cases h)
 ·rintro v H' ⟨g,cap,h1,h2,e,rfl⟩
  cases e
  rw[hd]
  have:=k g cap h1 h2
  rw[g2]at this
  exact this
 ·rintro v H' ⟨g,cap,_,_,e,_⟩
  cases e
end
end Go.Ab
