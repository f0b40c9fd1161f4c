/-
  Where ways meet again, whatever the order of the heap.
-/
import Derived.Test.YtkbdklmdcbmgkaaGreatAbB
import Derived.ChangeKeysEq
import Derived.MapKept
import Derived.Lib.AppendStr
import Derived.Lib.UnsafeStr
namespace Go.Ab
theorem allO_zero {P:Program} {N:Nat} {ty:TypeId→Option TyI} {l:List Oper} {LD:LDs} {Q:APost} {τ A:List Nat} {T:Tmps} {H:AHeap} (h:TR P N ty l LD false (pQ l Q) (sel l τ) T H):AllO P N ty l LD Q τ 0 A T H:=h
theorem awp_permS {P:Program} {N:Nat} {c:Code} {T:Tmps} {H H':AHeap} {Q:APost} (hp:H'.Perm H) (h:AWP P N c T H Q):AWP P N c T H' Q:=fun E st w a r B hc hf hd=>
 h E st w a r B (hc.perm hp) hf (hd.sub fun _ ⟨e,he,hk⟩=>⟨e,hp.mem_iff.2 he,hk⟩)
theorem cutKP {P:Program} {N:Nat} {Q:APost} {K:Tmps→AHeap→Prop} {c:Code} {Wk:Tmps} {H0:AHeap} (hK:∀T' H',AWP P N c T' H' Q→K T' H') (hA:AWP P N c Wk H0 Q):∀T' H',Weak T' Wk→H'.Perm H0→K T' H':=
 fun _ _ hw hp=>hK _ _ (awp_weaken (Weak.spec hw) (awp_permS hp hA))
theorem subAgg {vs vs':List AV} (h:SubL vs vs'):Sub (.agg vs) (.agg vs'):=by
 intro st w c hr
 cases hr with
 |agg _ cs hl hh=>
  exact .agg vs' cs (by rw[hl,h.length]) fun j v' x hv hx=>by
   obtain⟨v,h1,h2⟩:=h.get j v' hv
   exact h2 _ _ _ (hh j v x h1 hx)
inductive Pick:AHeap→Ent→AHeap→Prop
 |here {e:Ent} {G:AHeap}:Pick (e::G) e G
 |there {y e:Ent} {H G:AHeap} (h:Pick H e G):Pick (y::H) e (y::G)
theorem Pick.perm {H G:AHeap} {e:Ent} (h:Pick H e G):H.Perm (e::G):=by
 induction h with
 |here=>exact List.Perm.refl _
 |there _ ih=>exact(ih.cons _).trans (List.Perm.swap _ _ _)
section
variable {P:Program} {N:Nat} {ty:TypeId→Option TyI} {l0:List Oper} {LD:LDs} {W:Bool} {Q:APost} {n:Nat} {o:Oper} {l:List (Nat×Oper)} {T:Tmps} {H:AHeap}
end
end Go.Ab
namespace Go.Ab
section
variable {P:Program} {N:Nat} {ty:TypeId→Option TyI} {l0:List Oper} {LD:LDs} {W:Bool} {Q:APost} {n:Nat} {o:Oper} {l:List (Nat×Oper)} {T:Tmps} {H:AHeap}
end
end Go.Ab
namespace Go.Ab
open Go.MapKept
def keyEnt (p:List UInt8×Nat):MapEntry:={key:=.string ⟨p.1.toArray⟩,val:=.agg #[],born:=p.2}
def keyObj (ns:List (List UInt8)):Obj:=.map ((ns.zipIdx).map keyEnt).toArray ns.length
theorem keyObj_nil:keyObj []=.map #[] 0:=rfl
section
variable {P:Program} {N:Nat} {ty:TypeId→Option TyI} {T:Tmps} {H:AHeap} {Q:APost} {o:Oper} {F:Operand→Option AV}
variable {l0:List Oper} {LD:LDs} {W:Bool} {l:List (Nat×Oper)} {n:Nat}
theorem qcallH {cf:Operand} {args:Array Operand} {ats:Array TypeId} {f:FuncId} {first captured vs vs0:List AV} {G Hc Hc' H2:AHeap} {u:AV} (h:ACalls P f vs0 Hc fun r H'=>r=.ret u∧H'=Hc')
  (k:TR P N ty l0 LD W Q l (putO o.dst u T) H2) (hp:AppL G Hc H:=by(first|exact .nil|exact .cons (.nil)|exact .cons (.cons (.nil))|exact .cons (.cons (.cons (.nil)))|exact .cons (.cons (.cons (.cons (.nil))))|exact .cons (.cons (.cons (.cons (.cons (.nil)))))|exact .cons (.cons (.cons (.cons (.cons (.cons (.nil))))))|exact .cons (.cons (.cons (.cons (.cons (.cons (.cons (.nil)))))))|exact .cons (.cons (.cons (.cons (.cons (.cons (.cons (.cons (.nil))))))))|exact .cons (.cons (.cons (.cons (.cons (.cons (.cons (.cons (.cons (.nil)))))))))|exact .cons (.cons (.cons (.cons (.cons (.cons (.cons (.cons (.cons (.cons (.nil))))))))))|exact .cons (.cons (.cons (.cons (.cons (.cons (.cons (.cons (.cons (.cons (.cons (.nil))))))))))))) (hp2:AppL G Hc' H2:=by(first|exact .nil|exact .cons (.nil)|exact .cons (.cons (.nil))|exact .cons (.cons (.cons (.nil)))|exact .cons (.cons (.cons (.cons (.nil))))|exact .cons (.cons (.cons (.cons (.cons (.nil)))))|exact .cons (.cons (.cons (.cons (.cons (.cons (.nil))))))|exact .cons (.cons (.cons (.cons (.cons (.cons (.cons (.nil)))))))|exact .cons (.cons (.cons (.cons (.cons (.cons (.cons (.cons (.nil))))))))|exact .cons (.cons (.cons (.cons (.cons (.cons (.cons (.cons (.cons (.nil)))))))))|exact .cons (.cons (.cons (.cons (.cons (.cons (.cons (.cons (.cons (.cons (.nil))))))))))|exact .cons (.cons (.cons (.cons (.cons (.cons (.cons (.cons (.cons (.cons (.cons (.nil)))))))))))))
  (hg:o.guard=none:=by exact rfl) (ho:o.op=.call {callee:=.value cf,args:=args,argTypes:=ats}:=by exact rfl)
  (hN:dstOk o.dst N=true:=by exact rfl) (hon:optN True T (tmpsOf o.op):=by exact True.intro) (hf:opvL (tmpsOf o.op) T cf=some (.func (.func f) first captured):=by exact rfl)
  (hm:mapF (opvL (tmpsOf o.op) T) args.toList=some vs:=by exact rfl) (he:first++vs++captured=vs0:=by exact rfl)
  (hkb:(∀t,LD.kp n t=false)∨Hc=Hc':=by first|exact .inl (fun _=>rfl)|exact .inr rfl) (hsc:LD.sc n=false:=by exact rfl):TR P N ty l0 LD W Q ((n,o)::l) T H:=by
 have e1:=hp.eq
 have e2:=hp2.eq
 subst e1
 subst e2
 subst he
 refine TR.hcallT G hg ho hN hon hf hm rfl h (fun v H' hK=>?_) (fun v H' hK=>?_) (fun v H' hK=>?_) hsc
 ·obtain⟨e1,rfl⟩:=hK
  cases e1
  exact k
 ·obtain⟨e1,rfl⟩:=hK
  cases e1
 ·obtain⟨e1,rfl⟩:=hK
  rcases hkb with hkb|rfl
  ·intro b t u h
   rw[hkb t]at h
   cases h
  ·exact KeepB.refl _
theorem qcallX {ι:Type} {cf:Operand} {args:Array Operand} {ats:Array TypeId} {f:FuncId} {first captured vs vs0:List AV} {G Hc:AHeap} {Hc' H2:ι→AHeap} {u:AV} (h:ACalls P f vs0 Hc fun r H'=>r=.ret u∧∃i,H'=Hc' i)
  (k:∀i,TR P N ty l0 LD W Q l (putO o.dst u T) (H2 i)) (hp:AppL G Hc H:=by(first|exact .nil|exact .cons (.nil)|exact .cons (.cons (.nil))|exact .cons (.cons (.cons (.nil)))|exact .cons (.cons (.cons (.cons (.nil))))|exact .cons (.cons (.cons (.cons (.cons (.nil)))))|exact .cons (.cons (.cons (.cons (.cons (.cons (.nil))))))|exact .cons (.cons (.cons (.cons (.cons (.cons (.cons (.nil)))))))|exact .cons (.cons (.cons (.cons (.cons (.cons (.cons (.cons (.nil))))))))|exact .cons (.cons (.cons (.cons (.cons (.cons (.cons (.cons (.cons (.nil)))))))))|exact .cons (.cons (.cons (.cons (.cons (.cons (.cons (.cons (.cons (.cons (.nil))))))))))|exact .cons (.cons (.cons (.cons (.cons (.cons (.cons (.cons (.cons (.cons (.cons (.nil))))))))))))) (hp2:∀i,AppL G (Hc' i) (H2 i):=by intro i;(first|exact .nil|exact .cons (.nil)|exact .cons (.cons (.nil))|exact .cons (.cons (.cons (.nil)))|exact .cons (.cons (.cons (.cons (.nil))))|exact .cons (.cons (.cons (.cons (.cons (.nil)))))|exact .cons (.cons (.cons (.cons (.cons (.cons (.nil))))))|exact .cons (.cons (.cons (.cons (.cons (.cons (.cons (.nil)))))))|exact .cons (.cons (.cons (.cons (.cons (.cons (.cons (.cons (.nil))))))))|exact .cons (.cons (.cons (.cons (.cons (.cons (.cons (.cons (.cons (.nil)))))))))|exact .cons (.cons (.cons (.cons (.cons (.cons (.cons (.cons (.cons (.cons (.nil))))))))))|exact .cons (.cons (.cons (.cons (.cons (.cons (.cons (.cons (.cons (.cons (.cons (.nil)))))))))))))
  (hg:o.guard=none:=by exact rfl) (ho:o.op=.call {callee:=.value cf,args:=args,argTypes:=ats}:=by exact rfl)
  (hN:dstOk o.dst N=true:=by exact rfl) (hon:optN True T (tmpsOf o.op):=by exact True.intro) (hf:opvL (tmpsOf o.op) T cf=some (.func (.func f) first captured):=by exact rfl)
  (hm:mapF (opvL (tmpsOf o.op) T) args.toList=some vs:=by exact rfl) (he:first++vs++captured=vs0:=by exact rfl)
  (hkb:∀t,LD.kp n t=false:=by exact(fun _=>rfl)) (hsc:LD.sc n=false:=by exact rfl):TR P N ty l0 LD W Q ((n,o)::l) T H:=by
 have e1:=hp.eq
 subst e1
 subst he
 refine TR.hcallT G hg ho hN hon hf hm rfl h (fun v H' hK=>?_) (fun v H' hK=>?_) (fun v H' hK=>?_) hsc
 ·obtain⟨e1,i,rfl⟩:=hK
  cases e1
  have e2:=(hp2 i).eq
  rw[←e2]
  exact k i
 ·obtain⟨e1,_⟩:=hK
  cases e1
 ·intro b t u h
  rw[hkb t]at h
  cases h
end
end Go.Ab
namespace Go.Ab
section
variable {P:Program} {N:Nat} {ty:TypeId→Option TyI} {l0:List Oper} {LD:LDs} {W:Bool} {Q:APost} {n:Nat} {o:Oper} {l:List (Nat×Oper)} {T:Tmps} {H:AHeap}
end
end Go.Ab
namespace Go.Ab
section
variable {P:Program} {N:Nat} {ty:TypeId→Option TyI} {l0:List Oper} {LD:LDs} {W:Bool} {Q:APost} {n:Nat} {o:Oper} {l:List (Nat×Oper)} {T:Tmps} {H:AHeap}
end
end Go.Ab
namespace Go.Ab
section
variable {P:Program} {N:Nat} {ty:TypeId→Option TyI} {l0:List Oper} {LD:LDs} {W:Bool} {Q:APost} {n:Nat} {o:Oper} {l:List (Nat×Oper)} {T:Tmps} {H:AHeap}
theorem qappL {α:Type} [Inhabited α] (hty:TyOk P ty) (f:α→List AV) (xs ys:List α) {s y:Operand} {t e:TypeId} {ti ei:TyI} {vx:AV} {sz:Nat} {el2:Nat→List AV} {ow:Own} {d:Nat} {a:Option Addr} {cap:Nat} {F:Ent→AHeap}
  (hel:∀i,i<ys.length→SubL (el2 i) (f (ys.getD i default))) (hb:(xs.length+ys.length)*ei.bytes≤140737488355328∧xs.length+ys.length≤9223372036854775807)
  (k:∀a cap,TR P N ty l0 LD W Q l ((d,sl f sz (xs++ys) (.own a cap))::T) (F (.tok a cap (xs++ys).length sz e)))
  (hg:o.guard=none:=by exact rfl) (ho:o.op=.call {callee:=.builtin .append,args:= #[s,y],argTypes:= #[t,t]}:=by exact rfl) (hd:o.dst=some d:=by exact rfl) (hN:Nat.ble (d+1) N=true:=by exact rfl)
  (hon:optN True T (tmpsOf o.op):=by exact True.intro) (hti:ty t=some ti:=by exact rfl) (hk:ti.k=.slice e:=by exact rfl) (hei:ty e=some ei:=by exact rfl) (hsz:ei.size=sz:=by exact rfl) (hpos:Nat.ble 1 sz=true:=by exact rfl)
  (hs:opvL (tmpsOf o.op) T s=some (sl f sz xs (.own a cap)):=by exact rfl) (hx:opvL (tmpsOf o.op) T y=some vx:=by exact rfl) (hvx:asSl sz vx=some (ys.length,el2,ow):=by exact rfl)
  (hi:EntAt H (.tok a cap xs.length sz e) F:=by(first|exact .here|exact .there (.here)|exact .there (.there (.here))|exact .there (.there (.there (.here)))|exact .there (.there (.there (.there (.here))))|exact .there (.there (.there (.there (.there (.here)))))|exact .there (.there (.there (.there (.there (.there (.here))))))|exact .there (.there (.there (.there (.there (.there (.there (.here)))))))|exact .there (.there (.there (.there (.there (.there (.there (.there (.here))))))))|exact .there (.there (.there (.there (.there (.there (.there (.there (.there (.here)))))))))|exact .there (.there (.there (.there (.there (.there (.there (.there (.there (.there (.here))))))))))|exact .there (.there (.there (.there (.there (.there (.there (.there (.there (.there (.there (.here)))))))))))|exact .there (.there (.there (.there (.there (.there (.there (.there (.there (.there (.there (.there (.here))))))))))))|exact .there (.there (.there (.there (.there (.there (.there (.there (.there (.there (.there (.there (.there (.here)))))))))))))|exact .there (.there (.there (.there (.there (.there (.there (.there (.there (.there (.there (.there (.there (.there (.here))))))))))))))|exact .there (.there (.there (.there (.there (.there (.there (.there (.there (.there (.there (.there (.there (.there (.there (.here))))))))))))))))):TR P N ty l0 LD W Q ((n,o)::l) T H:=by
 obtain⟨i,g1,g2⟩:=hi.spec
 have hvs:asSl sz (sl f sz xs (.own a cap))=some (xs.length,fun i=>f (xs.getD i default),.own a cap):=by
  simp[asSl,sl]
 refine TR.appendO hty i (fun ad cp=>sl f sz (xs++ys) (.own ad cp)) hg ho hd (by rw[hd];exact hN) hon hti hk hei hsz hpos hs hx hvs hvx g1 hb (fun ad cp=>glue_slS f sz xs ys el2 hel _) fun ad cp=>?_
 have:=k ad cp
 rw[g2]at this
 rw[List.length_append]at this
 exact this
end
end Go.Ab
namespace Go.Ab
def byteE (b:UInt8):List AV:=[.int .u8 b.toNat]
def byteV (s:List UInt8) (j:Nat):Value:=.int .u8 (s.getD j 0).toNat
section
variable {P:Program} {ty:TypeId→Option TyI} {o:Oper} {F:Operand→Option AV} {H:AHeap}
variable {F:Operand→Option AV}
end
section
variable {P:Program} {N:Nat} {ty:TypeId→Option TyI} {l0:List Oper} {LD:LDs} {W:Bool} {Q:APost} {n:Nat} {o:Oper} {l:List (Nat×Oper)} {T:Tmps} {H:AHeap}
def bytesA (s:List UInt8) (w:Own):AV:=sl byteE 1 s w
end
end Go.Ab
namespace Go.Ab
def byEl (s:List UInt8) (j:Nat):AV:=cond (Nat.blt j s.length) (.int .u8 (s.getD j 0).toNat) .any
def rowB (g:Nat) (e:TypeId) (cap:Nat) (s:List UInt8):Ent:=.box g e (.vec cap (byEl s))
theorem zero_one {z:Array Value} {n:Nat} (h:∀x∈z.toList,x.oneCell'=true):∀x∈(Builtin.zeroCells z n).toList,x.oneCell'=true:=by
 intro x hx
 refine h x ?_
 simp[Builtin.zeroCells]at hx
 obtain⟨a,ha,rfl⟩:=hx
 have hp:0<z.size:=by
  rcases Nat.eq_zero_or_pos z.size with h|h
  ·rw[h]at ha;omega
  ·exact h
 have hlt:=Nat.mod_lt a hp
 rw[getElem!_pos z (a%z.size) hlt]
 simp
section
variable {P:Program} {ty:TypeId→Option TyI} {o:Oper} {F:Operand→Option AV} {H:AHeap}
end
section
variable {P:Program} {N:Nat} {ty:TypeId→Option TyI} {l0:List Oper} {LD:LDs} {W:Bool} {Q:APost} {n:Nat} {o:Oper} {l:List (Nat×Oper)} {T:Tmps} {H:AHeap}
end
end Go.Ab
