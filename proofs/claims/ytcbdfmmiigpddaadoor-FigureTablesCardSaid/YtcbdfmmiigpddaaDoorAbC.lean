/-
  Where ways meet again, whatever the order of the heap.
-/
import Derived.Test.YtcbdfmmiigpddaaDoorAbB
import Derived.ChangeKeysEq
import Derived.MapKept
import Derived.Lib.AppendStr
import Derived.Lib.UnsafeStr
namespace Go.Ab
theorem allO_zero {P:Program} {N:Nat} {ty:TypeId→Option TyI} {l:List Oper} {LD:LDs} {Q:APost} {τ A:List Nat} {T:Tmps} {H:AHeap} (h:TR P N ty l LD false (pQ l Q) (sel l τ) T H):AllO P N ty l LD Q τ 0 A T H:=h
theorem awp_permS {P:Program} {N:Nat} {c:Code} {T:Tmps} {H H':AHeap} {Q:APost} (hp:H'.Perm H) (h:AWP P N c T H Q):AWP P N c T H' Q:=fun E st w a r B hc hf hd=>
 h E st w a r B (hc.perm hp) hf (hd.sub fun _ ⟨e,he,hk⟩=>⟨e,hp.mem_iff.2 he,hk⟩)
theorem cutKP {P:Program} {N:Nat} {Q:APost} {K:Tmps→AHeap→Prop} {c:Code} {Wk:Tmps} {H0:AHeap} (hK:∀T' H',AWP P N c T' H' Q→K T' H') (hA:AWP P N c Wk H0 Q):∀T' H',Weak T' Wk→H'.Perm H0→K T' H':=
 fun _ _ hw hp=>hK _ _ (awp_weaken (Weak.spec hw) (awp_permS hp hA))
theorem subAgg {vs vs':List AV} (h:SubL vs vs'):Sub (.agg vs) (.agg vs'):=by
 intro st w c hr
 cases hr with
 |agg _ cs hl hh=>
  exact .agg vs' cs (by rw[hl,h.length]) fun j v' x hv hx=>by
   obtain⟨v,h1,h2⟩:=h.get j v' hv
   exact h2 _ _ _ (hh j v x h1 hx)
inductive Pick:AHeap→Ent→AHeap→Prop
 |here {e:Ent} {G:AHeap}:Pick (e::G) e G
 |there {y e:Ent} {H G:AHeap} (h:Pick H e G):Pick (y::H) e (y::G)
theorem Pick.perm {H G:AHeap} {e:Ent} (h:Pick H e G):H.Perm (e::G):=by
 induction h with
 |here=>exact List.Perm.refl _
 |there _ ih=>exact(ih.cons _).trans (List.Perm.swap _ _ _)
section
variable {P:Program} {N:Nat} {ty:TypeId→Option TyI} {l0:List Oper} {LD:LDs} {W:Bool} {Q:APost} {n:Nat} {o:Oper} {l:List (Nat×Oper)} {T:Tmps} {H:AHeap}
theorem qcallE {cf:Operand} {args:Array Operand} {ats:Array TypeId} {f:FuncId} {first captured vs:List AV} {b0:Nat} {t0:TypeId} {u0 u1:AV} {G:AHeap} {u:AV} {d:Nat}
  (hp:Pick H (.box b0 t0 u0) G) (h:ACalls P f (first++vs++captured) [.box b0 t0 u0] fun r H'=>r=.ret u∧H'=[.box b0 t0 u1])
  (k:TR P N ty l0 LD W Q l ((d,u)::T) (.box b0 t0 u1::G))
  (hg:o.guard=none:=by exact rfl) (ho:o.op=.call {callee:=.value cf,args:=args,argTypes:=ats}:=by exact rfl) (hd:o.dst=some d:=by exact rfl)
  (hN:dstOk o.dst N=true:=by exact rfl) (hon:optN True T (tmpsOf o.op):=by exact True.intro) (hf:opvL (tmpsOf o.op) T cf=some (.func (.func f) first captured):=by exact rfl)
  (hm:mapF (opvL (tmpsOf o.op) T) args.toList=some vs:=by exact rfl) (hkb:LD.kp n t0=false:=by exact rfl) (hsc:LD.sc n=false:=by exact rfl):TR P N ty l0 LD W Q ((n,o)::l) T H:=by
 refine TR.hcall (Hc:=[.box b0 t0 u0]) (G:=G) hg ho hN hon hf hm hp.perm h (fun v H' hK=>?_) (fun v H' hK=>?_) (fun v H' hK=>?_) hsc
 ·obtain⟨e1,rfl⟩:=hK
  cases e1
  rw[hd]
  exact k
 ·obtain⟨e1,rfl⟩:=hK
  cases e1
 ·obtain⟨e1,rfl⟩:=hK
  intro b t u ht hm2
  rcases List.mem_cons.1 (hp.perm.mem_iff.1 hm2)with e|e
  ·cases e
   rw[ht]at hkb
   cases hkb
  ·exact List.mem_cons_of_mem _ e
end
end Go.Ab
namespace Go.Ab
section
variable {P:Program} {N:Nat} {ty:TypeId→Option TyI} {l0:List Oper} {LD:LDs} {W:Bool} {Q:APost} {n:Nat} {o:Oper} {l:List (Nat×Oper)} {T:Tmps} {H:AHeap}
theorem part_int (hty:TyOk P ty) {e:TypeId} {ei:TyI} {k:IntKind} {w:World} (he:ty e=some ei) (hek:ei.k=.int k) (xs:List Int) (j:Nat) (hj:j<xs.length):
  (part e ⟨xs.map (Value.int k)⟩ j).run P w=.ok (.int k (xs.getD j 0)) w:=by
 have hp:partOf ei ((xs.map (AV.int k)).drop j)=some (.int k (xs.getD j 0)):=by
  unfold partOf partOf'
  simp[hek,TyK.isOther,TyK.isAgg,List.head?_drop,List.getElem?_eq_getElem hj,List.getD]
 obtain⟨c,h1,h2⟩:=part_sound (st:=fun _ _=>False) (w:=w) hty he (cells:=xs.map (AV.int k)) (cs:=xs.map (Value.int k)) (by simp) (fun i v x hv hx=>by
  simp only[List.getElem?_map,Option.map_eq_some_iff]at hv hx
  obtain⟨a,ha,rfl⟩:=hv
  obtain⟨b,hb,rfl⟩:=hx
  rw[ha]at hb
  cases hb
  exact .int _ _) hp
 rw[h1,h2.int_eq]
theorem run_eqA2 (hty:TyOk P ty) {t e:TypeId} {i ei:TyI} {k:IntKind} {w:World} (hti:ty t=some i) (hk:i.k=.array 2 e) (he:ty e=some ei) (hek:ei.k=.int k) (hes:ei.size=1) (a b a' b':Int):
  (Op.equalIn 10000 t (.agg #[.int k a,.int k b]) (.agg #[.int k a',.int k b'])).run P w=.ok (a==a'&&b==b') w:=by
 obtain⟨⟨d,hd,hkf⟩,-⟩:=hty t i hti
 obtain⟨⟨d2,hd2,hkf2⟩,inf2,_,hinf2,hsz2,-⟩:=hty e ei he
 rw[hk]at hkf
 obtain rfl:d=.array 2 e:=hkf
 rw[hek]at hkf2
 obtain rfl:d2=.int k:=hkf2
 have hc:P.cellsOf e=1:=by simp[Program.cellsOf,hinf2,hsz2,hes]
 rw[show(10000:Nat)=9999+1 from rfl,run_equalIn_array w 9999 _ _ hd hinf2,hc]
 have p0:=fun(x y:Int)=>part_int (w:=w) hty he hek [x,y] 0 (by simp)
 have p1:=fun(x y:Int)=>part_int (w:=w) hty he hek [x,y] 1 (by simp)
 have q0:∀x y:Int,(part e #[.int k x,.int k y] (0*1)).run P w=.ok (.int k x) w:=fun x y=>p0 x y
 have q1:∀x y:Int,(part e #[.int k x,.int k y] (1*1)).run P w=.ok (.int k y) w:=fun x y=>p1 x y
 have e2:∀x y:Int,(Op.equalIn 9999 e (.int k x) (.int k y)).run P w=.ok (x==y) w:=fun x y=>run_equalIn_int w 9998 e k k x y hd2
 rw[show List.range 2=[0,1] from rfl]
 simp only[Op.eqItems,Sem.run_bind,q0,e2,Result.andThen_ok]
 cases h:(a==a')
 ·simp
 ·have q2:∀x y:Int,(part e #[.int k x,.int k y] 1).run P w=.ok (.int k y) w:=fun x y=>p1 x y
  cases h2:(b==b')<;>simp[q2,e2,h2]
theorem qneA2 (hty:TyOk P ty) {t e:TypeId} {x y:Operand} {rt:TypeId} {i ei:TyI} {k:IntKind} {a b a' b':Int} {d:Nat} (hmm:P.eqGuardType P.depth t=false) (k':TR P N ty l0 LD W Q l ((d,.bool (!(a==a'&&b==b')))::T) H)
  (ho:o.op=.binOp .neq t x y rt:=by exact rfl) (hg:o.guard=none:=by exact rfl) (hd:o.dst=some d:=by exact rfl) (hN:Nat.ble (d+1) N=true:=by exact rfl)
  (hon:optN True T (tmpsOf o.op):=by exact True.intro) (hti:ty t=some i:=by exact rfl) (hk:i.k=.array 2 e:=by exact rfl) (he:ty e=some ei:=by exact rfl) (hek:ei.k=.int k:=by exact rfl)
  (hes:ei.size=1:=by exact rfl) (hx:opvL (tmpsOf o.op) T x=some (.agg [.int k a,.int k b]):=by exact rfl) (hy:opvL (tmpsOf o.op) T y=some (.agg [.int k a',.int k b']):=by exact rfl):TR P N ty l0 LD W Q ((n,o)::l) T H:=by
 refine TR.sem (.bool (!(a==a'&&b==b'))) d hg hd hN hon (fun st w ρ hF=>?_) k'
 have two:∀(z:Value) (u v:Int),Rep st w (.agg [.int k u,.int k v]) z→z=.agg #[.int k u,.int k v]:=by
  intro z u v h
  cases h with
  |agg _ cs hl hc=>
   match cs,hl with
   |[c0,c1],_=>
    have h0:=(hc 0 _ c0 rfl rfl).int_eq
    have h1:=(hc 1 _ c1 rfl rfl).int_eq
    rw[h0,h1]
 have h1:=two _ _ _ (hF x _ hx)
 have h2:=two _ _ _ (hF y _ hy)
 have hr:=run_eqA2 (w:=w) hty hti hk he hek hes a b a' b'
 obtain⟨dst,op',type,pos,after,guard⟩:=o
 simp only at ho
 subst ho
 refine⟨.bool (!(a==a'&&b==b')),?_,.bool _⟩
 simp only[execOp,Sem.run_bind,h1,h2,run_eqGuard_agg w .neq t x y _ _ hmm,Result.andThen_ok,run_neq_struct,hr]
 rfl
end
end Go.Ab
namespace Go.Ab
open Go.MapKept
def keyEnt (p:List UInt8×Nat):MapEntry:={key:=.string ⟨p.1.toArray⟩,val:=.agg #[],born:=p.2}
def keyObj (ns:List (List UInt8)):Obj:=.map ((ns.zipIdx).map keyEnt).toArray ns.length
theorem keyObj_nil:keyObj []=.map #[] 0:=rfl
theorem keyObj_append (ns:List (List UInt8)) (s:List UInt8):keyObj (ns++[s])=.map (((ns.zipIdx).map keyEnt).toArray.push {key:=.string ⟨s.toArray⟩,val:=.agg #[],born:=ns.length}) (ns.length+1):=by
 simp[keyObj,List.zipIdx_append,keyEnt]
theorem same_key (s x:List UInt8):Instr.sameNow .string (.string ⟨s.toArray⟩) (.string ⟨x.toArray⟩)=some (s==x):=by
 simp only[Instr.sameNow]
 rw[str_beq]
theorem find_none (s:List UInt8):∀(ns:List (List UInt8)) (i k:Nat),ns.contains s=false→Instr.findNow .string (.string ⟨s.toArray⟩) ((ns.zipIdx k).map keyEnt) i=some none
 |[],i,k,_=>by simp[Instr.findNow]
 |x::ns,i,k,h=>by
  simp only[List.contains_cons,Bool.or_eq_false_iff]at h
  simp only[List.zipIdx_cons,List.map_cons,Instr.findNow,keyEnt,same_key,h.1]
  exact find_none s ns (i+1) (k+1) h.2
theorem find_some (s:List UInt8):∀(ns:List (List UInt8)) (i k:Nat),ns.contains s=true→∃j,Instr.findNow .string (.string ⟨s.toArray⟩) ((ns.zipIdx k).map keyEnt) i=some (some (j,.agg #[]))
 |[],i,k,h=>by simp at h
 |x::ns,i,k,h=>by
  simp only[List.zipIdx_cons,List.map_cons,Instr.findNow,keyEnt,same_key]
  by_cases e:(s==x)=true
  ·exact⟨i,by simp only[e]⟩
  ·have e':(s==x)=false:=by simpa using e
   simp only[List.contains_cons,e',Bool.false_or]at h
   obtain⟨j,hj⟩:=find_some s ns (i+1) (k+1) h
   exact⟨j,by simp only[e'];exact hj⟩
theorem EntAt.perm {H:AHeap} {e:Ent} {F:Ent→AHeap} (h:EntAt H e F):∃G,H.Perm (e::G)∧∀x,(F x).Perm (x::G):=by
 induction h with
 |here=>exact⟨_,.refl _,fun _=>.refl _⟩
 |there _ ih=>
  obtain⟨G,h1,h2⟩:=ih
  exact⟨_::G,(h1.cons _).trans (.swap _ _ _),fun x=>((h2 x).cons _).trans (.swap _ _ _)⟩
section
variable {P:Program} {N:Nat} {ty:TypeId→Option TyI} {T:Tmps} {H:AHeap} {Q:APost} {o:Oper} {F:Operand→Option AV}
theorem hard_makeMap {t:TypeId} (ho:o.op=.makeMap t none):
  AHard P o F H fun r H'=>∃b,r=.ret (.mapv (some b))∧H'=.obj b (keyObj [])::H:=by
 intro E st w a r next Q hc hF _ hr _
 have hrun:(execOp a.eval o).run P w=.ok (.value (.map (some w.heap.size))) (w.alloc (keyObj [])):=by
  simp[execOp,ho,Instr.makeMap,Result.andThen,keyObj_nil]
 obtain⟨c1,k1⟩:=hc.lay (keyObj [])
 have hno:¬AHeap.owns H w.heap.size:=fun h=>by have:=hc.ownlt _ h;omega
 refine upon_value_ok hrun (hr st _ (.mapv (some w.heap.size)) _ _ (c1.take (e:=.obj w.heap.size (keyObj [])) (l:=w.heap.size) (fun k=>⟨fun e=>e.symm,fun e=>e.symm⟩) (by simp) (.inr hc.size) hno ⟨fun o ho=>?_,World.alloc_heap_new w _,by simp[keyObj]⟩) k1 (.mapv _) ⟨_,rfl,rfl⟩)
 have:=hc.stlt _ _ ho
 omega
theorem hard_lookup (hty:TyOk P ty) {t kt et:TypeId} {x k:Operand} {s:List UInt8} {ns:List (List UInt8)} {b i:Nat} {ti tk te:TyI} (ho:o.op=.lookup t x k true)
  (ht:ty t=some ti) (hk:ti.k=.map kt et) (htk:ty kt=some tk) (hkk:tk.k=.str) (hte:ty et=some te) (hze:te.zero=.agg [])
  (hx:F x=some (.mapv (some b))) (hs:F k=some (.str s)) (hi:H[i]?=some (.obj b (keyObj ns))):
  AHard P o F H fun r H'=>r=.ret (.tuple [.agg [],.bool (ns.contains s)])∧H'=H:=by
 intro E st w a r next Q hc hF _ hr _
 have hes:=(hF k _ hs).str_eq
 obtain⟨g1,g2,g3⟩:=hc.ents (.obj b (keyObj ns)) (List.mem_of_getElem? hi)
 obtain⟨⟨d,hd,hfit⟩,_⟩:=hty t ti ht
 rw[hk]at hfit
 obtain rfl:d=.map kt et:=hfit
 obtain⟨⟨dk,hdk,hfk⟩,_⟩:=hty kt tk htk
 rw[hkk]at hfk
 obtain rfl:dk=.string:=hfk
 obtain⟨-,inf,z,hinf,hsz,-,hz,hzc,hzr,-⟩:=hty et te hte
 have hzr0:=hzr st w
 rw[hze]at hzr0
 obtain rfl:z=.agg #[]:=by
  cases hzr0 with
  |agg _ cs hl _=>
   obtain rfl:cs=[]:=List.eq_nil_of_length_eq_zero hl
   rfl
 have hxe:a.eval x=.map (some b):=by
  have hrep:=hF x _ hx
  generalize a.eval x=q at hrep
  cases hrep
  rfl
 have hob:w.heap[b]?=some (.map ((ns.zipIdx).map keyEnt).toArray ns.length):=g2
 have hrun:(execOp a.eval o).run P w=.ok (.value (.tuple #[.agg #[],.bool (ns.contains s)])) w:=by
  cases hb:ns.contains s with
  |false=>
   have hf:=find_none s ns 0 0 hb
   simp[execOp,ho,Instr.lookup,hxe,hes,run_underlying hd,Go.MapKept.run_getObj_map (P:=P) hob,run_checkKey hdk (k:=.string ⟨s.toArray⟩) trivial,run_findKey hdk hf,run_zeroValue hinf hz,Result.andThen]
  |true=>
   obtain⟨j,hf⟩:=find_some s ns 0 0 hb
   simp[execOp,ho,Instr.lookup,hxe,hes,run_underlying hd,Go.MapKept.run_getObj_map (P:=P) hob,run_checkKey hdk (k:=.string ⟨s.toArray⟩) trivial,run_findKey hdk hf,Result.andThen]
 refine upon_value_ok hrun (hr st _ (.tuple [.agg [],.bool (ns.contains s)]) _ H hc (Keeps.refl _ _) ?_ ⟨rfl,rfl⟩)
 exact .tuple _ _ rfl fun j v x hv hx=>by
  match j,hv,hx with
  |0,hv,hx=>simp at hv hx;subst hv;subst hx;exact .agg _ _ rfl (by simp)
  |1,hv,hx=>simp only[List.getElem?_cons_succ,List.getElem?_cons_zero,Option.some.injEq]at hv hx;subst hv;subst hx;exact .bool _
theorem hard_update (hty:TyOk P ty) {t kt et:TypeId} {x k y:Operand} {s:List UInt8} {ns:List (List UInt8)} {b:Nat} {G:AHeap} {ti tk:TyI} (ho:o.op=.mapUpdate t x k y)
  (ht:ty t=some ti) (hk:ti.k=.map kt et) (htk:ty kt=some tk) (hkk:tk.k=.str)
  (hx:F x=some (.mapv (some b))) (hs:F k=some (.str s)) (hy:F y=some (.agg [])) (hp:H.Perm (.obj b (keyObj ns)::G)) (hno:ns.contains s=false):
  AHard P o F H fun r H'=>r=.ret (.tuple [])∧H'=.obj b (keyObj (ns++[s]))::G:=by
 intro E st w a r next Q hc hF _ hr _
 have hes:=(hF k _ hs).str_eq
 have hc1:=hc.perm hp
 obtain⟨g1,g2,g3⟩:=hc1.ents (.obj b (keyObj ns)) (by simp)
 obtain⟨⟨d,hd,hfit⟩,_⟩:=hty t ti ht
 rw[hk]at hfit
 obtain rfl:d=.map kt et:=hfit
 obtain⟨⟨dk,hdk,hfk⟩,_⟩:=hty kt tk htk
 rw[hkk]at hfk
 obtain rfl:dk=.string:=hfk
 have hxe:a.eval x=.map (some b):=by
  have hrep:=hF x _ hx
  generalize a.eval x=q at hrep
  cases hrep
  rfl
 have hye:a.eval y=.agg #[]:=by
  have hrep:=hF y _ hy
  generalize a.eval y=q at hrep
  cases hrep with
  |agg _ cs hl _=>
   obtain rfl:cs=[]:=List.eq_nil_of_length_eq_zero hl
   rfl
 have hob:w.heap[b]?=some (.map ((ns.zipIdx).map keyEnt).toArray ns.length):=g2
 have hrun:(execOp a.eval o).run P w=.ok .skip (w.putObj b (keyObj (ns++[s]))):=by
  have hf:=find_none s ns 0 0 hno
  rw[keyObj_append]
  simp[execOp,ho,Instr.mapUpdate,hxe,hes,hye,run_underlying hd,Go.MapKept.run_getObj_map (P:=P) hob,run_checkKey hdk (k:=.string ⟨s.toArray⟩) trivial,run_findKey hdk hf,run_setObj_map _ hob,Result.andThen,World.putObj]
 obtain⟨c2,k2⟩:=hc1.obj (y:=keyObj (ns++[s])) (by simp[keyObj])
 exact upon_skip_ok hrun (hr st _ (.tuple []) undef _ c2 k2 (.tuple [] [] rfl (by simp)) ⟨rfl,rfl⟩)
theorem hard_updateE (hty:TyOk P ty) {t kt et:TypeId} {x k y:Operand} {s:List UInt8} {ns:List (List UInt8)} {b:Nat} {F':Ent→AHeap} {ti tk:TyI} (ho:o.op=.mapUpdate t x k y)
  (ht:ty t=some ti) (hk:ti.k=.map kt et) (htk:ty kt=some tk) (hkk:tk.k=.str)
  (hx:F x=some (.mapv (some b))) (hs:F k=some (.str s)) (hy:F y=some (.agg [])) (hi:EntAt H (.obj b (keyObj ns)) F') (hno:ns.contains s=false):
  AHard P o F H fun r H'=>r=.ret (.tuple [])∧H'=F' (.obj b (keyObj (ns++[s]))):=by
 obtain⟨G,h1,h2⟩:=hi.perm
 intro E st w a r next Q hc hF hout hr hp
 refine hard_update hty ho ht hk htk hkk hx hs hy h1 hno E st w a r next Q hc hF hout ?_ ?_
 ·rintro st' w' v c H' k1 k2 k3 ⟨e,rfl⟩
  exact hr st' w' v c _ (k1.perm (h2 _).symm) k2 k3 ⟨e,rfl⟩
 ·rintro st' w' v c H' k1 k2 k3 ⟨e,rfl⟩
  exact hp st' w' v c _ (k1.perm (h2 _).symm) k2 k3 ⟨e,rfl⟩
variable {l0:List Oper} {LD:LDs} {W:Bool} {l:List (Nat×Oper)} {n:Nat}
theorem TR.makeMap {t:TypeId} {d:Nat} (k:∀b,TR P N ty l0 LD W Q l ((d,.mapv (some b))::T) (.obj b (keyObj [])::H)) (hg:o.guard=none:=by exact rfl)
  (ho:o.op=.makeMap t none:=by exact rfl) (hd:o.dst=some d:=by exact rfl) (hN:Nat.ble (d+1) N=true:=by exact rfl) (hon:optN True T (tmpsOf o.op):=by exact True.intro):TR P N ty l0 LD W Q ((n,o)::l) T H:=by
 refine TR.hard (fun r H'=>∃b,r=.ret (.mapv (some b))∧H'=.obj b (keyObj [])::H) (.inr (by rw[ho];rfl)) hg (by rw[hd];exact hN) hon (hard_makeMap ho) ?_ ?_ (fun h=>by rw[ho]at h;cases h) (fun h=>by rw[ho]at h;cases h)
 ·rintro v H' ⟨b,e,rfl⟩
  cases e
  rw[hd]
  exact k b
 ·rintro v H' ⟨b,e,_⟩
  cases e
theorem TR.lookup (hty:TyOk P ty) {t kt et:TypeId} {x y:Operand} {s:List UInt8} {ns:List (List UInt8)} {b d:Nat} {ti tk te:TyI} (i:Nat) (hi:H[i]?=some (.obj b (keyObj ns)))
  (k:TR P N ty l0 LD W Q l ((d,.tuple [.agg [],.bool (ns.contains s)])::T) H) (hg:o.guard=none:=by exact rfl)
  (ho:o.op=.lookup t x y true:=by exact rfl) (hd:o.dst=some d:=by exact rfl) (hN:Nat.ble (d+1) N=true:=by exact rfl) (hon:optN True T (tmpsOf o.op):=by exact True.intro)
  (ht:ty t=some ti:=by exact rfl) (hk:ti.k=.map kt et:=by exact rfl) (htk:ty kt=some tk:=by exact rfl) (hkk:tk.k=.str:=by exact rfl) (hte:ty et=some te:=by exact rfl) (hze:te.zero=.agg []:=by exact rfl)
  (hx:opvL (tmpsOf o.op) T x=some (.mapv (some b)):=by exact rfl) (hs:opvL (tmpsOf o.op) T y=some (.str s):=by exact rfl):TR P N ty l0 LD W Q ((n,o)::l) T H:=by
 refine TR.hard (fun r H'=>r=.ret (.tuple [.agg [],.bool (ns.contains s)])∧H'=H) (.inr (by rw[ho];rfl)) hg (by rw[hd];exact hN) hon (hard_lookup (i:=i) hty ho ht hk htk hkk hte hze hx hs hi) ?_ ?_ (fun h=>by rw[ho]at h;cases h) (fun h=>by rw[ho]at h;cases h)
 ·rintro v H' ⟨e,rfl⟩
  cases e
  rw[hd]
  exact k
 ·rintro v H' ⟨e,_⟩
  cases e
theorem TR.update (hty:TyOk P ty) {t kt et:TypeId} {x y z:Operand} {s:List UInt8} {ns:List (List UInt8)} {b:Nat} {G:AHeap} {ti tk:TyI} (hp:H.Perm (.obj b (keyObj ns)::G)) (hno:ns.contains s=false)
  (k:TR P N ty l0 LD W Q l (putO o.dst (.tuple []) T) (.obj b (keyObj (ns++[s]))::G)) (hg:o.guard=none:=by exact rfl)
  (ho:o.op=.mapUpdate t x y z:=by exact rfl) (hN:dstOk o.dst N=true:=by exact rfl) (hon:optN True T (tmpsOf o.op):=by exact True.intro)
  (ht:ty t=some ti:=by exact rfl) (hk:ti.k=.map kt et:=by exact rfl) (htk:ty kt=some tk:=by exact rfl) (hkk:tk.k=.str:=by exact rfl)
  (hx:opvL (tmpsOf o.op) T x=some (.mapv (some b)):=by exact rfl) (hs:opvL (tmpsOf o.op) T y=some (.str s):=by exact rfl) (hz:opvL (tmpsOf o.op) T z=some (.agg []):=by exact rfl):TR P N ty l0 LD W Q ((n,o)::l) T H:=by
 refine TR.hard (fun r H'=>r=.ret (.tuple [])∧H'=.obj b (keyObj (ns++[s]))::G) (.inr (by rw[ho];rfl)) hg hN hon (hard_update hty ho ht hk htk hkk hx hs hz hp hno) ?_ ?_ (fun h=>by rw[ho]at h;cases h) (fun h=>by rw[ho]at h;cases h)
 ·rintro v H' ⟨e,rfl⟩
  cases e
  exact k
 ·rintro v H' ⟨e,_⟩
  cases e
theorem qlkp (hty:TyOk P ty) {t kt et:TypeId} {x y:Operand} {s:List UInt8} {ns:List (List UInt8)} {b d:Nat} {ti tk te:TyI}
  (k:TR P N ty l0 LD W Q l ((d,.tuple [.agg [],.bool (ns.contains s)])::T) H) (hm:Ent.obj b (keyObj ns)∈H:=by(first|exact(List.Mem.head _)|exact List.Mem.tail _ ((List.Mem.head _))|exact List.Mem.tail _ (List.Mem.tail _ ((List.Mem.head _)))|exact List.Mem.tail _ (List.Mem.tail _ (List.Mem.tail _ ((List.Mem.head _))))|exact List.Mem.tail _ (List.Mem.tail _ (List.Mem.tail _ (List.Mem.tail _ ((List.Mem.head _)))))|exact List.Mem.tail _ (List.Mem.tail _ (List.Mem.tail _ (List.Mem.tail _ (List.Mem.tail _ ((List.Mem.head _))))))|exact List.Mem.tail _ (List.Mem.tail _ (List.Mem.tail _ (List.Mem.tail _ (List.Mem.tail _ (List.Mem.tail _ ((List.Mem.head _)))))))|exact List.Mem.tail _ (List.Mem.tail _ (List.Mem.tail _ (List.Mem.tail _ (List.Mem.tail _ (List.Mem.tail _ (List.Mem.tail _ ((List.Mem.head _))))))))|exact List.Mem.tail _ (List.Mem.tail _ (List.Mem.tail _ (List.Mem.tail _ (List.Mem.tail _ (List.Mem.tail _ (List.Mem.tail _ (List.Mem.tail _ ((List.Mem.head _))))))))))) (hg:o.guard=none:=by exact rfl)
  (ho:o.op=.lookup t x y true:=by exact rfl) (hd:o.dst=some d:=by exact rfl) (hN:Nat.ble (d+1) N=true:=by exact rfl) (hon:optN True T (tmpsOf o.op):=by exact True.intro)
  (ht:ty t=some ti:=by exact rfl) (hk:ti.k=.map kt et:=by exact rfl) (htk:ty kt=some tk:=by exact rfl) (hkk:tk.k=.str:=by exact rfl) (hte:ty et=some te:=by exact rfl) (hze:te.zero=.agg []:=by exact rfl)
  (hx:opvL (tmpsOf o.op) T x=some (.mapv (some b)):=by exact rfl) (hs:opvL (tmpsOf o.op) T y=some (.str s):=by exact rfl):TR P N ty l0 LD W Q ((n,o)::l) T H:=by
 obtain⟨i,hi⟩:=List.getElem?_of_mem hm
 exact TR.lookup hty i hi k hg ho hd hN hon ht hk htk hkk hte hze hx hs
theorem qupd (hty:TyOk P ty) {t kt et:TypeId} {x y z:Operand} {s:List UInt8} {ns:List (List UInt8)} {b:Nat} {F':Ent→AHeap} {ti tk:TyI} (hno:ns.contains s=false)
  (k:TR P N ty l0 LD W Q l (putO o.dst (.tuple []) T) (F' (.obj b (keyObj (ns++[s]))))) (hi:EntAt H (.obj b (keyObj ns)) F':=by(first|exact .here|exact .there (.here)|exact .there (.there (.here))|exact .there (.there (.there (.here)))|exact .there (.there (.there (.there (.here))))|exact .there (.there (.there (.there (.there (.here)))))|exact .there (.there (.there (.there (.there (.there (.here))))))|exact .there (.there (.there (.there (.there (.there (.there (.here)))))))|exact .there (.there (.there (.there (.there (.there (.there (.there (.here))))))))|exact .there (.there (.there (.there (.there (.there (.there (.there (.there (.here)))))))))|exact .there (.there (.there (.there (.there (.there (.there (.there (.there (.there (.here))))))))))|exact .there (.there (.there (.there (.there (.there (.there (.there (.there (.there (.there (.here)))))))))))|exact .there (.there (.there (.there (.there (.there (.there (.there (.there (.there (.there (.there (.here))))))))))))|exact .there (.there (.there (.there (.there (.there (.there (.there (.there (.there (.there (.there (.there (.here)))))))))))))|exact .there (.there (.there (.there (.there (.there (.there (.there (.there (.there (.there (.there (.there (.there (.here))))))))))))))|exact .there (.there (.there (.there (.there (.there (.there (.there (.there (.there (.there (.there (.there (.there (.there (.here))))))))))))))))) (hg:o.guard=none:=by exact rfl)
  (ho:o.op=.mapUpdate t x y z:=by exact rfl) (hN:dstOk o.dst N=true:=by exact rfl) (hon:optN True T (tmpsOf o.op):=by exact True.intro)
  (ht:ty t=some ti:=by exact rfl) (hk:ti.k=.map kt et:=by exact rfl) (htk:ty kt=some tk:=by exact rfl) (hkk:tk.k=.str:=by exact rfl)
  (hx:opvL (tmpsOf o.op) T x=some (.mapv (some b)):=by exact rfl) (hs:opvL (tmpsOf o.op) T y=some (.str s):=by exact rfl) (hz:opvL (tmpsOf o.op) T z=some (.agg []):=by exact rfl):TR P N ty l0 LD W Q ((n,o)::l) T H:=by
 refine TR.hard (fun r H'=>r=.ret (.tuple [])∧H'=F' (.obj b (keyObj (ns++[s])))) (.inr (by rw[ho];rfl)) hg hN hon (hard_updateE hty ho ht hk htk hkk hx hs hz hi hno) ?_ ?_ (fun h=>by rw[ho]at h;cases h) (fun h=>by rw[ho]at h;cases h)
 ·rintro v H' ⟨e,rfl⟩
  cases e
  exact k
 ·rintro v H' ⟨e,_⟩
  cases e
theorem qcallH {cf:Operand} {args:Array Operand} {ats:Array TypeId} {f:FuncId} {first captured vs vs0:List AV} {G Hc Hc' H2:AHeap} {u:AV} (h:ACalls P f vs0 Hc fun r H'=>r=.ret u∧H'=Hc')
  (k:TR P N ty l0 LD W Q l (putO o.dst u T) H2) (hp:AppL G Hc H:=by(first|exact .nil|exact .cons (.nil)|exact .cons (.cons (.nil))|exact .cons (.cons (.cons (.nil)))|exact .cons (.cons (.cons (.cons (.nil))))|exact .cons (.cons (.cons (.cons (.cons (.nil)))))|exact .cons (.cons (.cons (.cons (.cons (.cons (.nil))))))|exact .cons (.cons (.cons (.cons (.cons (.cons (.cons (.nil)))))))|exact .cons (.cons (.cons (.cons (.cons (.cons (.cons (.cons (.nil))))))))|exact .cons (.cons (.cons (.cons (.cons (.cons (.cons (.cons (.cons (.nil)))))))))|exact .cons (.cons (.cons (.cons (.cons (.cons (.cons (.cons (.cons (.cons (.nil))))))))))|exact .cons (.cons (.cons (.cons (.cons (.cons (.cons (.cons (.cons (.cons (.cons (.nil))))))))))))) (hp2:AppL G Hc' H2:=by(first|exact .nil|exact .cons (.nil)|exact .cons (.cons (.nil))|exact .cons (.cons (.cons (.nil)))|exact .cons (.cons (.cons (.cons (.nil))))|exact .cons (.cons (.cons (.cons (.cons (.nil)))))|exact .cons (.cons (.cons (.cons (.cons (.cons (.nil))))))|exact .cons (.cons (.cons (.cons (.cons (.cons (.cons (.nil)))))))|exact .cons (.cons (.cons (.cons (.cons (.cons (.cons (.cons (.nil))))))))|exact .cons (.cons (.cons (.cons (.cons (.cons (.cons (.cons (.cons (.nil)))))))))|exact .cons (.cons (.cons (.cons (.cons (.cons (.cons (.cons (.cons (.cons (.nil))))))))))|exact .cons (.cons (.cons (.cons (.cons (.cons (.cons (.cons (.cons (.cons (.cons (.nil)))))))))))))
  (hg:o.guard=none:=by exact rfl) (ho:o.op=.call {callee:=.value cf,args:=args,argTypes:=ats}:=by exact rfl)
  (hN:dstOk o.dst N=true:=by exact rfl) (hon:optN True T (tmpsOf o.op):=by exact True.intro) (hf:opvL (tmpsOf o.op) T cf=some (.func (.func f) first captured):=by exact rfl)
  (hm:mapF (opvL (tmpsOf o.op) T) args.toList=some vs:=by exact rfl) (he:first++vs++captured=vs0:=by exact rfl)
  (hkb:(∀t,LD.kp n t=false)∨Hc=Hc':=by first|exact .inl (fun _=>rfl)|exact .inr rfl) (hsc:LD.sc n=false:=by exact rfl):TR P N ty l0 LD W Q ((n,o)::l) T H:=by
 have e1:=hp.eq
 have e2:=hp2.eq
 subst e1
 subst e2
 subst he
 refine TR.hcallT G hg ho hN hon hf hm rfl h (fun v H' hK=>?_) (fun v H' hK=>?_) (fun v H' hK=>?_) hsc
 ·obtain⟨e1,rfl⟩:=hK
  cases e1
  exact k
 ·obtain⟨e1,rfl⟩:=hK
  cases e1
 ·obtain⟨e1,rfl⟩:=hK
  rcases hkb with hkb|rfl
  ·intro b t u h
   rw[hkb t]at h
   cases h
  ·exact KeepB.refl _
theorem qcallX {ι:Type} {cf:Operand} {args:Array Operand} {ats:Array TypeId} {f:FuncId} {first captured vs vs0:List AV} {G Hc:AHeap} {Hc' H2:ι→AHeap} {u:AV} (h:ACalls P f vs0 Hc fun r H'=>r=.ret u∧∃i,H'=Hc' i)
  (k:∀i,TR P N ty l0 LD W Q l (putO o.dst u T) (H2 i)) (hp:AppL G Hc H:=by(first|exact .nil|exact .cons (.nil)|exact .cons (.cons (.nil))|exact .cons (.cons (.cons (.nil)))|exact .cons (.cons (.cons (.cons (.nil))))|exact .cons (.cons (.cons (.cons (.cons (.nil)))))|exact .cons (.cons (.cons (.cons (.cons (.cons (.nil))))))|exact .cons (.cons (.cons (.cons (.cons (.cons (.cons (.nil)))))))|exact .cons (.cons (.cons (.cons (.cons (.cons (.cons (.cons (.nil))))))))|exact .cons (.cons (.cons (.cons (.cons (.cons (.cons (.cons (.cons (.nil)))))))))|exact .cons (.cons (.cons (.cons (.cons (.cons (.cons (.cons (.cons (.cons (.nil))))))))))|exact .cons (.cons (.cons (.cons (.cons (.cons (.cons (.cons (.cons (.cons (.cons (.nil))))))))))))) (hp2:∀i,AppL G (Hc' i) (H2 i):=by intro i;(first|exact .nil|exact .cons (.nil)|exact .cons (.cons (.nil))|exact .cons (.cons (.cons (.nil)))|exact .cons (.cons (.cons (.cons (.nil))))|exact .cons (.cons (.cons (.cons (.cons (.nil)))))|exact .cons (.cons (.cons (.cons (.cons (.cons (.nil))))))|exact .cons (.cons (.cons (.cons (.cons (.cons (.cons (.nil)))))))|exact .cons (.cons (.cons (.cons (.cons (.cons (.cons (.cons (.nil))))))))|exact .cons (.cons (.cons (.cons (.cons (.cons (.cons (.cons (.cons (.nil)))))))))|exact .cons (.cons (.cons (.cons (.cons (.cons (.cons (.cons (.cons (.cons (.nil))))))))))|exact .cons (.cons (.cons (.cons (.cons (.cons (.cons (.cons (.cons (.cons (.cons (.nil)))))))))))))
  (hg:o.guard=none:=by exact rfl) (ho:o.op=.call {callee:=.value cf,args:=args,argTypes:=ats}:=by exact rfl)
  (hN:dstOk o.dst N=true:=by exact rfl) (hon:optN True T (tmpsOf o.op):=by exact True.intro) (hf:opvL (tmpsOf o.op) T cf=some (.func (.func f) first captured):=by exact rfl)
  (hm:mapF (opvL (tmpsOf o.op) T) args.toList=some vs:=by exact rfl) (he:first++vs++captured=vs0:=by exact rfl)
  (hkb:∀t,LD.kp n t=false:=by exact(fun _=>rfl)) (hsc:LD.sc n=false:=by exact rfl):TR P N ty l0 LD W Q ((n,o)::l) T H:=by
 have e1:=hp.eq
 subst e1
 subst he
 refine TR.hcallT G hg ho hN hon hf hm rfl h (fun v H' hK=>?_) (fun v H' hK=>?_) (fun v H' hK=>?_) hsc
 ·obtain⟨e1,i,rfl⟩:=hK
  cases e1
  have e2:=(hp2 i).eq
  rw[←e2]
  exact k i
 ·obtain⟨e1,_⟩:=hK
  cases e1
 ·intro b t u h
  rw[hkb t]at h
  cases h
end
end Go.Ab
namespace Go.Ab
section
variable {P:Program} {N:Nat} {ty:TypeId→Option TyI} {l0:List Oper} {LD:LDs} {W:Bool} {Q:APost} {n:Nat} {o:Oper} {l:List (Nat×Oper)} {T:Tmps} {H:AHeap}
theorem run_buildA (hty:TyOk P ty) {st:Stab} {w:World} {t e:TypeId} {i ei:TyI} {m:Nat} {z cells:List AV} (hti:ty t=some i) (hk:i.k=.array m e) (hz:i.zero=.agg z) (hei:ty e=some ei)
  {ps:List (Nat×AV)} {xs:List (Nat×Value)} (hb:abuild (partsFs e ei.size 0 m) ty z ps=some cells)
  (hxl:xs.length=ps.length) (hx:∀(j:Nat) p x,ps[j]?=some p→xs[j]?=some x→p.1=x.1∧Rep st w p.2 x.2):
  ∃c,(Instr.build t ⟨xs⟩).run P w=.ok c w∧Rep st w (.agg cells) c:=by
 obtain⟨⟨d,hd,hkf⟩,inf,zv,hinf,hsz,hby,hzz,hzs,hzr⟩:=hty t i hti
 obtain⟨-,inf2,_,hinf2,hsz2,-⟩:=hty e ei hei
 rw[hk]at hkf
 obtain rfl:d=.array m e:=hkf
 have hzr':=hzr.1 st w
 rw[hz]at hzr'
 cases hzr' with
 |agg _ zc hzl hzc=>
  obtain⟨cs',h1,h2,h3⟩:=abuild_sound (st:=st) (w:=w) (ty:=ty) (fs:=partsFs e ei.size 0 m) (place:=fun i=>some (i*ei.size,ei.size))
   (fun f off ft i hf hi=>by
     obtain⟨rfl,rfl⟩:=partsFs_get e ei.size m 0 f off ft hf
     rw[hei]at hi
     simp at hi
     subst hi
     simp) ps xs z cells zc hb hzl hzc hxl hx
  refine⟨.agg ⟨cs'⟩,?_,.agg cells cs' h2 h3⟩
  unfold Instr.build
  have hzv:(zeroValue t).run P w=.ok (.agg ⟨zc⟩) w:=by rw[run_zeroValue hinf hzz]
  have hso:(sizeOf e).run P w=.ok ei.size w:=by rw[run_sizeOf hinf2,hsz2]
  rw[Sem.run_bind,hzv,Result.andThen_ok,Sem.run_bind,run_underlying hd,Result.andThen_ok]
  simp only[Sem.run_bind]
  rw[hso,Result.andThen_ok]
  have h1':Instr.fill (fun i=>some (i*ei.size,ei.size)) (Value.agg ⟨zc⟩).cells xs=some ⟨cs'⟩:=h1
  simp only[h1']
  rfl
theorem qarr (hty:TyOk P ty) {t e:TypeId} {ps:Array (Nat×Operand)} {i ei:TyI} {m:Nat} {z cells:List AV} {vs:List (Nat×AV)} {d:Nat} (k':TR P N ty l0 LD W Q l ((d,.agg cells)::T) H)
  (ho:o.op=.build t ps:=by exact rfl) (hg:o.guard=none:=by exact rfl) (hd:o.dst=some d:=by exact rfl) (hN:Nat.ble (d+1) N=true:=by exact rfl)
  (hon:optN True T (tmpsOf o.op):=by exact True.intro) (hti:ty t=some i:=by exact rfl) (hk:i.k=.array m e:=by exact rfl) (hz:i.zero=.agg z:=by exact rfl) (he:ty e=some ei:=by exact rfl)
  (hm:mapP (opvL (tmpsOf o.op) T) ps.toList=some vs:=by exact rfl) (hb:abuild (partsFs e ei.size 0 m) ty z vs=some cells:=by exact rfl):TR P N ty l0 LD W Q ((n,o)::l) T H:=by
 refine TR.sem (.agg cells) d hg hd hN hon (fun st w ρ hF=>?_) k'
 obtain⟨hl,hr⟩:=mapP_sound hF _ _ hm
 obtain⟨c,h1,h2⟩:=run_buildA (st:=st) (w:=w) hty hti hk hz he hb hl hr
 refine⟨c,?_,h2⟩
 obtain⟨dst,op',type,pos,after,guard⟩:=o
 simp only at ho
 subst ho
 have e':(ps.map fun(x:Nat×Operand)=>(x.1,ρ x.2))=⟨ps.toList.map fun p=>(p.1,ρ p.2)⟩:=by
  apply Array.ext'
  simp
 show((do pure (.value (←Instr.build t (ps.map fun(x:Nat×Operand)=>(x.1,ρ x.2))))):Sem Next).run P w=_
 rw[e']
 exact exec_v h1
theorem qaix (hty:TyOk P ty) {t e:TypeId} {x y:Operand} {i ei:TyI} {m:Nat} {k:IntKind} {j:Int} {cells:List AV} {v:AV} {d:Nat}
  (k':TR P N ty l0 LD W Q l ((d,v)::T) H)
  (ho:o.op=.index t x y:=by exact rfl) (hg:o.guard=none:=by exact rfl) (hd:o.dst=some d:=by exact rfl) (hN:Nat.ble (d+1) N=true:=by exact rfl)
  (hon:optN True T (tmpsOf o.op):=by exact True.intro) (hti:ty t=some i:=by exact rfl) (hk:i.k=.array m e:=by exact rfl) (he:ty e=some ei:=by exact rfl)
  (hx:opvL (tmpsOf o.op) T x=some (.agg cells):=by exact rfl) (hy:opvL (tmpsOf o.op) T y=some (.int k j):=by exact rfl)
  (hp:partOf ei (cells.drop (j.toNat*ei.size))=some v:=by exact rfl) (hj:0≤j∧j<(m:Int):=by first|decide|omega):TR P N ty l0 LD W Q ((n,o)::l) T H:=by
 refine TR.sem v d hg hd hN hon (fun st w ρ hF=>?_) k'
 have h2:=(hF y _ hy).int_eq
 have h1:=hF x _ hx
 generalize hxv:ρ x=xv at h1
 cases h1 with
 |agg _ cs hl hc=>
  obtain⟨⟨dd,hdd,hkf⟩,-⟩:=hty t i hti
  obtain⟨-,inf2,_,hinf2,hsz2,-⟩:=hty e ei he
  rw[hk]at hkf
  obtain rfl:dd=.array m e:=hkf
  obtain⟨c,g1,g2⟩:=part_sound (st:=st) (w:=w) hty he hl hc hp
  refine⟨c,?_,g2⟩
  obtain⟨dst,op',type,pos,after,guard⟩:=o
  simp only at ho
  subst ho
  have hso:(sizeOf e).run P w=.ok ei.size w:=by rw[run_sizeOf hinf2,hsz2]
  show((do pure (.value (←Instr.index t (ρ x) (ρ y)))):Sem Next).run P w=_
  rw[hxv,h2]
  refine exec_v ?_
  unfold Instr.index
  simp only[asIntOf,Sem.run_bind,Sem.run_pure,Result.andThen_ok,run_underlying hdd,hj.1,hj.2,if_true,and_self,hso,g1]
theorem cutKF {K:Tmps→AHeap→Prop} {c:Code} {Wk:Tmps} {H0:AHeap} (hK:∀T' H',AWP P N c T' H' Q→K T' H') (hA:AWP P N c Wk H0 Q):∀T' F,Weak T' Wk→K T' (F++H0):=
 fun _ _ hw=>hK _ _ (awp_weaken (Weak.spec hw) (awp_dropF hA))
end
end Go.Ab
namespace Go.Ab
section
variable {P:Program} {N:Nat} {ty:TypeId→Option TyI} {l0:List Oper} {LD:LDs} {W:Bool} {Q:APost} {n:Nat} {o:Oper} {l:List (Nat×Oper)} {T:Tmps} {H:AHeap}
theorem qiaR (hty:TyOk P ty) {t e:TypeId} {x y:Operand} {i ei:TyI} {m:Nat} {k:IntKind} {j:Int} {cells:List AV} {d:Nat}
  (k':TR P N ty l0 LD W Q l ((d,.rptr (cells.drop (j.toNat*ei.size)))::T) H)
  (ho:o.op=.indexAddr t x y:=by exact rfl) (hg:o.guard=none:=by exact rfl) (hd:o.dst=some d:=by exact rfl) (hN:Nat.ble (d+1) N=true:=by exact rfl)
  (hon:optN True T (tmpsOf o.op):=by exact True.intro) (hti:ty t=some i:=by exact rfl) (hk:i.k=.array m e:=by exact rfl) (he:ty e=some ei:=by exact rfl)
  (hx:opvL (tmpsOf o.op) T x=some (.rptr cells):=by exact rfl) (hy:opvL (tmpsOf o.op) T y=some (.int k j):=by exact rfl)
  (hj:0≤j∧j<(m:Int):=by first|decide|omega):TR P N ty l0 LD W Q ((n,o)::l) T H:=by
 refine TR.sem (.rptr (cells.drop (j.toNat*ei.size))) d hg hd hN hon (fun st w ρ hF=>?_) k'
 have h2:=(hF y _ hy).int_eq
 have h1:=hF x _ hx
 generalize hxv:ρ x=xv at h1
 cases h1 with
 |rptr _ b off c hcell hrep=>
  obtain⟨⟨dd,hdd,hkf⟩,-⟩:=hty t i hti
  obtain⟨-,inf2,_,hinf2,hsz2,-⟩:=hty e ei he
  rw[hk]at hkf
  obtain rfl:dd=.array m e:=hkf
  refine⟨.pointer (some ⟨b,off+j.toNat*ei.size,none⟩),?_,.rptr _ b (off+j.toNat*ei.size) (fun z=>c (j.toNat*ei.size+z)) (fun z hz=>?_) (fun z v hv=>?_)⟩
  ·obtain⟨dst,op',type,pos,after,guard⟩:=o
   simp only at ho
   subst ho
   show((do pure (.value (←Instr.indexAt t (ρ x) (ρ y)))):Sem Next).run P w=_
   rw[hxv,h2]
   refine exec_v ?_
   unfold Instr.indexAt
   simp[asIntOf,run_underlying hdd,run_sizeOf hinf2,hsz2,hj.1,hj.2,addr_add,Instr.sureAddr]
  ·have:=hcell (j.toNat*ei.size+z) (by simp at hz;omega)
   simpa [Nat.add_assoc]using this
  ·exact hrep (j.toNat*ei.size+z) v (by simpa using hv)
end
end Go.Ab
namespace Go.Ab
section
variable {P:Program} {N:Nat} {ty:TypeId→Option TyI} {l0:List Oper} {LD:LDs} {W:Bool} {Q:APost} {n:Nat} {o:Oper} {l:List (Nat×Oper)} {T:Tmps} {H:AHeap}
theorem qappL {α:Type} [Inhabited α] (hty:TyOk P ty) (f:α→List AV) (xs ys:List α) {s y:Operand} {t e:TypeId} {ti ei:TyI} {vx:AV} {sz:Nat} {el2:Nat→List AV} {ow:Own} {d:Nat} {a:Option Addr} {cap:Nat} {F:Ent→AHeap}
  (hel:∀i,i<ys.length→SubL (el2 i) (f (ys.getD i default))) (hb:(xs.length+ys.length)*ei.bytes≤140737488355328∧xs.length+ys.length≤9223372036854775807)
  (k:∀a cap,TR P N ty l0 LD W Q l ((d,sl f sz (xs++ys) (.own a cap))::T) (F (.tok a cap (xs++ys).length sz e)))
  (hg:o.guard=none:=by exact rfl) (ho:o.op=.call {callee:=.builtin .append,args:= #[s,y],argTypes:= #[t,t]}:=by exact rfl) (hd:o.dst=some d:=by exact rfl) (hN:Nat.ble (d+1) N=true:=by exact rfl)
  (hon:optN True T (tmpsOf o.op):=by exact True.intro) (hti:ty t=some ti:=by exact rfl) (hk:ti.k=.slice e:=by exact rfl) (hei:ty e=some ei:=by exact rfl) (hsz:ei.size=sz:=by exact rfl) (hpos:Nat.ble 1 sz=true:=by exact rfl)
  (hs:opvL (tmpsOf o.op) T s=some (sl f sz xs (.own a cap)):=by exact rfl) (hx:opvL (tmpsOf o.op) T y=some vx:=by exact rfl) (hvx:asSl sz vx=some (ys.length,el2,ow):=by exact rfl)
  (hi:EntAt H (.tok a cap xs.length sz e) F:=by(first|exact .here|exact .there (.here)|exact .there (.there (.here))|exact .there (.there (.there (.here)))|exact .there (.there (.there (.there (.here))))|exact .there (.there (.there (.there (.there (.here)))))|exact .there (.there (.there (.there (.there (.there (.here))))))|exact .there (.there (.there (.there (.there (.there (.there (.here)))))))|exact .there (.there (.there (.there (.there (.there (.there (.there (.here))))))))|exact .there (.there (.there (.there (.there (.there (.there (.there (.there (.here)))))))))|exact .there (.there (.there (.there (.there (.there (.there (.there (.there (.there (.here))))))))))|exact .there (.there (.there (.there (.there (.there (.there (.there (.there (.there (.there (.here)))))))))))|exact .there (.there (.there (.there (.there (.there (.there (.there (.there (.there (.there (.there (.here))))))))))))|exact .there (.there (.there (.there (.there (.there (.there (.there (.there (.there (.there (.there (.there (.here)))))))))))))|exact .there (.there (.there (.there (.there (.there (.there (.there (.there (.there (.there (.there (.there (.there (.here))))))))))))))|exact .there (.there (.there (.there (.there (.there (.there (.there (.there (.there (.there (.there (.there (.there (.there (.here))))))))))))))))):TR P N ty l0 LD W Q ((n,o)::l) T H:=by
 obtain⟨i,g1,g2⟩:=hi.spec
 have hvs:asSl sz (sl f sz xs (.own a cap))=some (xs.length,fun i=>f (xs.getD i default),.own a cap):=by
  simp[asSl,sl]
 refine TR.appendO hty i (fun ad cp=>sl f sz (xs++ys) (.own ad cp)) hg ho hd (by rw[hd];exact hN) hon hti hk hei hsz hpos hs hx hvs hvx g1 hb (fun ad cp=>glue_slS f sz xs ys el2 hel _) fun ad cp=>?_
 have:=k ad cp
 rw[g2]at this
 rw[List.length_append]at this
 exact this
end
end Go.Ab
namespace Go.Ab
def byteE (b:UInt8):List AV:=[.int .u8 b.toNat]
def byteV (s:List UInt8) (j:Nat):Value:=.int .u8 (s.getD j 0).toNat
theorem strCells_get (s:List UInt8) (j:Nat) (hj:j<s.length):(Lib.strCells ⟨s.toArray⟩)[j]?=some (byteV s j):=by
 simp[Lib.strCells,byteV,List.getD,hj]
theorem strCells_len (s:List UInt8):(Lib.strCells ⟨s.toArray⟩).length=s.length:=by simp[Lib.strCells]
theorem size_of (s:List UInt8):(ByteArray.mk s.toArray).size=s.length:=by simp[ByteArray.size]
theorem RowOf.bytes {st st':Stab} {w w':World} {n:Nat} {el:Nat→List AV} {a a':Option Addr} {b off b' off':Nat} {C D:Nat→Value} {s:List UInt8}
  (h1:RowOf st w 1 n el a b off C) (k:Keeps st st' w w') (ha:n+s.length=0∨a'=some ⟨b',off',none⟩)
  (hD1:∀j,j<n→D j=C j) (hD2:∀j,j<s.length→D (n+j)=byteV s j) (hst:∀j,j<n+s.length→st' b' (off'+j)∧w'.cell? ⟨b',off'+j,none⟩=some (D j)):
  RowOf st' w' 1 (n+s.length) (Go.Ab.glue n el (fun i=>byteE (s.getD i 0))) a' b' off' D:=by
 refine⟨ha,fun i hi=>?_,fun j hj=>hst j (by omega),fun i j v hi hv=>?_,fun j hj=>?_⟩
 ·unfold Go.Ab.glue
  split
  ·rename_i h;exact h1.len i h
  ·rfl
 ·unfold Go.Ab.glue at hv
  split at hv
  ·rename_i h
   have hjs:j<1:=by
    have:=(List.getElem?_eq_some_iff.1 hv).1
    rw[h1.len i h]at this
    exact this
   rw[hD1 _ (by omega)]
   exact(h1.rep i j v h hv).mono k
  ·rename_i h
   match j,hv with
   |0,hv=>
    simp only[byteE,List.getElem?_cons_zero,Option.some.injEq]at hv
    subst hv
    have e:i*1+0=n+(i-n):=by omega
    rw[e,hD2 _ (by omega)]
    exact .int _ _
   |j+1,hv=>simp[byteE]at hv
 ·by_cases h:j<n
  ·rw[hD1 j h];exact h1.one j (by omega)
  ·have e:j=n+(j-n):=by omega
   rw[e,hD2 _ (by omega)]
   rfl
section
variable {P:Program} {ty:TypeId→Option TyI} {o:Oper} {F:Operand→Option AV} {H:AHeap}
theorem append_growS {E:Env0} {st:Stab} {w:World} {t u tt e:TypeId} {inf:TypeInfo} {z:Value} {n cap:Nat} {el:Nat→List AV} {a:Option Addr} {b off:Nat} {C:Nat→Value} {s:List UInt8}
  (hc:Conc E st H w) (hd:P.underlying t=some (.slice e)) (hu:P.underlying u=some .string) (hinf:P.info? e=some inf) (hz:inf.zero=some z) (hsz:inf.size=1) (hzs:z.cells.size=1)
  (h1:RowOf st w 1 n el a b off C) (hnil:a=none→cap=0) (hg:cap<n+s.length) (hcap:n≤cap) (hmax:n+s.length≤maxLen) (hb:(n+s.length)*inf.bytes≤140737488355328):
  ∃w' st' cap' D,(Builtin.append_ #[t,u] tt #[.slice a n cap,.string ⟨s.toArray⟩]).run P w=.ok (.slice (some ⟨w.heap.size,0,none⟩) (n+s.length) cap') w'∧
   Conc E st' (.tok (some ⟨w.heap.size,0,none⟩) cap' (n+s.length) 1 e::H) w'∧Keeps st st' w w'∧n+s.length≤cap'∧
   RowOf st' w' 1 (n+s.length) (Go.Ab.glue n el (fun i=>byteE (s.getD i 0))) (some ⟨w.heap.size,0,none⟩) w.heap.size 0 D:=by
 let olds:=(List.range n).map C
 have hol:olds.length=n*inf.size:=by simp[olds,hsz]
 have hsl:=size_of s
 have hcl:=strCells_len s
 obtain⟨cap',hcap',hcm,hrun⟩:∃cap',n+s.length≤cap'∧cap'≤maxLen∧(Builtin.append_ #[t,u] tt #[.slice a n cap,.string ⟨s.toArray⟩]).run P w=
   .ok (.slice (some ⟨w.heap.size,0,none⟩) (n+s.length) cap') (w.drew.alloc (.cells (olds.toArray++(Lib.strCells ⟨s.toArray⟩).toArray++Builtin.zeroCells z.cells (cap'-(n+s.length))) e)):=by
  have h63:((n+s.length:Nat):Int)≤9223372036854775807:=by simp only[maxLen]at hmax;omega
  cases ha:a with
  |none=>
   have hn0:n=0:=by have:=hnil ha;omega
   have hc0:=hnil ha
   subst hn0
   subst hc0
   have ho0:olds=[]:=by simp[olds]
   refine⟨grownCap w s.length 0 e,by simpa using grownCap_ge w s.length 0 e,grownCap_le_maxLen w s.length 0 e (by simpa using hmax),?_⟩
   have hr:=run_append_nil_string (P:=P) w t u tt e inf z hd hu hinf hz ⟨s.toArray⟩ (by rw[hsl];omega) (by rw[hsl];simpa using h63) (by rw[hsl];simp only[Nat.zero_add]at hb;omega)
   rw[hsl]at hr
   simpa [ho0,Lib.strCells]using hr
  |some ad=>
   have holds:∀j v,olds[j]?=some v→w.cell? (ad.add j)=some v:=by
    intro j v hv
    obtain⟨hj,rfl⟩:=map_range_get j v hv
    have hn0:n≠0:=by omega
    have:=row_base h1 hn0
    rw[ha]at this
    simp at this
    subst this
    rw[addr_add]
    exact(h1.cell j (by omega)).2
   refine⟨grownCap w (n+s.length) cap e,grownCap_ge w (n+s.length) cap e,grownCap_le_maxLen w (n+s.length) cap e hmax,?_⟩
   have hr:=Lib.run_append_grow_string (P:=P) w t u tt e inf z hd hu hinf hz ad n cap olds hol holds ⟨s.toArray⟩ (by rw[hsl];exact hg) (by rw[hsl];exact h63) (by rw[hsl];exact growslice_fits hg hb)
   rw[hsl]at hr
   exact hr
 let D:Nat→Value:=fun j=>if j<n then C j else byteV s (j-n)
 let arr:=olds.toArray++(Lib.strCells ⟨s.toArray⟩).toArray++Builtin.zeroCells z.cells (cap'-(n+s.length))
 have harr:∀j,j<n+s.length→arr[j]?=some (D j):=by
  intro j hj
  have e1:arr[j]?=(olds++Lib.strCells ⟨s.toArray⟩)[j]?:=by
   simp only[arr]
   rw[Array.getElem?_append_left (by simp[olds,hcl];omega)]
   simp
  rw[e1]
  simp only[D]
  split
  ·rename_i h
   rw[List.getElem?_append_left (by simpa [olds]using h)]
   simp[olds,h]
  ·rename_i h
   have hl:olds.length=n:=by simp[olds]
   rw[List.getElem?_append_right (by omega),hl]
   exact strCells_get s _ (by omega)
 have hasz:arr.size=cap'*1:=by
  simp only[arr,Array.size_append,List.size_toArray,size_zeroCells,hzs,hol,hcl,hsz]
  omega
 let st':Stab:=fun b o=>st b o∨(b=w.heap.size∧o<n+s.length)
 have hw:(w.drew.alloc (.cells arr e)).heap[w.heap.size]?=some (.cells arr e):=heap_alloc_new w.drew _
 have hgrow:=Conc.grow (st':=st') (w':=w.drew.alloc (.cells arr e)) (Hn:=[.tok (some ⟨w.heap.size,0,none⟩) cap' (n+s.length) 1 e]) hc rfl rfl rfl (by simp) (fun k hk=>heap_alloc_old w.drew _ hk)
  (fun b o h=>.inl h) (fun b o h=>by
    rcases h with h|⟨rfl,h⟩
    ·exact .inl h
    ·exact .inr ⟨Nat.le_refl _,by simp⟩) ?_ ?_ (by simp) (fun b o h=>by
    rcases h with h|⟨rfl,_⟩
    ·exact .inl h
    ·exact .inr ⟨_,_,hw⟩)
 ·refine⟨_,st',cap',D,hrun,hgrow.1,hgrow.2,hcap',?_⟩
  refine RowOf.bytes h1 hgrow.2 (.inr rfl) (fun j hj=>if_pos hj) (fun j hj=>(if_neg (by omega)).trans (by rw[Nat.add_sub_cancel_left])) (fun j hj=>⟨.inr ⟨rfl,by simpa using hj⟩,?_⟩)
  rw[Nat.zero_add]
  have:=cell_of_row _ w.heap.size j arr e (0,0) hw
  rw[this]
  exact harr j hj
 ·intro e1 he1
  simp at he1
  subst he1
  by_cases h:cap'=n+s.length
  ·exact .inl h
  ·refine .inr ⟨by omega,w.heap.size,arr,rfl,hw,hcm,hasz,fun o ho hs=>?_⟩
   rcases hs with hs|⟨_,hs⟩
   ·exact absurd (hc.stlt _ _ hs) (by omega)
   ·omega
 ·rintro k ⟨e1,he1,hk⟩
  simp at he1
  subst he1
  obtain⟨_,ad,had,rfl⟩:=hk
  simp at had
  subst had
  simp
theorem append_roomS {E:Env0} {st:Stab} {w:World} {t u tt e:TypeId} {inf:TypeInfo} {n cap:Nat} {el:Nat→List AV} {a:Option Addr} {b off:Nat} {C:Nat→Value} {G:AHeap} {s:List UInt8}
  (hc:Conc E st (.tok a cap n 1 e::G) w) (hd:P.underlying t=some (.slice e)) (hu:P.underlying u=some .string) (hinf:P.info? e=some inf) (hsz:inf.size=1)
  (h1:RowOf st w 1 n el a b off C) (hm:s.length≠0) (hroom:n+s.length≤cap):
  ∃w' st' D b' off',(Builtin.append_ #[t,u] tt #[.slice a n cap,.string ⟨s.toArray⟩]).run P w=.ok (.slice a (n+s.length) cap) w'∧
   Conc E st' (.tok a cap (n+s.length) 1 e::G) w'∧Keeps st st' w w'∧RowOf st' w' 1 (n+s.length) (Go.Ab.glue n el (fun i=>byteE (s.getD i 0))) a b' off' D:=by
 have hown:Ent.holds st w (.tok a cap n 1 e):=hc.ents _ (by simp)
 rcases hown with h|⟨hlt,g,cur,rfl,hg,hcm,hcs,hns⟩
 ·omega
 have hsl:=size_of s
 have hcl:=strCells_len s
 have hrun:=Lib.run_append_room_string (P:=P) w t u tt e inf hd hu hinf hsz g n cap cur hg ⟨s.toArray⟩ (by rw[hsl];exact hroom) (by rw[hsl];omega)
 rw[hsl]at hrun
 let arr:=(cur.toList.take n++Lib.strCells ⟨s.toArray⟩++cur.toList.drop (n+s.length)).toArray
 have hcurC:∀j,j<n→cur[j]?=some (C j):=by
  intro j hj
  have hb:=row_base h1 (by omega)
  simp at hb
  obtain⟨rfl,rfl⟩:=hb
  have:=(h1.cell j (by omega)).2
  rw[Nat.zero_add,cell_of_row w g j cur e (0,0) hg]at this
  exact this
 let D:Nat→Value:=fun j=>if j<n then C j else byteV s (j-n)
 have harr:∀j,j<n+s.length→arr[j]?=some (D j):=by
  intro j hj
  simp only[arr,D]
  rw[List.getElem?_toArray,List.getElem?_append_left (by simp[hcl];omega)]
  split
  ·rename_i h
   rw[List.getElem?_append_left (by simp;omega),List.getElem?_take,if_pos h]
   simpa using hcurC j h
  ·rename_i h
   rw[List.getElem?_append_right (by simp;omega)]
   have e1:(cur.toList.take n).length=n:=by simp;omega
   rw[e1]
   exact strCells_get s _ (by omega)
 have hsize:arr.size=cap*1:=by
  simp only[arr,List.size_toArray,List.length_append,List.length_take,List.length_drop,Array.length_toList,hcl]
  omega
 let st':Stab:=fun b o=>st b o∨(b=g∧n≤o∧o<n+s.length)
 have hw:(w.setRow g arr).heap[g]?=some (.cells arr e (0,0)):=setRow_heap w g cur arr e (0,0) hg
 have hmod:=Conc.mod (st':=st') (e':=.tok (some ⟨g,0,none⟩) cap (n+s.length) 1 e) (g:=g) (w':=w.setRow g arr) hc ⟨hlt,_,rfl,rfl⟩ rfl rfl rfl setRow_keep (fun k hk=>setRow_other w g k arr hk)
  (fun o hs=>by
    have ho:o<n:=by
     rcases Nat.lt_or_ge o n with h|h
     ·exact h
     ·exact absurd hs (hns o (by omega))
    rw[cell_of_row _ g o arr e (0,0) hw,cell_of_row _ g o cur e (0,0) hg]
    rw[harr o (by omega),hcurC o ho]
    simp[D,ho])
  (fun b o h=>.inl h) (fun b o h=>by
    rcases h with h|⟨h,_⟩
    ·exact .inl h
    ·exact .inr h) ?_ (fun k ⟨hk,ad,had,hb⟩=>⟨hlt,ad,had,hb⟩) (fun k ⟨_,ad,had,hb⟩=>by simp at had;subst had;exact hb.symm) ⟨_,_,hw⟩
 ·refine⟨_,st',D,g,0,hrun,hmod.1,hmod.2,?_⟩
  refine RowOf.bytes h1 hmod.2 (.inr rfl) (fun j hj=>if_pos hj) (fun j hj=>(if_neg (by omega)).trans (by rw[Nat.add_sub_cancel_left])) (fun j hj=>⟨?_,?_⟩)
  ·rw[Nat.zero_add]
   by_cases h:j<n
   ·refine .inl ?_
    have hb:=row_base h1 (by omega)
    simp at hb
    obtain⟨rfl,rfl⟩:=hb
    simpa using (h1.cell j (by omega)).1
   ·exact .inr ⟨rfl,by omega,hj⟩
  ·rw[Nat.zero_add,cell_of_row _ g j arr e (0,0) hw]
   exact harr j hj
 ·by_cases h:cap=n+s.length
  ·exact .inl h
  ·refine .inr ⟨by omega,g,arr,rfl,hw,hcm,hsize,fun o ho hs=>?_⟩
   rcases hs with hs|⟨_,_,hs⟩
   ·exact hns o (by omega) hs
   ·omega
variable {F:Operand→Option AV}
theorem run_append_zeroS {P:Program} {w:World} {t u tt e:TypeId} {inf:TypeInfo} {a:Option Addr} {n cap:Nat} (hd:P.underlying t=some (.slice e)) (hu:P.underlying u=some .string) (hinf:P.info? e=some inf) (hn:n≤cap):
  (Builtin.append_ #[t,u] tt #[.slice a n cap,.string ⟨#[]⟩]).run P w=.ok (.slice a n cap) w:=by
 have e0:(ByteArray.mk #[]).size=0:=rfl
 cases a<;>simp[e0,Builtin.append_,run_underlying hd,run_underlying hu,sizeOf,typeInfo,hinf,Builtin.lenOf,hn,Builtin.firstCells,loadCells,storeCells]
theorem hard_append_str (hty:TyOk P ty) {s x:Operand} {t u e:TypeId} {ti ui ei:TyI} {vs:AV} {n:Nat} {el:Nat→List AV} {V:Option Addr→Nat→AV} {a:Option Addr} {cap:Nat} {y:List UInt8} (i:Nat)
  (ho:o.op=.call {callee:=.builtin .append,args:= #[s,x],argTypes:= #[t,u]}) (hti:ty t=some ti) (hk:ti.k=.slice e) (hui:ty u=some ui) (huk:ui.k=.str) (hei:ty e=some ei) (hsz:ei.size=1)
  (hs:F s=some vs) (hx:F x=some (.str y)) (hvs:asSl 1 vs=some (n,el,.own a cap)) (hi:H[i]?=some (.tok a cap n 1 e))
  (hb:(n+y.length)*ei.bytes≤140737488355328∧n+y.length≤9223372036854775807) (hV:∀a cap,Sub (.slice 1 (n+y.length) (Go.Ab.glue n el (fun i=>byteE (y.getD i 0))) (.own a cap)) (V a cap)):
  AHard P o F H fun r H'=>∃a cap,r=.ret (V a cap)∧H'=H.set i (.tok a cap (n+y.length) 1 e):=by
 intro E st w act r next Q hc hF _ hr _
 obtain⟨⟨d,hd,hkf⟩,-⟩:=hty t ti hti
 rw[hk]at hkf
 obtain rfl:d=.slice e:=hkf
 obtain⟨⟨d2,hd2,hkf2⟩,-⟩:=hty u ui hui
 rw[huk]at hkf2
 obtain rfl:d2=.string:=hkf2
 obtain⟨-,inf,z,hinf,hisz,hby,hz,hzs,hzr,-⟩:=hty e ei hei
 obtain⟨a',cap',b,off,C,hsv,hn,hok,h1⟩:=row_of (asSl_rep hvs (hF s vs hs)) (Nat.one_pos)
 obtain⟨rfl,rfl⟩:a'=a∧cap'=cap:=hok
 have hxv:act.eval x=.string ⟨y.toArray⟩:=by
  have h:=hF x _ hx
  generalize act.eval x=c at h
  cases h
  rfl
 have hexec:∀v' w',(Builtin.append_ #[t,u] o.type #[.slice a' n cap',.string ⟨y.toArray⟩]).run P w=.ok v' w'→(execOp act.eval o).run P w=.ok (.value v') w':=by
  intro v' w' h
  simp[execOp,ho,resolve,invoke,builtin,hsv,hxv,h]
 have hc1:=hc.perm (perm_eraseIdx H i _ hi)
 by_cases hm:y.length=0
 ·obtain rfl:y=[]:=List.eq_nil_of_length_eq_zero hm
  have hrun:=run_append_zeroS (P:=P) (w:=w) (tt:=o.type) (a:=a') (n:=n) (cap:=cap') hd hd2 hinf hn
  refine upon_value_ok (hexec _ _ hrun) (hr st w (V a' cap') _ _ (hc1.perm (perm_set H i _ _ hi)) (Keeps.refl st w) ?_ ⟨a',cap',rfl,rfl⟩)
  refine hV a' cap' _ _ _ (rep_of_row (b:=b) (off:=off) (C:=C) hn ⟨rfl,rfl⟩ ?_)
  exact⟨h1.base,fun i hi=>by rw[Go.Ab.glue,if_pos (show i<n from hi)];exact h1.len i hi,h1.cell,fun i j v hi hv=>h1.rep i j v hi (by rw[Go.Ab.glue,if_pos (show i<n from hi)]at hv;exact hv),h1.one⟩
 ·by_cases hroom:n+y.length≤cap'
  ·obtain⟨w',st',D,b',off',hrun,hc',hkp,hrow⟩:=append_roomS (P:=P) (tt:=o.type) (s:=y) hc1 hd hd2 hinf (by omega) h1 hm hroom
   exact upon_value_ok (hexec _ _ hrun) (hr st' w' (V _ cap') _ _ (hc'.perm (perm_set H i _ _ hi)) hkp (hV _ cap' _ _ _ (rep_of_row hroom ⟨rfl,rfl⟩ hrow)) ⟨_,cap',rfl,rfl⟩)
  ·have hnil:a'=none→cap'=0:=by
    rintro rfl
    rcases hc1.ents _ (List.mem_cons_self ..)with h|⟨_,g,cur,h,_⟩
    ·rcases h1.base with h'|h'
     ·omega
     ·cases h'
    ·cases h
   have hc2:Conc E st (H.eraseIdx i) w:=Conc.drop_front (F:=[_]) hc1
   obtain⟨w',st',cap2',D,hrun,hc',hkp,hcap',hrow⟩:=append_growS (P:=P) (tt:=o.type) (s:=y) hc2 hd hd2 hinf hz (by omega) (by omega) h1 hnil (by omega) hn (by simp only[maxLen];omega) (by rw[hby];exact hb.1)
   exact upon_value_ok (hexec _ _ hrun) (hr st' w' (V _ cap2') _ _ (hc'.perm (perm_set H i _ _ hi)) hkp (hV _ cap2' _ _ _ (rep_of_row hcap' ⟨rfl,rfl⟩ hrow)) ⟨_,cap2',rfl,rfl⟩)
end
section
variable {P:Program} {N:Nat} {ty:TypeId→Option TyI} {l0:List Oper} {LD:LDs} {W:Bool} {Q:APost} {n:Nat} {o:Oper} {l:List (Nat×Oper)} {T:Tmps} {H:AHeap}
def bytesA (s:List UInt8) (w:Own):AV:=sl byteE 1 s w
theorem qappS (hty:TyOk P ty) (xs ys:List UInt8) {s y:Operand} {t u e:TypeId} {ti ui ei:TyI} {d:Nat} {a:Option Addr} {cap:Nat} {F:Ent→AHeap}
  (hb:(xs.length+ys.length)*ei.bytes≤140737488355328∧xs.length+ys.length≤9223372036854775807)
  (k:∀a cap,TR P N ty l0 LD W Q l ((d,bytesA (xs++ys) (.own a cap))::T) (F (.tok a cap (xs++ys).length 1 e)))
  (hg:o.guard=none:=by exact rfl) (ho:o.op=.call {callee:=.builtin .append,args:= #[s,y],argTypes:= #[t,u]}:=by exact rfl) (hd:o.dst=some d:=by exact rfl) (hN:Nat.ble (d+1) N=true:=by exact rfl)
  (hon:optN True T (tmpsOf o.op):=by exact True.intro) (hti:ty t=some ti:=by exact rfl) (hk:ti.k=.slice e:=by exact rfl) (hui:ty u=some ui:=by exact rfl) (huk:ui.k=.str:=by exact rfl) (hei:ty e=some ei:=by exact rfl) (hsz:ei.size=1:=by exact rfl)
  (hs:opvL (tmpsOf o.op) T s=some (bytesA xs (.own a cap)):=by exact rfl) (hx:opvL (tmpsOf o.op) T y=some (.str ys):=by exact rfl)
  (hi:EntAt H (.tok a cap xs.length 1 e) F:=by(first|exact .here|exact .there (.here)|exact .there (.there (.here))|exact .there (.there (.there (.here)))|exact .there (.there (.there (.there (.here))))|exact .there (.there (.there (.there (.there (.here)))))|exact .there (.there (.there (.there (.there (.there (.here))))))|exact .there (.there (.there (.there (.there (.there (.there (.here)))))))|exact .there (.there (.there (.there (.there (.there (.there (.there (.here))))))))|exact .there (.there (.there (.there (.there (.there (.there (.there (.there (.here)))))))))|exact .there (.there (.there (.there (.there (.there (.there (.there (.there (.there (.here))))))))))|exact .there (.there (.there (.there (.there (.there (.there (.there (.there (.there (.there (.here)))))))))))|exact .there (.there (.there (.there (.there (.there (.there (.there (.there (.there (.there (.there (.here))))))))))))|exact .there (.there (.there (.there (.there (.there (.there (.there (.there (.there (.there (.there (.there (.here)))))))))))))|exact .there (.there (.there (.there (.there (.there (.there (.there (.there (.there (.there (.there (.there (.there (.here))))))))))))))|exact .there (.there (.there (.there (.there (.there (.there (.there (.there (.there (.there (.there (.there (.there (.there (.here))))))))))))))))):TR P N ty l0 LD W Q ((n,o)::l) T H:=by
 obtain⟨i,g1,g2⟩:=hi.spec
 have hvs:asSl 1 (bytesA xs (.own a cap))=some (xs.length,fun i=>byteE (xs.getD i default),.own a cap):=by
  simp[asSl,bytesA,sl]
 refine TR.hard _ (.inr (by rw[ho];rfl)) hg (by rw[hd];exact hN) hon (hard_append_str (V:=fun ad cp=>bytesA (xs++ys) (.own ad cp)) hty i ho hti hk hui huk hei hsz hs hx hvs g1 hb (fun ad cp=>glue_slS byteE 1 xs ys _ (fun j _=>SubL.refl _) _)) ?_ ?_ (fun _ v H' ⟨_,_,_,e⟩=>e▸KeepB.setTok g1 _) (fun h=>by rw[ho]at h;cases h)
 ·rintro v H' ⟨a,cap,e,rfl⟩
  cases e
  rw[hd]
  have:=k a cap
  rw[g2]at this
  rw[List.length_append]at this
  exact this
 ·rintro v H' ⟨a,cap,e,rfl⟩
  cases e
end
end Go.Ab
namespace Go.Ab
def byEl (s:List UInt8) (j:Nat):AV:=cond (Nat.blt j s.length) (.int .u8 (s.getD j 0).toNat) .any
def rowB (g:Nat) (e:TypeId) (cap:Nat) (s:List UInt8):Ent:=.box g e (.vec cap (byEl s))
theorem rowB_rep {st:Stab} {w:World} {cap:Nat} {s:List UInt8} {cs:List Value} (hl:cs.length=cap) (h:∀j,j<s.length→cs[j]?=some (byteV s j)) (hone:∀x∈cs,x.oneCell'=true):Rep st w (.vec cap (byEl s)) (.agg ⟨cs⟩):=by
 refine .vec _ _ _ hl (fun j x hx=>?_) hone
 unfold byEl
 by_cases hj:j<s.length
 ·have hb:Nat.blt j s.length=true:=by rw[Nat.blt_eq];exact hj
  have:=(h j hj).symm.trans hx
  simp only[Option.some.injEq]at this
  subst this
  rw[hb]
  exact .int _ _
 ·have hb:Nat.blt j s.length=false:=by rw[←Bool.not_eq_true,Nat.blt_eq];exact hj
  rw[hb]
  exact .any _
theorem rowB_get {st:Stab} {w:World} {cap:Nat} {s:List UInt8} {cv:Value} (hc:s.length≤cap) (h:Rep st w (.vec cap (byEl s)) cv):
  ∃cs,cv=.agg ⟨cs⟩∧cs.length=cap∧(∀j,j<s.length→cs[j]?=some (byteV s j))∧∀x∈cs,x.oneCell'=true:=by
 cases h with
 |vec _ _ cs hl h hone=>
  refine⟨cs,rfl,hl,fun j hj=>?_,hone⟩
  have hj2:j<cs.length:=by omega
  have h1:=h j _ (List.getElem?_eq_getElem hj2)
  unfold byEl at h1
  have hb:Nat.blt j s.length=true:=by rw[Nat.blt_eq];exact hj
  rw[hb]at h1
  rw[List.getElem?_eq_getElem hj2]
  generalize cs[j]=x at h1
  cases h1
  rfl
theorem zero_one {z:Array Value} {n:Nat} (h:∀x∈z.toList,x.oneCell'=true):∀x∈(Builtin.zeroCells z n).toList,x.oneCell'=true:=by
 intro x hx
 refine h x ?_
 simp[Builtin.zeroCells]at hx
 obtain⟨a,ha,rfl⟩:=hx
 have hp:0<z.size:=by
  rcases Nat.eq_zero_or_pos z.size with h|h
  ·rw[h]at ha;omega
  ·exact h
 have hlt:=Nat.mod_lt a hp
 rw[getElem!_pos z (a%z.size) hlt]
 simp
section
variable {P:Program} {ty:TypeId→Option TyI} {o:Oper} {F:Operand→Option AV} {H:AHeap}
theorem hard_app_nil (hty:TyOk P ty) {s x:Operand} {t u e:TypeId} {ti ui ei:TyI} {y:List UInt8}
  (ho:o.op=.call {callee:=.builtin .append,args:= #[s,x],argTypes:= #[t,u]}) (hti:ty t=some ti) (hk:ti.k=.slice e) (hui:ty u=some ui) (huk:ui.k=.str) (hei:ty e=some ei) (hsz:ei.size=1)
  (hs:F s=some .nils) (hx:F x=some (.str y)) (h0:y≠[]) (hb:y.length*ei.bytes≤140737488355328∧y.length≤9223372036854775807):
  AHard P o F H fun r H'=>∃g cap,y.length≤cap∧cap≤maxLen∧r=.ret (.mslice g 0 y.length cap)∧H'=rowB g e cap y::H:=by
 intro E st w act r next Q hc hF _ hr _
 obtain⟨⟨d,hd,hkf⟩,-⟩:=hty t ti hti
 rw[hk]at hkf
 obtain rfl:d=.slice e:=hkf
 obtain⟨⟨d2,hd2,hkf2⟩,-⟩:=hty u ui hui
 rw[huk]at hkf2
 obtain rfl:d2=.string:=hkf2
 obtain⟨-,inf,z,hinf,hisz,hby,hz,hzs,hzr,hzo⟩:=hty e ei hei
 have hsv:act.eval s=.slice none 0 0:=by
  have h:=hF s _ hs
  generalize act.eval s=c at h
  cases h
  rfl
 have hxv:act.eval x=.string ⟨y.toArray⟩:=by
  have h:=hF x _ hx
  generalize act.eval x=c at h
  cases h
  rfl
 have hsl:=size_of y
 have hcl:=strCells_len y
 have hpos:0<y.length:=List.length_pos_iff.2 h0
 have hcap:=grownCap_ge w y.length 0 e
 have hmax:=grownCap_le_maxLen w y.length 0 e (by simp only[maxLen];omega)
 have hrun:=run_append_nil_string (P:=P) w t u o.type e inf z hd hd2 hinf hz ⟨y.toArray⟩ (by rw[hsl];exact hpos) (by rw[hsl];omega) (by rw[hsl,hby];omega)
 rw[hsl]at hrun
 generalize hg:grownCap w y.length 0 e=cap' at hrun hcap hmax
 have hexec:∀v' w',(Builtin.append_ #[t,u] o.type #[.slice none 0 0,.string ⟨y.toArray⟩]).run P w=.ok v' w'→(execOp act.eval o).run P w=.ok (.value v') w':=by
  intro v' w' h
  simp[execOp,ho,resolve,invoke,builtin,hsv,hxv,h]
 have e1:(((⟨y.toArray⟩:ByteArray).data.map fun b=>Value.int .u8 b.toNat))=(Lib.strCells ⟨y.toArray⟩).toArray:=by
  apply Array.ext'
  simp[Lib.strCells]
 rw[e1]at hrun
 generalize harrd:(Lib.strCells ⟨y.toArray⟩).toArray++Builtin.zeroCells z.cells (cap'-y.length)=arr at hrun
 have hw:(w.drew.alloc (.cells arr e)).heap[w.heap.size]?=some (.cells arr e):=heap_alloc_new w.drew _
 have hlen:arr.toList.length=cap':=by
  rw[←harrd]
  simp only[Array.length_toList,Array.size_append,List.size_toArray,size_zeroCells,hzs,hcl,hsz]
  omega
 have hget:∀j,j<y.length→arr.toList[j]?=some (byteV y j):=by
  intro j hj
  rw[←harrd]
  simp only[Array.toList_append]
  rw[List.getElem?_append_left (by rw[hcl];exact hj)]
  exact strCells_get y j hj
 have hone:∀x∈arr.toList,x.oneCell'=true:=by
  intro x hx
  rw[←harrd]at hx
  simp only[Array.toList_append,List.mem_append]at hx
  rcases hx with hx|hx
  ·exact Lib.strCells_oneCell _ x hx
  ·exact zero_one hzo x hx
 have hgrow:=Conc.grow (st':=st) (w':=w.drew.alloc (.cells arr e)) (Hn:=[rowB w.heap.size e cap' y]) hc rfl rfl rfl (by simp) (fun k hk=>heap_alloc_old w.drew _ hk)
  (fun b o h=>h) (fun b o h=>.inl h) ?_ ?_ (by simp)
 ·exact upon_value_ok (hexec _ _ hrun) (hr st _ (.mslice w.heap.size 0 y.length cap') _ _ hgrow.1 hgrow.2 (.mslice _ _ _ _) ⟨_,_,hcap,hmax,rfl,rfl⟩)
 ·intro e1 he1
  simp at he1
  subst he1
  exact⟨arr,.agg arr,hw,rowB_rep hlen hget hone,rfl,hone,fun o hs=>absurd (hc.stlt _ _ hs) (by omega)⟩
 ·rintro k ⟨e1,he1,hk⟩
  simp at he1
  subst he1
  have hk:w.heap.size=k:=hk
  subst hk
  simp
theorem hard_app_row (hty:TyOk P ty) {s x:Operand} {t u e:TypeId} {ti ui ei:TyI} {xs y:List UInt8} {g cap:Nat} (i:Nat)
  (ho:o.op=.call {callee:=.builtin .append,args:= #[s,x],argTypes:= #[t,u]}) (hti:ty t=some ti) (hk:ti.k=.slice e) (hui:ty u=some ui) (huk:ui.k=.str) (hei:ty e=some ei) (hsz:ei.size=1)
  (hs:F s=some (.mslice g 0 xs.length cap)) (hx:F x=some (.str y)) (h0:y≠[]) (hcx:xs.length≤cap) (hcm:cap≤maxLen) (hi:H[i]?=some (rowB g e cap xs))
  (hb:(xs.length+y.length)*ei.bytes≤140737488355328∧xs.length+y.length≤9223372036854775807):
  AHard P o F H fun r H'=>∃g' cap',(xs++y).length≤cap'∧cap'≤maxLen∧r=.ret (.mslice g' 0 (xs++y).length cap')∧H'=H.set i (rowB g' e cap' (xs++y)):=by
 intro E st w act r next Q hc hF _ hr _
 obtain⟨⟨d,hd,hkf⟩,-⟩:=hty t ti hti
 rw[hk]at hkf
 obtain rfl:d=.slice e:=hkf
 obtain⟨⟨d2,hd2,hkf2⟩,-⟩:=hty u ui hui
 rw[huk]at hkf2
 obtain rfl:d2=.string:=hkf2
 obtain⟨-,inf,z,hinf,hisz,hby,hz,hzs,hzr,hzo⟩:=hty e ei hei
 have hsv:act.eval s=.slice (some ⟨g,0,none⟩) xs.length cap:=by
  have h:=hF s _ hs
  generalize act.eval s=c at h
  cases h
  rfl
 have hxv:act.eval x=.string ⟨y.toArray⟩:=by
  have h:=hF x _ hx
  generalize act.eval x=c at h
  cases h
  rfl
 have hsl:=size_of y
 have hcl:=strCells_len y
 have hpos:0<y.length:=List.length_pos_iff.2 h0
 have hexec:∀v' w',(Builtin.append_ #[t,u] o.type #[.slice (some ⟨g,0,none⟩) xs.length cap,.string ⟨y.toArray⟩]).run P w=.ok v' w'→(execOp act.eval o).run P w=.ok (.value v') w':=by
  intro v' w' h
  simp[execOp,ho,resolve,invoke,builtin,hsv,hxv,h]
 have hc1:=hc.perm (perm_eraseIdx H i _ hi)
 obtain⟨arr,cv,hg,hrep,hcells,hone0,hns⟩:=hc1.ents _ (List.mem_cons_self ..)
 obtain⟨cs,rfl,hcl2,hget0,hone⟩:=rowB_get hcx hrep
 obtain rfl:(⟨cs⟩:Array Value)=arr:=hcells
 have hla:(xs++y).length=xs.length+y.length:=List.length_append
 have hcells2:∀(rest:List Value) (j:Nat),j<(xs++y).length→(cs.take xs.length++Lib.strCells ⟨y.toArray⟩++rest)[j]?=some (byteV (xs++y) j):=by
  intro rest j hj
  have ht:(cs.take xs.length).length=xs.length:=by simp;omega
  rw[List.getElem?_append_left (by rw[List.length_append,ht,hcl];omega)]
  by_cases h:j<xs.length
  ·rw[List.getElem?_append_left (by omega),List.getElem?_take,if_pos h,hget0 j h]
   simp[byteV,List.getD,List.getElem?_append_left h]
  ·rw[List.getElem?_append_right (by omega),ht,strCells_get y _ (by omega)]
   simp[byteV,List.getD,List.getElem?_append_right (Nat.le_of_not_lt h)]
 by_cases hroom:xs.length+y.length≤cap
 ·have hrun:=Lib.run_append_room_string (P:=P) w t u o.type e inf hd hd2 hinf (by omega) g xs.length cap ⟨cs⟩ hg ⟨y.toArray⟩ (by rw[hsl];exact hroom) (by rw[hsl];simp;omega)
  rw[hsl]at hrun
  have hst:=hc1.store (u':=.vec cap (byEl (xs++y))) (arr':=(cs.take xs.length++Lib.strCells ⟨y.toArray⟩++cs.drop (xs.length+y.length)).toArray) (cv':=.agg (cs.take xs.length++Lib.strCells ⟨y.toArray⟩++cs.drop (xs.length+y.length)).toArray) hg
   (rowB_rep (by simp[hcl];omega) (hcells2 _) ?_) rfl ?_
  ·refine upon_value_ok (hexec _ _ hrun) (hr st _ (.mslice g 0 (xs++y).length cap) _ _ (hst.1.perm (perm_set H i _ _ hi)) hst.2 (by rw[hla];exact .mslice _ _ _ _) ⟨_,_,by rw[hla];exact hroom,hcm,rfl,rfl⟩)
  all_goals
   intro x hx
   simp only[List.mem_append]at hx
   rcases hx with(hx|hx)|hx
   ·exact hone x (List.mem_of_mem_take hx)
   ·exact Lib.strCells_oneCell _ x hx
   ·exact hone x (List.mem_of_mem_drop hx)
 ·have holds:∀j v,(cs.take xs.length)[j]?=some v→w.cell? ((⟨g,0,none⟩:Addr).add j)=some v:=by
   intro j v hv
   rw[List.getElem?_take]at hv
   split at hv
   ·rw[addr_add,Nat.zero_add,cell_of_row w g j ⟨cs⟩ e (0,0) hg]
    simpa using hv
   ·cases hv
  have hcap:=grownCap_ge w (xs.length+y.length) cap e
  have hmax:=grownCap_le_maxLen w (xs.length+y.length) cap e (by simp only[maxLen];omega)
  have hrun:=Lib.run_append_grow_string (P:=P) w t u o.type e inf z hd hd2 hinf hz ⟨g,0,none⟩ xs.length cap (cs.take xs.length) (by simp[hisz,hsz];omega) holds ⟨y.toArray⟩ (by rw[hsl];omega) (by rw[hsl];omega) (by rw[hsl];exact growslice_fits (by omega) (by rw[hby];exact hb.1))
  rw[hsl]at hrun
  generalize hgc:grownCap w (xs.length+y.length) cap e=cap' at hrun hcap hmax
  have hc2:Conc E st (H.eraseIdx i) w:=Conc.drop_front (F:=[_]) hc1
  generalize harrd:(cs.take xs.length).toArray++(Lib.strCells ⟨y.toArray⟩).toArray++Builtin.zeroCells z.cells (cap'-(xs.length+y.length))=arr at hrun
  have harrl:arr.toList=cs.take xs.length++Lib.strCells ⟨y.toArray⟩++(Builtin.zeroCells z.cells (cap'-(xs.length+y.length))).toList:=by
   rw[←harrd]
   simp
  have hw:(w.drew.alloc (.cells arr e)).heap[w.heap.size]?=some (.cells arr e):=heap_alloc_new w.drew _
  have hlen:arr.toList.length=cap':=by
   rw[harrl]
   simp only[List.length_append,List.length_take,Array.length_toList,size_zeroCells,hzs,hcl,hsz]
   omega
  have hone2:∀x∈arr.toList,x.oneCell'=true:=by
   intro x hx
   rw[harrl]at hx
   simp only[List.mem_append]at hx
   rcases hx with(hx|hx)|hx
   ·exact hone x (List.mem_of_mem_take hx)
   ·exact Lib.strCells_oneCell _ x hx
   ·exact zero_one hzo x hx
  have hgrow:=Conc.grow (st':=st) (w':=w.drew.alloc (.cells arr e)) (Hn:=[rowB w.heap.size e cap' (xs++y)]) hc2 rfl rfl rfl (by simp) (fun k hk=>heap_alloc_old w.drew _ hk)
   (fun b o h=>h) (fun b o h=>.inl h) ?_ ?_ (by simp)
  ·exact upon_value_ok (hexec _ _ hrun) (hr st _ (.mslice w.heap.size 0 (xs++y).length cap') _ _ (hgrow.1.perm (perm_set H i _ _ hi)) hgrow.2 (by rw[hla];exact .mslice _ _ _ _) ⟨_,_,by rw[hla];exact hcap,hmax,rfl,rfl⟩)
  ·intro e1 he1
   simp at he1
   subst he1
   exact⟨arr,.agg arr,hw,rowB_rep hlen (fun j hj=>by rw[harrl];exact hcells2 _ j hj) hone2,rfl,hone2,fun o hs=>absurd (hc.stlt _ _ hs) (by omega)⟩
  ·rintro k ⟨e1,he1,hk⟩
   simp at he1
   subst he1
   have hk:w.heap.size=k:=hk
   subst hk
   simp
theorem hard_sliceData {s:Operand} {ts:Array TypeId} {g n cap:Nat} (ho:o.op=.call {callee:=.builtin .unsafeSliceData,args:= #[s],argTypes:=ts}) (hs:F s=some (.mslice g 0 n cap)) (hc0:cap≠0):
  AHard P o F H fun r H'=>r=.ret (.ptr g 0)∧H'=H:=by
 intro E st w act r next Q hc hF _ hr _
 have hsv:act.eval s=.slice (some ⟨g,0,none⟩) n cap:=by
  have h:=hF s _ hs
  generalize act.eval s=c at h
  cases h
  rfl
 have hrun:=Lib.run_unsafeSliceData_row (P:=P) w ts o.type ⟨g,0,none⟩ n cap hc0
 have hexec:(execOp act.eval o).run P w=.ok (.value (.pointer (some ⟨g,0,none⟩))) w:=by
  simp[execOp,ho,resolve,invoke,builtin,hsv,hrun]
 exact upon_value_ok hexec (hr st w (.ptr g 0) _ _ hc (Keeps.refl st w) (.ptr _ _) ⟨rfl,rfl⟩)
theorem freeze_other (w:World) (g n k:Nat) (hk:k≠g):(w.freeze ⟨g,0,none⟩ n).heap[k]?=w.heap[k]?:=by
 unfold World.freeze
 split
 ·rfl
 ·simp only[Array.getElem?_modify]
  rw[if_neg (by omega)]
theorem freeze_size (w:World) (g n:Nat):(w.freeze ⟨g,0,none⟩ n).heap.size=w.heap.size:=by
 unfold World.freeze
 split<;>simp
theorem Conc.frozen {E:Env0} {st:Stab} {w:World} {g n:Nat} {e:Ent} {G:AHeap} (hc1:Conc E st (e::G) w) (hns:∀o,¬st g o) (how:e.owns g):Conc E st G (w.freeze ⟨g,0,none⟩ n)∧Keeps st st w (w.freeze ⟨g,0,none⟩ n):=by
 have hkc:∀b o,st b o→(w.freeze ⟨g,0,none⟩ n).cell? ⟨b,o,none⟩=w.cell? ⟨b,o,none⟩:=fun b o hs=>
  World.cell?_of_block (w:=w) (freeze_other w g _ b (by rintro rfl;exact hns _ hs))
 have hk:Keeps st st w (w.freeze ⟨g,0,none⟩ n):=⟨fun _ _ h=>h,hkc⟩
 have hc2:Conc E st (G) w:=Conc.drop_front (F:=[_]) hc1
 have hsep:=(List.pairwise_cons.1 hc1.sep).1
 have hno:¬AHeap.owns (G) g:=fun⟨e1,h1,h2⟩=>hsep e1 h1 g how h2
 have hO:E.O g∨E.w0.heap.size≤g:=hc1.ownnew g ⟨_,List.mem_cons_self ..,how⟩
 have hfr:∀{α:Type} (f:World→α),(∀h,f {w with heap:=h}=f w)→f (w.freeze ⟨g,0,none⟩ n)=f w:=by
  intro α f hf
  unfold World.freeze
  split
  ·rfl
  ·exact hf _
 have hcf:Conc E st (G) (w.freeze ⟨g,0,none⟩ n):=by
  refine⟨(hfr (·.os) (fun _=>rfl)).trans hc2.os,(hfr (·.tape) (fun _=>rfl)).trans hc2.tape,(hfr (·.output) (fun _=>rfl)).trans hc2.output,by rw[freeze_size];exact hc2.size,fun k hk hO2=>?_,fun b o hs=>(hkc b o (hc2.stle b o hs)).trans (hc2.keep b o hs),hc2.stle,hc2.stnew,fun b o hs=>by rw[freeze_size];exact hc2.stlt b o hs,hc2.ownnew,fun k hk=>by rw[freeze_size];exact hc2.ownlt k hk,fun e1 h1=>?_,hc2.sep,fun b o hs hk=>(hc2.fz b o hs hk).same (freeze_other w g _ b (by rintro rfl;exact hns _ hs))⟩
  ·refine(freeze_other w g _ k ?_).trans (hc2.old k hk hO2)
   rintro rfl
   rcases hO with h|h
   ·exact hO2 h
   ·omega
  ·exact Ent.holds_keep hk (hc2.ents e1 h1) (fun b hb=>freeze_other w g _ b (by rintro rfl;exact hno ⟨e1,h1,hb⟩)) (fun _ _ _ h=>h)
 exact⟨hcf,hk⟩
theorem hard_unsafeString {x y:Operand} {t u e:TypeId} {g cap:Nat} {xs:List UInt8} (i:Nat) (ho:o.op=.call {callee:=.builtin .unsafeString,args:= #[x,y],argTypes:= #[t,u]})
  (ht:P.underlying t=some (.pointer e)) (he:P.cellsOf e=1) (hx:F x=some (.ptr g 0)) (hy:F y=some (.int .i64 xs.length)) (h0:xs≠[]) (hcx:xs.length≤cap) (h63:xs.length≤9223372036854775807) (hi:H[i]?=some (rowB g e cap xs)):
  AHard P o F H fun r H'=>r=.ret (.str xs)∧H'=H.eraseIdx i:=by
 intro E st w act r next Q hc hF _ hr _
 have hxv:act.eval x=.pointer (some ⟨g,0,none⟩):=by
  have h:=hF x _ hx
  generalize act.eval x=c at h
  cases h
  rfl
 have hyv:act.eval y=.int .i64 xs.length:=by
  have h:=hF y _ hy
  generalize act.eval y=c at h
  cases h
  rfl
 have hc1:=hc.perm (perm_eraseIdx H i _ hi)
 obtain⟨arr,cv,hg,hrep,hcells,hone0,hns⟩:=hc1.ents _ (List.mem_cons_self ..)
 obtain⟨cs,rfl,hcl2,hget0,hone⟩:=rowB_get hcx hrep
 obtain rfl:(⟨cs⟩:Array Value)=arr:=hcells
 have hrun:=Lib.run_unsafeString_row (P:=P) w t u o.type e ht he g cs.length (by simp[World.shape?,hg]) xs h0 (by omega) h63 (fun j b hb=>by
  have hj:j<xs.length:=(List.getElem?_eq_some_iff.1 hb).1
  rw[addr_add,Nat.zero_add,cell_of_row w g j ⟨cs⟩ e (0,0) hg]
  have:=hget0 j hj
  simp only[byteV,List.getD,hb,Option.getD_some]at this
  simpa using this)
 have hexec:(execOp act.eval o).run P w=.ok (.value (.string ⟨xs.toArray⟩)) (w.freeze ⟨g,0,none⟩ xs.length):=by
  simp[execOp,ho,resolve,invoke,builtin,hxv,hyv,hrun]
 obtain⟨hcf,hk⟩:=Conc.frozen (n:=xs.length) hc1 hns rfl
 exact upon_value_ok hexec (hr st _ (.str xs) _ _ hcf hk (.str _) ⟨rfl,rfl⟩)
end
section
variable {P:Program} {N:Nat} {ty:TypeId→Option TyI} {l0:List Oper} {LD:LDs} {W:Bool} {Q:APost} {n:Nat} {o:Oper} {l:List (Nat×Oper)} {T:Tmps} {H:AHeap}
theorem qappN (hty:TyOk P ty) (ys:List UInt8) {s y:Operand} {t u e:TypeId} {ti ui ei:TyI} {d:Nat} (h0:ys≠[]) (hb:ys.length*ei.bytes≤140737488355328∧ys.length≤9223372036854775807)
  (k:∀g cap,ys.length≤cap→cap≤maxLen→TR P N ty l0 LD W Q l ((d,.mslice g 0 ys.length cap)::T) (rowB g e cap ys::H))
  (hg:o.guard=none:=by exact rfl) (ho:o.op=.call {callee:=.builtin .append,args:= #[s,y],argTypes:= #[t,u]}:=by exact rfl) (hd:o.dst=some d:=by exact rfl) (hN:Nat.ble (d+1) N=true:=by exact rfl)
  (hon:optN True T (tmpsOf o.op):=by exact True.intro) (hti:ty t=some ti:=by exact rfl) (hk:ti.k=.slice e:=by exact rfl) (hui:ty u=some ui:=by exact rfl) (huk:ui.k=.str:=by exact rfl) (hei:ty e=some ei:=by exact rfl) (hsz:ei.size=1:=by exact rfl)
  (hs:opvL (tmpsOf o.op) T s=some .nils:=by exact rfl) (hx:opvL (tmpsOf o.op) T y=some (.str ys):=by exact rfl):TR P N ty l0 LD W Q ((n,o)::l) T H:=by
 refine TR.hard _ (.inr (by rw[ho];rfl)) hg (by rw[hd];exact hN) hon (hard_app_nil hty ho hti hk hui huk hei hsz hs hx h0 hb) ?_ ?_ (fun _ v H' ⟨g,cap,_,_,_,e⟩=>e▸KeepB.cons _ _) (fun h=>by rw[ho]at h;cases h)
 ·rintro v H' ⟨g,cap,h1,h2,e,rfl⟩
  cases e
  rw[hd]
  exact k g cap h1 h2
 ·rintro v H' ⟨g,cap,_,_,e,_⟩
  cases e
theorem qappR (hty:TyOk P ty) (xs ys:List UInt8) {s y:Operand} {t u e:TypeId} {ti ui ei:TyI} {d g cap:Nat} {F:Ent→AHeap} (h0:ys≠[]) (hcx:xs.length≤cap) (hcm:cap≤maxLen) (hb:(xs.length+ys.length)*ei.bytes≤140737488355328∧xs.length+ys.length≤9223372036854775807)
  (k:∀g cap,(xs++ys).length≤cap→cap≤maxLen→TR P N ty l0 LD W Q l ((d,.mslice g 0 (xs++ys).length cap)::T) (F (rowB g e cap (xs++ys))))
  (hg:o.guard=none:=by exact rfl) (ho:o.op=.call {callee:=.builtin .append,args:= #[s,y],argTypes:= #[t,u]}:=by exact rfl) (hd:o.dst=some d:=by exact rfl) (hN:Nat.ble (d+1) N=true:=by exact rfl)
  (hon:optN True T (tmpsOf o.op):=by exact True.intro) (hti:ty t=some ti:=by exact rfl) (hk:ti.k=.slice e:=by exact rfl) (hui:ty u=some ui:=by exact rfl) (huk:ui.k=.str:=by exact rfl) (hei:ty e=some ei:=by exact rfl) (hsz:ei.size=1:=by exact rfl)
  (hs:opvL (tmpsOf o.op) T s=some (.mslice g 0 xs.length cap):=by exact rfl) (hx:opvL (tmpsOf o.op) T y=some (.str ys):=by exact rfl) (hkp:LD.kp n e=false:=by exact rfl)
  (hi:EntAt H (rowB g e cap xs) F:=by(first|exact .here|exact .there (.here)|exact .there (.there (.here))|exact .there (.there (.there (.here)))|exact .there (.there (.there (.there (.here))))|exact .there (.there (.there (.there (.there (.here)))))|exact .there (.there (.there (.there (.there (.there (.here))))))|exact .there (.there (.there (.there (.there (.there (.there (.here)))))))|exact .there (.there (.there (.there (.there (.there (.there (.there (.here))))))))|exact .there (.there (.there (.there (.there (.there (.there (.there (.there (.here)))))))))|exact .there (.there (.there (.there (.there (.there (.there (.there (.there (.there (.here))))))))))|exact .there (.there (.there (.there (.there (.there (.there (.there (.there (.there (.there (.here)))))))))))|exact .there (.there (.there (.there (.there (.there (.there (.there (.there (.there (.there (.there (.here))))))))))))|exact .there (.there (.there (.there (.there (.there (.there (.there (.there (.there (.there (.there (.there (.here)))))))))))))|exact .there (.there (.there (.there (.there (.there (.there (.there (.there (.there (.there (.there (.there (.there (.here))))))))))))))|exact .there (.there (.there (.there (.there (.there (.there (.there (.there (.there (.there (.there (.there (.there (.there (.here))))))))))))))))):TR P N ty l0 LD W Q ((n,o)::l) T H:=by
 obtain⟨i,g1,g2⟩:=hi.spec
 refine TR.hard _ (.inr (by rw[ho];rfl)) hg (by rw[hd];exact hN) hon (hard_app_row hty i ho hti hk hui huk hei hsz hs hx h0 hcx hcm g1 hb) ?_ ?_ (fun _ v H' ⟨g,cap,_,_,_,e⟩=>e▸KeepB.setBox g1 hkp _) (fun h=>by rw[ho]at h;cases h)
 ·rintro v H' ⟨g,cap,h1,h2,e,rfl⟩
  cases e
  rw[hd]
  have:=k g cap h1 h2
  rw[g2]at this
  exact this
 ·rintro v H' ⟨g,cap,_,_,e,_⟩
  cases e
theorem qsdata {s:Operand} {ts:Array TypeId} {d g m cap:Nat} (hc0:cap≠0) (k:TR P N ty l0 LD W Q l ((d,.ptr g 0)::T) H)
  (hg:o.guard=none:=by exact rfl) (ho:o.op=.call {callee:=.builtin .unsafeSliceData,args:= #[s],argTypes:=ts}:=by exact rfl) (hd:o.dst=some d:=by exact rfl) (hN:Nat.ble (d+1) N=true:=by exact rfl)
  (hon:optN True T (tmpsOf o.op):=by exact True.intro) (hs:opvL (tmpsOf o.op) T s=some (.mslice g 0 m cap):=by exact rfl):TR P N ty l0 LD W Q ((n,o)::l) T H:=by
 refine TR.hard _ (.inr (by rw[ho];rfl)) hg (by rw[hd];exact hN) hon (hard_sliceData ho hs hc0) ?_ ?_ (fun _ v H' ⟨_,e⟩=>e▸KeepB.refl _) (fun h=>by rw[ho]at h;cases h)
 ·rintro v H' ⟨e,rfl⟩
  cases e
  rw[hd]
  exact k
 ·rintro v H' ⟨e,_⟩
  cases e
theorem KeepB.erase {LD:LDs} {n:Nat} {H:AHeap} {i b:Nat} {ty0:TypeId} {u:AV} (hi:H[i]?=some (.box b ty0 u)) (ht:LD.kp n ty0=false):KeepB LD n H (H.eraseIdx i):=by
 intro b' t' u' h1 h2
 rcases List.mem_cons.1 ((perm_eraseIdx H i _ hi).mem_iff.1 h2)with e|h
 ·cases e
  rw[ht]at h1
  cases h1
 ·exact h
theorem qustr (i:Nat) (xs:List UInt8) {x y:Operand} {t u e:TypeId} {d g cap:Nat} (ht:P.underlying t=some (.pointer e)) (he:P.cellsOf e=1) (h0:xs≠[]) (hcx:xs.length≤cap) (h63:xs.length≤9223372036854775807)
  (k:TR P N ty l0 LD W Q l ((d,.str xs)::T) (H.eraseIdx i))
  (hg:o.guard=none:=by exact rfl) (ho:o.op=.call {callee:=.builtin .unsafeString,args:= #[x,y],argTypes:= #[t,u]}:=by exact rfl) (hd:o.dst=some d:=by exact rfl) (hN:Nat.ble (d+1) N=true:=by exact rfl)
  (hon:optN True T (tmpsOf o.op):=by exact True.intro) (hx:opvL (tmpsOf o.op) T x=some (.ptr g 0):=by exact rfl) (hy:opvL (tmpsOf o.op) T y=some (.int .i64 xs.length):=by exact rfl) (hkp:LD.kp n e=false:=by exact rfl)
  (hi:H[i]?=some (rowB g e cap xs):=by exact rfl):TR P N ty l0 LD W Q ((n,o)::l) T H:=by
 refine TR.hard _ (.inr (by rw[ho];rfl)) hg (by rw[hd];exact hN) hon (hard_unsafeString i ho ht he hx hy h0 hcx h63 hi) ?_ ?_ (fun _ v H' ⟨_,e⟩=>e▸KeepB.erase hi hkp) (fun h=>by rw[ho]at h;cases h)
 ·rintro v H' ⟨e,rfl⟩
  cases e
  rw[hd]
  exact k
 ·rintro v H' ⟨e,_⟩
  cases e
end
end Go.Ab
