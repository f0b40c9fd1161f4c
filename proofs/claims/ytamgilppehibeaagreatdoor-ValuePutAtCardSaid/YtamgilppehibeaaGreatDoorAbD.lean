/-
  Arrays whose length is told when they are made: the call owns them, and hands them on, or they stand still at last.
-/
import Derived.Test.YtamgilppehibeaaGreatDoorAbC
import Derived.Laws.MakeOwn
import Derived.Laws.CopyRow
import Derived.Laws.IdiomCopy
namespace Go.Ab
def rowM (g:Nat) (e:TypeId) (m:Nat) (el:Nat→AV):Ent:=.box g e (.vec m el)
def rowI (g:Nat) (t:TypeId) (xs:List Int):Ent:=rowM g t xs.length fun j=>.int .i64 (xs.getD j 0)
theorem getBang {z:Array Value} {k:Nat} (h:k<z.size):z.toList[k]?=some (z[k]!):=by
 rw[getElem!_pos z k h]
 simp[h]
section
variable {P:Program} {ty:TypeId→Option TyI} {o:Oper} {F:Operand→Option AV} {H:AHeap}
theorem hard_make (hty:TyOk P ty) {x y:Operand} {t e:TypeId} {ti ei:TyI} {m:Nat} {zs:List AV}
  (ho:o.op=.makeSlice t x y) (hti:ty t=some ti) (hk:ti.k=.slice e) (hei:ty e=some ei) (hzs:cellsOf ei.zero=some zs)
  (hx:F x=some (.int .i64 m)) (hy:F y=some (.int .i64 m)) (hb:ei.bytes*m≤281474976710656∧m≤9223372036854775807):
  AHard P o F H fun r H'=>∃g,r=.ret (.mslice g 0 m m)∧H'=rowM g e (m*ei.size) (fun j=>zs.getD (j%ei.size) .any)::H:=by
 intro E st w act r next Q hc hF _ hr _
 obtain⟨⟨d,hd,hkf⟩,-⟩:=hty t ti hti
 rw[hk]at hkf
 obtain rfl:d=.slice e:=hkf
 obtain⟨-,inf,z,hinf,hisz,hby,hz,hzsz,hzr,hzo⟩:=hty e ei hei
 have hxv:=(hF x _ hx).int_eq
 have hyv:=(hF y _ hy).int_eq
 obtain⟨hl,hr0⟩:=cellsOf_rep (hzr st w) hzs
 have hb':(inf.bytes:Int)*(m:Int)≤281474976710656:=by
  have h:((ei.bytes*m:Nat):Int)≤281474976710656:=by omega
  rw[hby]
  rwa [Int.natCast_mul]at h
 have hrun:=run_make (P:=P) w t e inf z hd hinf hz .i64 .i64 m m (by omega) (Int.le_refl _) hb' (by omega)
 simp only[Int.toNat_natCast,hisz]at hrun
 have hat:∀(j:Nat) (u:Value),(madeCells z.cells (m*ei.size)).toList[j]?=some u→j%ei.size<z.cells.size∧u=z.cells[j%ei.size]! :=by
  intro j u hu
  simp only[madeCells,Array.toList_map,Array.toList_range,List.getElem?_map]at hu
  have hj:j<m*ei.size:=by
   by_cases hj:j<m*ei.size
   ·exact hj
   ·rw[List.getElem?_eq_none (by simp;omega)]at hu
    cases hu
  rw[List.getElem?_eq_getElem (by simpa using hj)]at hu
  simp only[List.getElem_range,Option.map_some,Option.some.injEq]at hu
  have hs:0<ei.size:=by
   rcases Nat.eq_zero_or_pos ei.size with h0|h0
   ·rw[h0,Nat.mul_zero]at hj;omega
   ·exact h0
  rw[hzsz]at hu
  exact⟨by rw[hzsz];exact Nat.mod_lt _ hs,hu.symm⟩
 have hone:∀u∈(madeCells z.cells (m*ei.size)).toList,u.oneCell'=true:=by
  intro u hu
  obtain⟨j,hj⟩:=List.getElem?_of_mem hu
  obtain⟨h1,rfl⟩:=hat j u hj
  exact hzo _ (List.mem_of_getElem? (getBang h1))
 have hrep:Rep st w (.vec (m*ei.size) fun j=>zs.getD (j%ei.size) .any) (.agg (madeCells z.cells (m*ei.size))):=by
  refine .vec _ _ (madeCells z.cells (m*ei.size)).toList (by rw[Array.length_toList,size_madeCells]) (fun j u hu=>?_) hone
  obtain⟨h1,rfl⟩:=hat j u hu
  have h2:j%ei.size<zs.length:=by rw[←hl,Array.length_toList];exact h1
  have h3:zs[j%ei.size]?=some (zs.getD (j%ei.size) .any):=by
   rw[List.getD_eq_getElem?_getD,List.getElem?_eq_getElem h2]
   rfl
  exact hr0 _ _ _ h3 (getBang h1)
 have hnb:=hc.newBox (ty:=e) hrep hone
 refine upon_value_ok (c:=.slice (some ⟨w.heap.size,0,none⟩) m m) (w':=w.alloc (.cells (madeCells z.cells (m*ei.size)) e)) ?_ (hr st _ (.mslice w.heap.size 0 m m) _ _ hnb.1 hnb.2 (.mslice _ _ _ _) ⟨_,rfl,rfl⟩)
 simp[execOp,ho,hxv,hyv,hrun]
end
section
variable {P:Program} {N:Nat} {ty:TypeId→Option TyI} {T:Tmps} {H:AHeap} {Q:APost} {o:Oper} {l0:List Oper} {LD:LDs} {W:Bool} {l:List (Nat×Oper)} {n:Nat}
theorem qmake (hty:TyOk P ty) {x y:Operand} {t e:TypeId} {ti ei:TyI} {m:Nat} {zs:List AV} {d:Nat} (k:∀g,TR P N ty l0 LD W Q l ((d,.mslice g 0 m m)::T) (rowM g e (m*ei.size) (fun j=>zs.getD (j%ei.size) .any)::H))
  (hb:ei.bytes*m≤281474976710656∧m≤9223372036854775807) (hg:o.guard=none:=by exact rfl)
  (ho:o.op=.makeSlice t x y:=by exact rfl) (hd:o.dst=some d:=by exact rfl) (hN:Nat.ble (d+1) N=true:=by exact rfl) (hon:optN True T (tmpsOf o.op):=by exact True.intro)
  (hti:ty t=some ti:=by exact rfl) (hk:ti.k=.slice e:=by exact rfl) (hei:ty e=some ei:=by exact rfl) (hzs:cellsOf ei.zero=some zs:=by exact rfl)
  (hx:opvL (tmpsOf o.op) T x=some (.int .i64 m):=by exact rfl) (hy:opvL (tmpsOf o.op) T y=some (.int .i64 m):=by exact rfl):TR P N ty l0 LD W Q ((n,o)::l) T H:=by
 refine TR.hard (fun r H'=>∃g,r=.ret (.mslice g 0 m m)∧H'=rowM g e (m*ei.size) (fun j=>zs.getD (j%ei.size) .any)::H) (.inr (by rw[ho];rfl)) hg (by rw[hd];exact hN) hon (hard_make hty ho hti hk hei hzs hx hy hb) ?_ ?_ (fun _ v H' ⟨_,_,e⟩=>e▸KeepB.cons _ _) (fun h=>by rw[ho]at h;cases h)
 ·rintro v H' ⟨g,e,rfl⟩
  cases e
  rw[hd]
  exact k g
 ·rintro v H' ⟨b,e,_⟩
  cases e
theorem qiaM (hty:TyOk P ty) {t e:TypeId} {x y:Operand} {i ei:TyI} {m cap g off:Nat} {k:IntKind} {j:Int} {d:Nat}
  (k':TR P N ty l0 LD W Q l ((d,.ptr g (off+j.toNat*ei.size))::T) H)
  (ho:o.op=.indexAddr t x y:=by exact rfl) (hg:o.guard=none:=by exact rfl) (hd:o.dst=some d:=by exact rfl) (hN:Nat.ble (d+1) N=true:=by exact rfl)
  (hon:optN True T (tmpsOf o.op):=by exact True.intro) (hti:ty t=some i:=by exact rfl) (hk:i.k=.slice e:=by exact rfl) (he:ty e=some ei:=by exact rfl)
  (hx:opvL (tmpsOf o.op) T x=some (.mslice g off m cap):=by exact rfl) (hy:opvL (tmpsOf o.op) T y=some (.int k j):=by exact rfl)
  (hj:0≤j∧j<(m:Int):=by first|decide|omega):TR P N ty l0 LD W Q ((n,o)::l) T H:=by
 refine TR.sem (.ptr g (off+j.toNat*ei.size)) d hg hd hN hon (fun st w ρ hF=>?_) k'
 have h2:=(hF y _ hy).int_eq
 have h1:=hF x _ hx
 generalize hxv:ρ x=xv at h1
 cases h1 with
 |mslice _ _ _ _=>
  obtain⟨⟨dd,hdd,hkf⟩,-⟩:=hty t i hti
  obtain⟨-,inf2,_,hinf2,hsz2,-⟩:=hty e ei he
  rw[hk]at hkf
  obtain rfl:dd=.slice e:=hkf
  refine⟨.pointer (some ⟨g,off+j.toNat*ei.size,none⟩),?_,.ptr _ _⟩
  obtain⟨dst,op',type,pos,after,guard⟩:=o
  simp only at ho
  subst ho
  show((do pure (.value (←Instr.indexAt t (ρ x) (ρ y)))):Sem Next).run P w=_
  rw[hxv,h2]
  refine exec_v ?_
  unfold Instr.indexAt
  simp[asIntOf,run_underlying hdd,run_sizeOf hinf2,hsz2,hj.1,hj.2,addr_add]
theorem qcallXV {ι:Type} {cf:Operand} {args:Array Operand} {ats:Array TypeId} {f:FuncId} {first captured vs vs0:List AV} {G Hc:AHeap} {Hc' H2:ι→AHeap} {u:ι→AV} (h:ACalls P f vs0 Hc fun r H'=>∃i,r=.ret (u i)∧H'=Hc' i)
  (k:∀i,TR P N ty l0 LD W Q l (putO o.dst (u i) T) (H2 i)) (hp:AppL G Hc H:=by(first|exact .nil|exact .cons (.nil)|exact .cons (.cons (.nil))|exact .cons (.cons (.cons (.nil)))|exact .cons (.cons (.cons (.cons (.nil))))|exact .cons (.cons (.cons (.cons (.cons (.nil)))))|exact .cons (.cons (.cons (.cons (.cons (.cons (.nil))))))|exact .cons (.cons (.cons (.cons (.cons (.cons (.cons (.nil)))))))|exact .cons (.cons (.cons (.cons (.cons (.cons (.cons (.cons (.nil))))))))|exact .cons (.cons (.cons (.cons (.cons (.cons (.cons (.cons (.cons (.nil)))))))))|exact .cons (.cons (.cons (.cons (.cons (.cons (.cons (.cons (.cons (.cons (.nil))))))))))|exact .cons (.cons (.cons (.cons (.cons (.cons (.cons (.cons (.cons (.cons (.cons (.nil))))))))))))) (hp2:∀i,AppL G (Hc' i) (H2 i):=by intro i;(first|exact .nil|exact .cons (.nil)|exact .cons (.cons (.nil))|exact .cons (.cons (.cons (.nil)))|exact .cons (.cons (.cons (.cons (.nil))))|exact .cons (.cons (.cons (.cons (.cons (.nil)))))|exact .cons (.cons (.cons (.cons (.cons (.cons (.nil))))))|exact .cons (.cons (.cons (.cons (.cons (.cons (.cons (.nil)))))))|exact .cons (.cons (.cons (.cons (.cons (.cons (.cons (.cons (.nil))))))))|exact .cons (.cons (.cons (.cons (.cons (.cons (.cons (.cons (.cons (.nil)))))))))|exact .cons (.cons (.cons (.cons (.cons (.cons (.cons (.cons (.cons (.cons (.nil))))))))))|exact .cons (.cons (.cons (.cons (.cons (.cons (.cons (.cons (.cons (.cons (.cons (.nil)))))))))))))
  (hg:o.guard=none:=by exact rfl) (ho:o.op=.call {callee:=.value cf,args:=args,argTypes:=ats}:=by exact rfl)
  (hN:dstOk o.dst N=true:=by exact rfl) (hon:optN True T (tmpsOf o.op):=by exact True.intro) (hf:opvL (tmpsOf o.op) T cf=some (.func (.func f) first captured):=by exact rfl)
  (hm:mapF (opvL (tmpsOf o.op) T) args.toList=some vs:=by exact rfl) (he:first++vs++captured=vs0:=by exact rfl)
  (hkb:∀t,LD.kp n t=false:=by exact(fun _=>rfl)) (hsc:LD.sc n=false:=by exact rfl):TR P N ty l0 LD W Q ((n,o)::l) T H:=by
 have e1:=hp.eq
 subst e1
 subst he
 refine TR.hcallT G hg ho hN hon hf hm rfl h (fun v H' hK=>?_) (fun v H' hK=>?_) (fun v H' hK=>?_) hsc
 ·obtain⟨i,e1,rfl⟩:=hK
  cases e1
  have e2:=(hp2 i).eq
  rw[←e2]
  exact k i
 ·obtain⟨i,e1,_⟩:=hK
  cases e1
 ·intro b t u h
  rw[hkb t]at h
  cases h
def Held (st:Stab) (w:World) (g m:Nat) (el:Nat→AV):Prop:=∀j,j<m→∃x,st g j∧w.cell? ⟨g,j,none⟩=some x∧Rep st w (el j) x∧x.oneCell'=true
def SubH (g m:Nat) (el:Nat→AV) (v v':AV):Prop:=∀st w,Held st w g m el→∀c,Rep st w v c→Rep st w v' c
theorem SubH.rfl' {g m:Nat} {el:Nat→AV} (v:AV):SubH g m el v v:=fun _ _ _ _ h=>h
theorem SubH.row {g m sz k cap:Nat} {el:Nat→AV} {el2:Nat→List AV} (hm:k*sz≤m) (hk:k≤cap) (h2:∀i,i<k→(el2 i).length=sz) (h:∀i j v,i<k→(el2 i)[j]?=some v→v=el (i*sz+j)):SubH g m el (.mslice g 0 k cap) (.slice sz k el2 .view):=by
 intro st w hh c hc
 cases hc
 have lt:∀i j,i<k→j<sz→i*sz+j<m:=fun i j hi hj=>by
  have h1:(i+1)*sz≤k*sz:=Nat.mul_le_mul_right _ hi
  rw[Nat.succ_mul]at h1
  omega
 have hx:∀i j,i<k→j<sz→st g (i*sz+j)∧w.cell? ⟨g,i*sz+j,none⟩=some ((w.cell? ⟨g,i*sz+j,none⟩).getD default)∧Rep st w (el (i*sz+j)) ((w.cell? ⟨g,i*sz+j,none⟩).getD default)∧((w.cell? ⟨g,i*sz+j,none⟩).getD default).oneCell'=true:=fun i j hi hj=>by
  obtain⟨x,h3,h4,h5,h6⟩:=hh _ (lt i j hi hj)
  rw[h4]
  exact⟨h3,rfl,h5,h6⟩
 refine .slice sz k el2 .view (some ⟨g,0,none⟩) cap g 0 (fun i j=>(w.cell? ⟨g,i*sz+j,none⟩).getD default) hk (.inr rfl) h2 (fun i j hi hj=>?_) (fun i j v hi hv=>?_) trivial (fun i j hi hj=>(hx i j hi hj).2.2.2)
 ·rw[Nat.zero_add]
  exact⟨(hx i j hi hj).1,(hx i j hi hj).2.1⟩
 ·have hj:j<sz:=by rw[←h2 i hi];exact(List.getElem?_eq_some_iff.1 hv).1
  rw[h i j v hi hv]
  exact(hx i j hi hj).2.2.1
theorem SubH.tuple {g m:Nat} {el:Nat→AV} {vs vs':List AV} (hl:vs'.length=vs.length) (h:∀(j:Nat) (v v':AV),vs[j]?=some v→vs'[j]?=some v'→SubH g m el v v'):SubH g m el (.tuple vs) (.tuple vs'):=by
 intro st w hh c hc
 cases hc with
 |tuple _ cs hl2 hr=>
  refine .tuple _ _ (by omega) fun j v' x hv' hx=>?_
  have hj:j<vs.length:=by rw[←hl];exact(List.getElem?_eq_some_iff.1 hv').1
  exact h j _ v' (List.getElem?_eq_getElem hj) hv' st w hh _ (hr j _ x (List.getElem?_eq_getElem hj) hx)
theorem Conc.freezeM {E:Env0} {st:Stab} {w:World} {G1 G2:AHeap} {g m:Nat} {e:TypeId} {el:Nat→AV} (h:Conc E st (G1++rowM g e m el::G2) w):
  ∃st',Conc E st' (G1++G2) w∧Keeps st st' w w∧Held st' w g m el:=by
 obtain⟨arr,cv,h1,h2,h3,h4,h5⟩:=h.ents (rowM g e m el) (by simp)
 have hown:AHeap.owns (G1++rowM g e m el::G2) g:=⟨rowM g e m el,by simp,rfl⟩
 have hp:=h.perm (List.perm_middle (l₁:=G1) (l₂:=G2) (a:=rowM g e m el))
 have hno:=not_owns_of_sep hp rfl
 refine⟨fun b' o=>st b' o∨b'=g,?_,⟨fun _ _ h=>.inl h,fun _ _ _=>rfl⟩,?_⟩
 ·have ho:∀k,AHeap.owns (G1++G2) k→AHeap.owns (G1++rowM g e m el::G2) k:=by
   rintro k ⟨e,he,hk⟩
   rcases List.mem_append.1 he with he|he
   ·exact⟨e,by simp[he],hk⟩
   ·exact⟨e,by simp[he],hk⟩
  refine⟨h.os,h.tape,h.output,h.size,h.old,h.keep,fun b' o hs=>.inl (h.stle b' o hs),?_,?_,fun k hk=>h.ownnew k (ho k hk),fun k hk=>h.ownlt k (ho k hk),?_,hp.tail.sep,?_⟩
  ·rintro b' o (hs|rfl)
   ·exact h.stnew b' o hs
   ·rcases h.ownnew _ hown with x|x
    ·exact .inr (.inr x)
    ·exact .inr (.inl x)
  ·rintro b' o (hs|rfl)
   ·exact h.stlt b' o hs
   ·exact h.ownlt _ hown
  ·intro e he
   refine Ent.holds_keep (w:=w) ⟨fun _ _ h=>.inl h,fun _ _ _=>rfl⟩ (hp.tail.ents e he) (fun _ _=>rfl) ?_
   rintro b' o hb (hs|rfl)
   ·exact hs
   ·exact absurd ⟨e,he,hb⟩ hno
  ·rintro b' o (hs|rfl) hk
   ·exact h.fz b' o hs hk
   ·exact⟨_,_,h1⟩
 ·intro j hj
  cases h2 with
  |vec _ _ cs hl hr hone=>
   have hs:arr.toList=cs:=by
    rw[←h3]
    rfl
   have hja:j<arr.size:=by rw[←Array.length_toList,hs,hl];exact hj
   have hx:cs[j]?=some arr[j]:=by
    rw[←hs]
    simp[hja]
   refine⟨arr[j],.inr rfl,?_,(hr j _ hx).mono ⟨fun _ _ h=>.inl h,fun _ _ _=>rfl⟩,hone _ (List.mem_of_getElem? hx)⟩
   unfold World.cell?
   rw[h1]
   simp[hja]
theorem awp_freezeM {c:Code} (G1:AHeap) {G2:AHeap} {g m:Nat} {e:TypeId} {el:Nat→AV} {s:Nat} {v v':AV} (hl:lk T s=some v) (hv:SubH g m el v v') (h:AWP P N c ((s,v')::T) (G1++G2) Q):
  AWP P N c T (G1++rowM g e m el::G2) Q:=by
 refine awp_turn (S:=fun T' H'=>T'=(s,v')::T∧H'=G1++G2) ?_ (fun T' H' e=>by obtain⟨rfl,rfl⟩:=e;exact h)
 intro E st w a h1 h2
 obtain⟨st',c1,k1,r1⟩:=h1.freezeM
 refine⟨st',_,_,c1,⟨h2.size,fun t' u' ht'=>?_⟩,rfl,rfl⟩
 by_cases e:s=t'
 ·subst e
  simp[lk]at ht'
  subst ht'
  obtain⟨c,e1,e2⟩:=h2.val s _ hl
  exact⟨_,e1,hv st' w r1 _ (e2.mono k1)⟩
 ·have hb:Nat.beq s t'=false:=beq_ne e
  simp[lk,hb]at ht'
  obtain⟨c,e1,e2⟩:=h2.val t' u' ht'
  exact⟨c,e1,e2.mono k1⟩
theorem ACalls.frozen {f:FuncId} {vs:List AV} {u:Nat→AV} {u':AV} {t:TypeId} {m:Nat} {el:Nat→AV} (h:ACalls P f vs [] fun r H'=>∃g,r=.ret (u g)∧H'=[rowM g t m el]) (hs:∀g,SubH g m el (u g) u'):PCalls P f vs u':=by
 refine⟨h.1,fun st w xs hc hx hg=>(h.2 st w xs hc hx hg).mono fun e w' hp=>?_⟩
 cases e with
 |outgrown=>exact hp.elim
 |returned v=>
  obtain⟨st',r,H2,h1,h2,g,rfl,rfl⟩:=hp
  obtain⟨st2,c1,k1,hh⟩:=Conc.freezeM (G1:=[]) (G2:=[]) h1
  exact⟨st2,.ret u',[],c1,hs g st2 w' hh _ (Rep.mono k1 h2),rfl,rfl⟩
 |panicked v=>
  obtain⟨st',r,H2,h1,h2,g,rfl,rfl⟩:=hp
  exact h2.elim
end
end Go.Ab
namespace Go.Ab
section
variable {P:Program} {N:Nat} {ty:TypeId→Option TyI} {Q:APost}
def AllX (P:Program) (N:Nat) (ty:TypeId→Option TyI) (l:List Oper) (LD:LDs) (Q:APost) (τ:List Nat):Nat→List Nat→Tmps→AHeap→Prop
 |0,_,T,H=>TR P N ty l LD false (pQ l Q) (sel l τ) T H
 |n+1,A,T,H=>∀a∈A,(∀b∈A.erase a,¬Anc l a b)→(hardAt l LD.sc a=true∧OneO P N l LD a T H (AllX P N ty l LD Q τ n (A.erase a)))∨
   (hardAt l LD.sc a=false∧TR P N ty l LD false (pQ l (fun x T H=>match x with|.normal=>AllX P N ty l LD Q τ n (A.erase a) T H|x=>Q x T H)) (sel l [a]) T H)
def Qx (P:Program) (N:Nat) (ty:TypeId→Option TyI) (l:List Oper) (LD:LDs) (Q:APost) (τ A:List Nat):APost:=fun x T H=>match x with
 |.normal=>AllX P N ty l LD Q τ A.length A T H
 |x=>Q x T H
def CX (P:Program) (N:Nat) (ty:TypeId→Option TyI) (l:List Oper) (LD:LDs) (mv:Nat→Bool) (Q:APost) (τ:List Nat) (rest:List Nat) (T:Tmps) (H:AHeap):Prop:=
 (TR P N ty l LD false (pQ l Q) (sel l rest) T H∧∀t∈rest,mv t=false)∨
 ∃s A' A,rest=s++(A'++τ)∧A'.Perm A∧A'≠[]∧(∀j∈s,mv j=false∧hardAt l LD.sc j=false)∧(∀a∈A',mv a=true)∧A'.Pairwise (fun a b=>¬Anc l a b)∧TR P N ty l LD false (pQ l (Qx P N ty l LD Q τ A)) (sel l s) T H
def anyOk (l:List Oper) (σ A τ:List Nat):Bool:=
 A.all (fun a=>A.all fun b=>Nat.beq a b || (ancB (ancsOf l []) a b || pairOkM [] l (ancsOf l []) (fun i=>A.contains i) a b))&&σ.all (fun j=> !A.contains j&& !hardAt l (fun x=>([]:List Nat).contains x) j)&&τ.all (fun t=> !A.contains t)&& !A.isEmpty&&pairsOk (fun a b=>Nat.blt a b) A&&
 A.all fun a=>hardAt l (fun x=>([]:List Nat).contains x) a || !loadOk [] l (ancsOf l []) [] 0 (σ++(A++τ)) a
end
end Go.Ab
namespace Go.Ab
def Flat (u:AV):Prop:=∀st w st' w' c,Rep st w u c→Rep st' w' u c
theorem Flat.int (k:IntKind) (n:Int):Flat (.int k n):=fun st w st' w' c h=>by cases h;exact .int k n
structure SubHL (g m:Nat) (el:Nat→AV) (vs vs':List AV):Prop where
 len:vs'.length=vs.length
 at':∀(j:Nat) (v v':AV),vs[j]?=some v→vs'[j]?=some v'→SubH g m el v v'
theorem SubHL.nil {g m:Nat} {el:Nat→AV}:SubHL g m el [] []:=⟨rfl,fun j v v' h=>by cases h⟩
theorem SubHL.cons {g m:Nat} {el:Nat→AV} {v v':AV} {vs vs':List AV} (h:SubH g m el v v') (k:SubHL g m el vs vs'):SubHL g m el (v::vs) (v'::vs'):=
 ⟨by simp[k.len],fun j a b ha hb=>by
   cases j with
   |zero=>simp at ha hb;subst ha;subst hb;exact h
   |succ j=>exact k.at' j a b (by simpa using ha) (by simpa using hb)⟩
theorem SubHL.same {g m:Nat} {el:Nat→AV} {v:AV} {vs vs':List AV} (k:SubHL g m el vs vs'):SubHL g m el (v::vs) (v::vs'):=.cons (SubH.rfl' _) k
theorem pickNil {H:AHeap}:∃F,H.Perm (F++[]):=⟨H,by rw[List.append_nil]⟩
theorem pickD {H G J:AHeap} {e:Ent} (h:Pick H e G) (k:∃F,G.Perm (F++J)):∃F,H.Perm (F++e::J):=by
 obtain⟨F,hF⟩:=k
 exact⟨F,h.perm.trans ((hF.cons e).trans List.perm_middle.symm)⟩
theorem qpm {G:Prop} (h:G:=by first|(repeat(first|exact pickNil|refine pickD (by(first|exact .here|exact .there (.here)|exact .there (.there (.here))|exact .there (.there (.there (.here)))|exact .there (.there (.there (.there (.here))))|exact .there (.there (.there (.there (.there (.here)))))|exact .there (.there (.there (.there (.there (.there (.here))))))|exact .there (.there (.there (.there (.there (.there (.there (.here)))))))|exact .there (.there (.there (.there (.there (.there (.there (.there (.here))))))))|exact .there (.there (.there (.there (.there (.there (.there (.there (.there (.here))))))))))) ?_))|fail):G:=h
section
variable {P:Program} {N:Nat} {ty:TypeId→Option TyI} {l0:List Oper} {LD:LDs} {W:Bool} {Q:APost} {n:Nat} {o:Oper} {l:List (Nat×Oper)} {T:Tmps} {H:AHeap}
theorem qappF {α:Type} [Inhabited α] (hty:TyOk P ty) (f:α→List AV) (ys:List α) {s y:Operand} {t e:TypeId} {ti ei:TyI} {vs vx:AV} {sz:Nat} {el el2:Nat→List AV} {ow:Own} {d:Nat}
  (hel:∀i,i<ys.length→SubL (el2 i) (f (ys.getD i default))) (hb:(0+ys.length)*ei.bytes≤140737488355328∧0+ys.length≤9223372036854775807)
  (k:∀a cap,TR P N ty l0 LD W Q l ((d,sl f sz ys (.own a cap))::T) (.tok a cap ys.length sz e::H))
  (hg:o.guard=none:=by exact rfl) (ho:o.op=.call {callee:=.builtin .append,args:= #[s,y],argTypes:= #[t,t]}:=by exact rfl) (hd:o.dst=some d:=by exact rfl) (hN:Nat.ble (d+1) N=true:=by exact rfl)
  (hon:optN True T (tmpsOf o.op):=by exact True.intro) (hti:ty t=some ti:=by exact rfl) (hk:ti.k=.slice e:=by exact rfl) (hei:ty e=some ei:=by exact rfl) (hsz:ei.size=sz:=by exact rfl) (hpos:Nat.ble 1 sz=true:=by exact rfl)
  (hs:opvL (tmpsOf o.op) T s=some vs:=by exact rfl) (hvs:asSl sz vs=some (0,el,.full):=by exact rfl) (hx:opvL (tmpsOf o.op) T y=some vx:=by exact rfl) (hvx:asSl sz vx=some (ys.length,el2,ow):=by exact rfl):TR P N ty l0 LD W Q ((n,o)::l) T H:=by
 refine TR.appendF hty (fun ad cp=>sl f sz ys (.own ad cp)) hg ho hd (by rw[hd];exact hN) hon hti hk hei hsz hpos hs hx hvs hvx hb (fun ad cp=>?_) fun ad cp=>?_
 ·unfold sl
  rw[Nat.zero_add]
  refine Sub.els fun i hi=>?_
  unfold glue
  rw[if_neg (Nat.not_lt_zero i)]
  exact hel i hi
 ·have:=k ad cp
  rw[Nat.zero_add]
  exact this
end
end Go.Ab
namespace Go.Ab
def numE (k:IntKind) (x:Nat):List AV:=[.int k x]
def rowN (k:IntKind) (g:Nat) (t:TypeId) (xs:List Nat):Ent:=rowM g t xs.length fun j=>.int k (xs.getD j 0:Nat)
theorem rowN_set {k:IntKind} {g:Nat} {t:TypeId} {xs:List Nat} {j v:Nat} (h:j<xs.length):Ent.box g t (.vec xs.length fun i=>.int k (if i=j then(v:Int) else(xs.getD i 0:Nat)))=Ent.box g t (.vec (xs.set j v).length fun i=>.int k ((xs.set j v).getD i 0:Nat)):=by
 rw[List.length_set]
 congr 2
 funext i
 simp only[List.getD_eq_getElem?_getD,List.getElem?_set]
 by_cases e:i=j
 ·subst e
  simp[h]
 ·rw[if_neg e,if_neg (fun h=>e h.symm)]
theorem SubH.rowAt {g m sz off k cap:Nat} {el:Nat→AV} {el2:Nat→List AV} (hm:off+k*sz≤m) (hk:k≤cap) (h2:∀i,i<k→(el2 i).length=sz) (h:∀i j v,i<k→(el2 i)[j]?=some v→v=el (off+(i*sz+j))):SubH g m el (.mslice g off k cap) (.slice sz k el2 .view):=by
 intro st w hh c hc
 cases hc
 have lt:∀i j,i<k→j<sz→off+(i*sz+j)<m:=fun i j hi hj=>by
  have h1:(i+1)*sz≤k*sz:=Nat.mul_le_mul_right _ hi
  rw[Nat.succ_mul]at h1
  omega
 have hx:∀i j,i<k→j<sz→st g (off+(i*sz+j))∧w.cell? ⟨g,off+(i*sz+j),none⟩=some ((w.cell? ⟨g,off+(i*sz+j),none⟩).getD default)∧Rep st w (el (off+(i*sz+j))) ((w.cell? ⟨g,off+(i*sz+j),none⟩).getD default)∧((w.cell? ⟨g,off+(i*sz+j),none⟩).getD default).oneCell'=true:=fun i j hi hj=>by
  obtain⟨x,h3,h4,h5,h6⟩:=hh _ (lt i j hi hj)
  rw[h4]
  exact⟨h3,rfl,h5,h6⟩
 refine .slice sz k el2 .view (some ⟨g,off,none⟩) cap g off (fun i j=>(w.cell? ⟨g,off+(i*sz+j),none⟩).getD default) hk (.inr rfl) h2 (fun i j hi hj=>⟨(hx i j hi hj).1,(hx i j hi hj).2.1⟩) (fun i j v hi hv=>?_) trivial (fun i j hi hj=>(hx i j hi hj).2.2.2)
 have hj:j<sz:=by rw[←h2 i hi];exact(List.getElem?_eq_some_iff.1 hv).1
 rw[h i j v hi hv]
 exact(hx i j hi hj).2.2.1
theorem rowN_view {k:IntKind} {g off n cap:Nat} {xs:List Nat} (h:off+n≤xs.length) (hc:n≤cap):SubH g xs.length (fun j=>.int k (xs.getD j 0:Nat)) (.mslice g off n cap) (sl (numE k) 1 ((xs.drop off).take n) .view):=by
 have e:((xs.drop off).take n).length=n:=by rw[List.length_take,List.length_drop];omega
 unfold sl
 rw[e]
 refine SubH.rowAt (by omega) hc (fun _ _=>rfl) fun i j v hi hv=>?_
 match j,hv with
 |0,hv=>
  cases hv
  have e1:((xs.drop off).take n).getD i default=xs.getD (off+(i*1+0)) 0:=by
   rw[List.getD_eq_getElem?_getD,List.getElem?_take,if_pos hi,List.getElem?_drop,Nat.mul_one,Nat.add_zero,List.getD_eq_getElem?_getD]
   rfl
  rw[e1]
 |j+1,hv=>cases hv
theorem ACalls.lend {P:Program} {ι:Type} {f:FuncId} {vs vs':List AV} {u:ι→AV} {g m:Nat} {t:TypeId} {el:Nat→AV} (hu:∀i,Flat (u i)) (h:ACalls P f vs' [] fun r H'=>∃i,r=.ret (u i)∧H'=[]) (hs:SubHL g m el vs vs'):
  ACalls P f vs [rowM g t m el] fun r H'=>∃i,r=.ret (u i)∧H'=[rowM g t m el]:=by
 refine⟨h.1,fun st w xs hc hx hg=>?_⟩
 obtain⟨st',c1,k1,hh⟩:=Conc.freezeM (G1:=[]) (G2:=[]) hc
 have hx':RepL st' w vs' xs:=⟨by rw[hx.1,hs.len],fun j v' x hv' hxx=>by
  have hj:j<vs.length:=by rw[←hs.len];exact(List.getElem?_eq_some_iff.1 hv').1
  exact hs.at' j _ v' (List.getElem?_eq_getElem hj) hv' st' w hh x ((hx.2 j _ x (List.getElem?_eq_getElem hj) hxx).mono k1)⟩
 refine(h.2 st' w xs c1.start hx' (hg.sub fun _ ⟨e,he,_⟩=>absurd he List.not_mem_nil)).mono fun e w' hp=>?_
 cases e with
 |outgrown=>exact hp.elim
 |returned v=>
  obtain⟨st2,r,H2,d1,d2,i,rfl,rfl⟩:=hp
  have hno:∀k,¬(Env0.of w st' []).O k:=fun k ⟨e,he,_⟩=>absurd he List.not_mem_nil
  refine⟨st,.ret (u i),[rowM g t m el],⟨d1.os,d1.tape,d1.output,d1.size,fun k hk _=>d1.old k hk (hno k),fun b o hb=>d1.keep b o (k1.sub b o hb),fun _ _ h=>h,fun _ _ h=>.inl h,fun b o hb=>Nat.lt_of_lt_of_le (hc.stlt b o hb) d1.size,fun k hk=>.inl hk,fun k hk=>Nat.lt_of_lt_of_le (hc.ownlt k hk) d1.size,fun e he=>?_,hc.sep,fun b o hs hk=>(hk hs).same (d1.old b (hc.stlt b o hs) (hno b))⟩,hu i _ _ _ _ _ d2,i,rfl,rfl⟩
  refine Ent.holds_keep (w:=w) ⟨fun _ _ h=>h,fun b o hb=>d1.keep b o (k1.sub b o hb)⟩ (hc.ents e he) (fun b hb=>d1.old b (hc.ownlt b ⟨e,he,hb⟩) (hno b)) fun _ _ _ h=>h
 |panicked v=>
  obtain⟨st2,r,H2,d1,d2,i,rfl,rfl⟩:=hp
  exact d2.elim
theorem rep_over {st:Stab} {w:World} {M off:Nat} {el el2:Nat→AV} {cs news:List Value} (h:Rep st w (.vec M el) (.agg ⟨cs⟩)) (hf:off+news.length≤M) (hr:∀j v,news[j]?=some v→Rep st w (el2 j) v) (h1:∀v∈news,v.oneCell'=true):
  Rep st w (.vec M fun j=>if off≤j∧j<off+news.length then el2 (j-off) else el j) (.agg ⟨cs.take off++news++cs.drop (off+news.length)⟩):=by
 cases h with
 |vec _ _ _ hl hcr hone=>
  have ht:(cs.take off).length=off:=by rw[List.length_take];omega
  refine .vec M _ _ (by simp only[List.length_append,List.length_take,List.length_drop];omega) (fun j x hx=>?_) (fun z hz=>?_)
  ·by_cases c1:j<off
   ·rw[if_neg (by omega)]
    rw[List.append_assoc,List.getElem?_append_left (by omega),List.getElem?_take,if_pos c1]at hx
    exact hcr j x hx
   ·by_cases c2:j<off+news.length
    ·rw[if_pos ⟨by omega,c2⟩]
     rw[List.append_assoc,List.getElem?_append_right (by omega),ht,List.getElem?_append_left (by omega)]at hx
     exact hr _ x hx
    ·rw[if_neg (by omega)]
     rw[List.append_assoc,List.getElem?_append_right (by omega),ht,List.getElem?_append_right (by omega),List.getElem?_drop]at hx
     exact hcr j x (by rw[←hx];congr 1;omega)
  ·rcases List.mem_append.1 hz with hz|hz
   ·rcases List.mem_append.1 hz with hz|hz
    ·exact hone z (List.mem_of_mem_take hz)
    ·exact h1 z hz
   ·exact hone z (List.mem_of_mem_drop hz)
section
variable {P:Program} {ty:TypeId→Option TyI} {o:Oper} {F:Operand→Option AV} {H:AHeap}
theorem goInt_nat (n:Nat):goInt n=.int .i64 n:=rfl
theorem hard_copy (hty:TyOk P ty) {x y:Operand} {t t2 e:TypeId} {ti ei:TyI} {g off n cap m M:Nat} {el:Nat→AV} {el2:Nat→List AV} {ow:Own} {vy:AV} (i:Nat)
  (ho:o.op=.call {callee:=.builtin .copy,args:= #[x,y],argTypes:= #[t,t2]}) (hti:ty t=some ti) (hk:ti.k=.slice e) (hei:ty e=some ei) (hsz:ei.size=1)
  (hx:F x=some (.mslice g off n cap)) (hy:F y=some vy) (hvy:asSl 1 vy=some (m,el2,ow)) (hnm:n=m) (hfit:off+n≤M) (hi:H[i]?=some (rowM g e M el)):
  AHard P o F H fun r H'=>r=.ret (.int .i64 n)∧H'=H.set i (rowM g e M fun j=>if off≤j∧j<off+n then(el2 (j-off)).getD 0 .any else el j):=by
 intro E st w a r next Q hc hF _ hr _
 subst hnm
 obtain⟨⟨d,hd,hkf⟩,-⟩:=hty t ti hti
 rw[hk]at hkf
 obtain rfl:d=.slice e:=hkf
 obtain⟨-,inf,z,hinf,hisz,-⟩:=hty e ei hei
 have hs1:(P.info? e).map (·.size)=some 1:=by rw[hinf];simp[hisz,hsz]
 have hxv:=hF x _ hx
 generalize hxe:a.eval x=xv at hxv
 cases hxv
 obtain⟨a2,cap2,b2,off2,C2,hyv,hn2,-,h2⟩:=row_of (asSl_rep hvy (hF y vy hy)) (Nat.one_pos)
 have hc1:=hc.perm (perm_eraseIdx H i _ hi)
 obtain⟨arr,cv,hblk,hrep,hcells,hone,hns⟩:=hc1.ents (rowM g e M el) (by simp)
 obtain⟨cs,rfl⟩:∃cs,cv=.agg ⟨cs⟩:=by
  cases hrep with
  |vec _ _ cs hl _ _=>exact⟨cs,rfl⟩
 obtain rfl:arr=⟨cs⟩:=hcells.symm
 have hM:cs.length=M:=by
  cases hrep with
  |vec _ _ _ hl _ _=>exact hl
 let news:=(List.range n).map C2
 have hnl:news.length=n:=by simp[news]
 have hnr:∀j v,news[j]?=some v→Rep st w ((el2 j).getD 0 .any) v:=by
  intro j v hv
  obtain⟨hj,rfl⟩:=map_range_get j v hv
  have hl2:=h2.len j hj
  have e0:(el2 j)[0]?=some ((el2 j).getD 0 .any):=by
   rw[List.getD_eq_getElem?_getD,List.getElem?_eq_getElem (by omega)]
   rfl
  have:=h2.rep j 0 _ hj e0
  rwa [Nat.mul_one,Nat.add_zero]at this
 have hn1:∀v∈news,v.oneCell'=true:=by
  intro v hv
  obtain⟨j,hj,rfl⟩:=List.mem_map.1 hv
  exact h2.one j (by simpa using hj)
 have hover:=rep_over (off:=off) (news:=news) (el2:=fun j=>(el2 j).getD 0 .any) hrep (by rw[hnl];exact hfit) hnr hn1
 rw[hnl]at hover
 have fin:∀w',(Builtin.copy_ #[t,t2] o.type #[.slice (some ⟨g,off,none⟩) n cap,a.eval y]).run P w=.ok (goInt n) w'→w'=w.setRow g ⟨cs.take off++news++cs.drop (off+n)⟩→o.wpIn (fen r) 0 P a w next Q:=by
  intro w' hrun hw
  subst hw
  have hst:=hc1.store (u':=.vec M fun j=>if off≤j∧j<off+n then(el2 (j-off)).getD 0 .any else el j) hblk hover rfl (fun z hz=>by
   rcases List.mem_append.1 (show z∈cs.take off++news++cs.drop (off+n) from hz)with hz|hz
   ·rcases List.mem_append.1 hz with hz|hz
    ·exact hone z (List.mem_of_mem_take hz)
    ·exact hn1 z hz
   ·exact hone z (List.mem_of_mem_drop hz))
  refine upon_value_ok (c:=.int .i64 n) (w':=w.setRow g ⟨cs.take off++news++cs.drop (off+n)⟩) ?_ (hr st _ (.int .i64 n) _ _ (hst.1.perm (perm_set H i _ _ hi)) hst.2 (.int _ _) ⟨rfl,rfl⟩)
  simp[execOp,ho,resolve,invoke,builtin,hxe,hrun,Result.andThen,goInt_nat]
 by_cases h0:n=0
 ·subst h0
  have hr0:=run_copy_none (P:=P) w t t2 o.type e (some ⟨g,off,none⟩) a2 0 cap 0 cap2 hd hs1 (by simp)
  rw[←hyv]at hr0
  refine fin w (by simpa using hr0) ?_
  have hz:(⟨cs.take off++news++cs.drop (off+0)⟩:Array Value)=⟨cs⟩:=by simp[news]
  rw[hz,setRow_self w g _ e (0,0) hblk]
 ·obtain rfl:=row_base h2 h0
  have hr0:=run_copy_row (P:=P) w t t2 o.type e g off n cap ⟨b2,off2,none⟩ n cap2 ⟨cs⟩ e news hd hs1 hblk (by rw[hnl];simp) (fun j v hv=>by
   obtain⟨hj,rfl⟩:=map_range_get j v hv
   rw[addr_add]
   exact(h2.cell j (by omega)).2) (by rw[hnl];simp;omega) hn1
  rw[←hyv,hnl]at hr0
  exact fin _ hr0 rfl
theorem hard_appendM (hty:TyOk P ty) {x y:Operand} {t e:TypeId} {ti ei:TyI} {g n cap m M:Nat} {el:Nat→AV} {el2:Nat→List AV} {ow:Own} {vy:AV} (i:Nat)
  (ho:o.op=.call {callee:=.builtin .append,args:= #[x,y],argTypes:= #[t,t]}) (hti:ty t=some ti) (hk:ti.k=.slice e) (hei:ty e=some ei) (hsz:ei.size=1)
  (hx:F x=some (.mslice g 0 n cap)) (hy:F y=some vy) (hvy:asSl 1 vy=some (m,el2,ow)) (hm:0<m) (hroom:n+m≤cap) (hfit:n+m≤M) (hi:H[i]?=some (rowM g e M el)):
  AHard P o F H fun r H'=>r=.ret (.mslice g 0 (n+m) cap)∧H'=H.set i (rowM g e M fun j=>if n≤j∧j<n+m then(el2 (j-n)).getD 0 .any else el j):=by
 intro E st w a r next Q hc hF _ hr _
 obtain⟨⟨d,hd,hkf⟩,-⟩:=hty t ti hti
 rw[hk]at hkf
 obtain rfl:d=.slice e:=hkf
 obtain⟨-,inf,z,hinf,hisz,-⟩:=hty e ei hei
 have hxv:=hF x _ hx
 generalize hxe:a.eval x=xv at hxv
 cases hxv
 obtain⟨a2,cap2,b2,off2,C2,hyv,hn2,-,h2⟩:=row_of (asSl_rep hvy (hF y vy hy)) (Nat.one_pos)
 obtain rfl:=row_base h2 (by omega)
 have hc1:=hc.perm (perm_eraseIdx H i _ hi)
 obtain⟨arr,cv,hblk,hrep,hcells,hone,hns⟩:=hc1.ents (rowM g e M el) (by simp)
 obtain⟨cs,rfl⟩:∃cs,cv=.agg ⟨cs⟩:=by
  cases hrep with
  |vec _ _ cs hl _ _=>exact⟨cs,rfl⟩
 obtain rfl:arr=⟨cs⟩:=hcells.symm
 have hM:cs.length=M:=by
  cases hrep with
  |vec _ _ _ hl _ _=>exact hl
 let news:=(List.range m).map C2
 have hnl:news.length=m:=by simp[news]
 have hnr:∀j v,news[j]?=some v→Rep st w ((el2 j).getD 0 .any) v:=by
  intro j v hv
  obtain⟨hj,rfl⟩:=map_range_get j v hv
  have hl2:=h2.len j hj
  have e0:(el2 j)[0]?=some ((el2 j).getD 0 .any):=by
   rw[List.getD_eq_getElem?_getD,List.getElem?_eq_getElem (by omega)]
   rfl
  have:=h2.rep j 0 _ hj e0
  rwa [Nat.mul_one,Nat.add_zero]at this
 have hn1:∀v∈news,v.oneCell'=true:=by
  intro v hv
  obtain⟨j,hj,rfl⟩:=List.mem_map.1 hv
  exact h2.one j (by simpa using hj)
 have hover:=rep_over (off:=n) (news:=news) (el2:=fun j=>(el2 j).getD 0 .any) hrep (by rw[hnl];exact hfit) hnr hn1
 rw[hnl]at hover
 have e1:n*inf.size=n:=by rw[hisz,hsz,Nat.mul_one]
 have hr0:=run_append_room (P:=P) w t o.type e inf hd hinf g n cap ⟨cs⟩ hblk ⟨b2,off2,none⟩ m cap2 news (by rw[hnl,hisz,hsz,Nat.mul_one]) (fun j v hv=>by
   obtain⟨hj,rfl⟩:=map_range_get j v hv
   rw[addr_add]
   exact(h2.cell j (by omega)).2) hn1 hroom (by rw[e1,hnl];simp;omega)
 rw[e1,hnl,←hyv]at hr0
 have hst:=hc1.store (u':=.vec M fun j=>if n≤j∧j<n+m then(el2 (j-n)).getD 0 .any else el j) hblk hover rfl (fun z hz=>by
  rcases List.mem_append.1 (show z∈cs.take n++news++cs.drop (n+m) from hz)with hz|hz
  ·rcases List.mem_append.1 hz with hz|hz
   ·exact hone z (List.mem_of_mem_take hz)
   ·exact hn1 z hz
  ·exact hone z (List.mem_of_mem_drop hz))
 refine upon_value_ok (c:=.slice (some ⟨g,0,none⟩) (n+m) cap) (w':=w.setRow g ⟨cs.take n++news++cs.drop (n+m)⟩) ?_ (hr st _ (.mslice g 0 (n+m) cap) _ _ (hst.1.perm (perm_set H i _ _ hi)) hst.2 (.mslice _ _ _ _) ⟨rfl,rfl⟩)
 simp[execOp,ho,resolve,invoke,builtin,hxe,hr0,Result.andThen]
end
section
variable {P:Program} {N:Nat} {ty:TypeId→Option TyI} {T:Tmps} {H:AHeap} {Q:APost} {o:Oper} {l0:List Oper} {LD:LDs} {W:Bool} {l:List (Nat×Oper)} {nn:Nat}
theorem qslH (hty:TyOk P ty) {t e:TypeId} {x y:Operand} {i ei:TyI} {m cap g off:Nat} {k:IntKind} {h:Int} {d:Nat}
  (k':TR P N ty l0 LD W Q l ((d,.mslice g off h.toNat cap)::T) H)
  (ho:o.op=.slice t x none (some y) none:=by exact rfl) (hg:o.guard=none:=by exact rfl) (hd:o.dst=some d:=by exact rfl) (hN:Nat.ble (d+1) N=true:=by exact rfl)
  (hon:optN True T (tmpsOf o.op):=by exact True.intro) (hti:ty t=some i:=by exact rfl) (hk:i.k=.slice e:=by exact rfl) (he:ty e=some ei:=by exact rfl)
  (hx:opvL (tmpsOf o.op) T x=some (.mslice g off m cap):=by exact rfl) (hy:opvL (tmpsOf o.op) T y=some (.int k h):=by exact rfl)
  (hh:0≤h∧h≤(cap:Int):=by first|decide|omega):TR P N ty l0 LD W Q ((nn,o)::l) T H:=by
 refine TR.sem (.mslice g off h.toNat cap) d hg hd hN hon (fun st w ρ hF=>?_) k'
 have h2:=(hF y _ hy).int_eq
 have h1:=hF x _ hx
 generalize hxv:ρ x=xv at h1
 cases h1 with
 |mslice _ _ _ _=>
  obtain⟨⟨dd,hdd,hkf⟩,-⟩:=hty t i hti
  obtain⟨-,inf2,_,hinf2,hsz2,-⟩:=hty e ei he
  rw[hk]at hkf
  obtain rfl:dd=.slice e:=hkf
  refine⟨.slice (some ⟨g,off,none⟩) h.toNat cap,?_,.mslice _ _ _ _⟩
  obtain⟨dst,op',type,pos,after,guard⟩:=o
  simp only at ho
  subst ho
  show((do pure (.value (←Instr.sliceAt t (ρ x) none (some (ρ y)) none))):Sem Next).run P w=_
  rw[hxv,h2]
  refine exec_v ?_
  simp[Instr.sliceAt,Instr.slice,run_underlying hdd,Instr.sliceBounds,Instr.sliceBound,asIntOf,run_sizeOf hinf2,hh.1,hh.2,Addr.add]
theorem qsl3 (hty:TyOk P ty) {t e:TypeId} {x ya yb yc:Operand} {i ei:TyI} {m cap g off:Nat} {ka kb kc:IntKind} {a b c:Int} {d:Nat}
  (k':TR P N ty l0 LD W Q l ((d,.mslice g (off+a.toNat*ei.size) (b.toNat-a.toNat) (c.toNat-a.toNat))::T) H)
  (ho:o.op=.slice t x (some ya) (some yb) (some yc):=by exact rfl) (hg:o.guard=none:=by exact rfl) (hd:o.dst=some d:=by exact rfl) (hN:Nat.ble (d+1) N=true:=by exact rfl)
  (hon:optN True T (tmpsOf o.op):=by exact True.intro) (hti:ty t=some i:=by exact rfl) (hk:i.k=.slice e:=by exact rfl) (he:ty e=some ei:=by exact rfl)
  (hx:opvL (tmpsOf o.op) T x=some (.mslice g off m cap):=by exact rfl) (ha:opvL (tmpsOf o.op) T ya=some (.int ka a):=by exact rfl) (hb:opvL (tmpsOf o.op) T yb=some (.int kb b):=by exact rfl) (hc:opvL (tmpsOf o.op) T yc=some (.int kc c):=by exact rfl)
  (hh:0≤a∧a≤b∧b≤c∧c≤(cap:Int)∧a<c:=by omega):TR P N ty l0 LD W Q ((nn,o)::l) T H:=by
 refine TR.sem (.mslice g (off+a.toNat*ei.size) (b.toNat-a.toNat) (c.toNat-a.toNat)) d hg hd hN hon (fun st w ρ hF=>?_) k'
 have h2:=(hF ya _ ha).int_eq
 have h3:=(hF yb _ hb).int_eq
 have h4:=(hF yc _ hc).int_eq
 have h1:=hF x _ hx
 generalize hxv:ρ x=xv at h1
 cases h1 with
 |mslice _ _ _ _=>
  obtain⟨⟨dd,hdd,hkf⟩,-⟩:=hty t i hti
  obtain⟨-,inf2,_,hinf2,hsz2,-⟩:=hty e ei he
  rw[hk]at hkf
  obtain rfl:dd=.slice e:=hkf
  refine⟨.slice (some ⟨g,off+a.toNat*ei.size,none⟩) (b.toNat-a.toNat) (c.toNat-a.toNat),?_,.mslice _ _ _ _⟩
  obtain⟨dst,op',type,pos,after,guard⟩:=o
  simp only at ho
  subst ho
  show((do pure (.value (←Instr.sliceAt t (ρ x) (some (ρ ya)) (some (ρ yb)) (some (ρ yc))))):Sem Next).run P w=_
  rw[hxv,h2,h3,h4]
  refine exec_v ?_
  obtain⟨g1,g2,g3,g4,g5⟩:=hh
  have q1:(0:Int)≤c:=by omega
  have q2:(0:Int)≤b:=by omega
  have q3:¬c.toNat=a.toNat:=by omega
  have q4:b≤max c 0:=by omega
  have q5:a≤max b 0:=by omega
  simp[Instr.sliceAt,Instr.slice,run_underlying hdd,Instr.sliceBounds,Instr.sliceBound,asIntOf,run_sizeOf hinf2,hsz2,addr_add,g1,g4,q1,q2,q3,q4,q5]
theorem qcopyM (hty:TyOk P ty) {x y:Operand} {t t2 e:TypeId} {ti ei:TyI} {g off n cap m M:Nat} {el:Nat→AV} {el2:Nat→List AV} {ow:Own} {vy:AV} {G:Ent→AHeap}
  (k:TR P N ty l0 LD W Q l (putO o.dst (.int .i64 n) T) (G (rowM g e M fun j=>if off≤j∧j<off+n then(el2 (j-off)).getD 0 .any else el j)))
  (hnm:n=m) (hfit:off+n≤M) (hi:EntAt H (rowM g e M el) G:=by(first|exact .here|exact .there (.here)|exact .there (.there (.here))|exact .there (.there (.there (.here)))|exact .there (.there (.there (.there (.here))))|exact .there (.there (.there (.there (.there (.here)))))|exact .there (.there (.there (.there (.there (.there (.here))))))|exact .there (.there (.there (.there (.there (.there (.there (.here)))))))|exact .there (.there (.there (.there (.there (.there (.there (.there (.here))))))))|exact .there (.there (.there (.there (.there (.there (.there (.there (.there (.here)))))))))|exact .there (.there (.there (.there (.there (.there (.there (.there (.there (.there (.here))))))))))|exact .there (.there (.there (.there (.there (.there (.there (.there (.there (.there (.there (.here)))))))))))|exact .there (.there (.there (.there (.there (.there (.there (.there (.there (.there (.there (.there (.here))))))))))))|exact .there (.there (.there (.there (.there (.there (.there (.there (.there (.there (.there (.there (.there (.here)))))))))))))|exact .there (.there (.there (.there (.there (.there (.there (.there (.there (.there (.there (.there (.there (.there (.here))))))))))))))|exact .there (.there (.there (.there (.there (.there (.there (.there (.there (.there (.there (.there (.there (.there (.there (.here)))))))))))))))))
  (hg:o.guard=none:=by exact rfl) (ho:o.op=.call {callee:=.builtin .copy,args:= #[x,y],argTypes:= #[t,t2]}:=by exact rfl) (hN:dstOk o.dst N=true:=by exact rfl)
  (hon:optN True T (tmpsOf o.op):=by exact True.intro) (hti:ty t=some ti:=by exact rfl) (hk:ti.k=.slice e:=by exact rfl) (hei:ty e=some ei:=by exact rfl) (hsz:ei.size=1:=by exact rfl)
  (hx:opvL (tmpsOf o.op) T x=some (.mslice g off n cap):=by exact rfl) (hy:opvL (tmpsOf o.op) T y=some vy:=by exact rfl) (hvy:asSl 1 vy=some (m,el2,ow):=by exact rfl) (hkb:LD.kp nn e=false:=by exact rfl):TR P N ty l0 LD W Q ((nn,o)::l) T H:=by
 obtain⟨i,g1,g2⟩:=hi.spec
 rw[g2]at k
 refine TR.hard _ (.inr (by rw[ho];rfl)) hg hN hon (hard_copy hty i ho hti hk hei hsz hx hy hvy hnm hfit g1) ?_ ?_ (fun _ v H' ⟨_,e⟩=>e▸KeepB.setBox g1 hkb _) (fun h=>by rw[ho]at h;cases h)
 ·rintro v H' ⟨e,rfl⟩
  cases e
  exact k
 ·rintro v H' ⟨e,_⟩
  cases e
theorem qappM (hty:TyOk P ty) {x y:Operand} {t e:TypeId} {ti ei:TyI} {g n cap m M:Nat} {el:Nat→AV} {el2:Nat→List AV} {ow:Own} {vy:AV} {G:Ent→AHeap} {d:Nat}
  (k:TR P N ty l0 LD W Q l ((d,.mslice g 0 (n+m) cap)::T) (G (rowM g e M fun j=>if n≤j∧j<n+m then(el2 (j-n)).getD 0 .any else el j)))
  (hm:0<m) (hroom:n+m≤cap) (hfit:n+m≤M) (hi:EntAt H (rowM g e M el) G:=by(first|exact .here|exact .there (.here)|exact .there (.there (.here))|exact .there (.there (.there (.here)))|exact .there (.there (.there (.there (.here))))|exact .there (.there (.there (.there (.there (.here)))))|exact .there (.there (.there (.there (.there (.there (.here))))))|exact .there (.there (.there (.there (.there (.there (.there (.here)))))))|exact .there (.there (.there (.there (.there (.there (.there (.there (.here))))))))|exact .there (.there (.there (.there (.there (.there (.there (.there (.there (.here)))))))))|exact .there (.there (.there (.there (.there (.there (.there (.there (.there (.there (.here))))))))))|exact .there (.there (.there (.there (.there (.there (.there (.there (.there (.there (.there (.here)))))))))))|exact .there (.there (.there (.there (.there (.there (.there (.there (.there (.there (.there (.there (.here))))))))))))|exact .there (.there (.there (.there (.there (.there (.there (.there (.there (.there (.there (.there (.there (.here)))))))))))))|exact .there (.there (.there (.there (.there (.there (.there (.there (.there (.there (.there (.there (.there (.there (.here))))))))))))))|exact .there (.there (.there (.there (.there (.there (.there (.there (.there (.there (.there (.there (.there (.there (.there (.here)))))))))))))))))
  (hg:o.guard=none:=by exact rfl) (ho:o.op=.call {callee:=.builtin .append,args:= #[x,y],argTypes:= #[t,t]}:=by exact rfl) (hd:o.dst=some d:=by exact rfl) (hN:dstOk o.dst N=true:=by exact rfl)
  (hon:optN True T (tmpsOf o.op):=by exact True.intro) (hti:ty t=some ti:=by exact rfl) (hk:ti.k=.slice e:=by exact rfl) (hei:ty e=some ei:=by exact rfl) (hsz:ei.size=1:=by exact rfl)
  (hx:opvL (tmpsOf o.op) T x=some (.mslice g 0 n cap):=by exact rfl) (hy:opvL (tmpsOf o.op) T y=some vy:=by exact rfl) (hvy:asSl 1 vy=some (m,el2,ow):=by exact rfl) (hkb:LD.kp nn e=false:=by exact rfl):TR P N ty l0 LD W Q ((nn,o)::l) T H:=by
 obtain⟨i,g1,g2⟩:=hi.spec
 rw[g2]at k
 refine TR.hard _ (.inr (by rw[ho];rfl)) hg hN hon (hard_appendM hty i ho hti hk hei hsz hx hy hvy hm hroom hfit g1) ?_ ?_ (fun _ v H' ⟨_,e⟩=>e▸KeepB.setBox g1 hkb _) (fun h=>by rw[ho]at h;cases h)
 ·rintro v H' ⟨e,rfl⟩
  cases e
  rw[hd]
  exact k
 ·rintro v H' ⟨e,_⟩
  cases e
theorem rowN_zero (k:IntKind) (m:Nat):(fun j:Nat=>([AV.int k 0]).getD (j%1) .any)=fun j=>.int k ((List.replicate m 0).getD j 0:Nat):=by
 funext j
 have e:(List.replicate m 0).getD j 0=0:=by
  rw[List.getD_eq_getElem?_getD,List.getElem?_replicate]
  split<;>rfl
 rw[e,Nat.mod_one]
 rfl
theorem qmakeN (hty:TyOk P ty) {x y:Operand} {t e:TypeId} {ti ei:TyI} {m:Nat} {d:Nat} {k:IntKind} (kk:∀g,TR P N ty l0 LD W Q l ((d,.mslice g 0 m m)::T) (rowN k g e (List.replicate m 0)::H))
  (hb:ei.bytes*m≤281474976710656∧m≤9223372036854775807) (hg:o.guard=none:=by exact rfl)
  (ho:o.op=.makeSlice t x y:=by exact rfl) (hd:o.dst=some d:=by exact rfl) (hN:Nat.ble (d+1) N=true:=by exact rfl) (hon:optN True T (tmpsOf o.op):=by exact True.intro)
  (hti:ty t=some ti:=by exact rfl) (hk:ti.k=.slice e:=by exact rfl) (hei:ty e=some ei:=by exact rfl) (hsz:ei.size=1:=by exact rfl) (hzs:cellsOf ei.zero=some [.int k 0]:=by exact rfl)
  (hx:opvL (tmpsOf o.op) T x=some (.int .i64 m):=by exact rfl) (hy:opvL (tmpsOf o.op) T y=some (.int .i64 m):=by exact rfl):TR P N ty l0 LD W Q ((nn,o)::l) T H:=by
 refine qmake hty (fun g=>?_) hb hg ho hd hN hon hti hk hei hzs hx hy
 have h:=kk g
 unfold rowN at h
 rw[List.length_replicate,←rowN_zero]at h
 rw[hsz,Nat.mul_one]
 exact h
end
end Go.Ab
namespace Go.Ab
section
variable {P:Program} {b:Frame} {a:Act} {k:List Item} {cs:List Frame} {w:World} {F:Fence} {n:Nat} {Q:Exit→Act→World→Prop}
theorem stepS_scope {c:Code}:step P (lone (b.atR a (.code (.scope c)::k)) cs w)=.next (lone (b.atR a (.code c::.inScope c::k)) cs w):=
 step_lone_go (by simp[stepG,stepG.exec,Frame.atR])
theorem stepS_inScope {c:Code}:step P (lone (b.atR a (.inScope c::k)) cs w)=.next (lone (b.atR a k) cs w):=
 step_lone_go (by simp[stepG,stepG.exec,Frame.atR])
theorem wpIn_scopeS {c:Code} (h:c.wpIn F n P (fun e a w=>(∀l,e≠.goto l)∧Q e a w) a w):(Code.scope c).wpIn F n P Q a w:=by
 intro b k cs hro hb hr
 have h0:(lone (b.atR a (.code (.scope c)::k)) cs w).fenced P F:=fenced_calm hb hr rfl
 obtain⟨e,a₁,w₁,⟨hg,hq⟩,harr⟩:=h b (.inScope c::k) cs hro hb hr
 cases e with
 |normal=>exact⟨.normal,a₁,w₁,hq,.head h0 stepS_scope (StepsIn.trans harr (.one (fenced_calm hb hr rfl) stepS_inScope))⟩
 |exit id=>
  have hx:exitTo id (.inScope c::k)=exitTo id k:=by simp[exitTo]
  exact⟨.exit id,a₁,w₁,hq,fun k' hk=>.head h0 stepS_scope (harr.1 k' (by rw[hx];exact hk)),
    fun hr' hk=>let ⟨k₁,h1,h2⟩:=harr.2 hr' (by rw[hx];exact hk);⟨k₁,h1,.head h0 stepS_scope h2⟩⟩
 |goto l=>exact absurd rfl (hg l)
 |ret=>exact⟨_,a₁,w₁,hq,.of_steps (.one h0 stepS_scope) harr⟩
 |panic ch=>exact⟨_,a₁,w₁,hq,.of_steps (.one h0 stepS_scope) harr⟩
 |outgrown=>exact⟨_,a₁,w₁,hq,.of_steps (.one h0 stepS_scope) harr⟩
end
def retS (Q:APost):APost
 |.ret,T,H=>Q .ret T H
 |_,_,_=>False
theorem retS_ret {Q:APost} {T:Tmps} {H:AHeap} (h:Q .ret T H):retS Q .ret T H:=h
theorem awp_scopeS {P:Program} {N:Nat} {T:Tmps} {H:AHeap} {Q:APost} {c:Code} (h:AWP P N c T H (retS Q)):AWP P N (.scope c) T H Q:=by
 intro E st w a r B hc hf hd
 refine wpIn_scopeS (wpIn_mono (h E st w a r B hc hf hd) ?_)
 intro e a' w' hp
 cases e with
 |outgrown=>exact hp.elim
 |_=>
  obtain⟨st',T',H',x,h1,h2,h3,h4,h5⟩:=hp
  cases x<;>first|exact h4.elim|exact h5.elim|exact⟨fun l e=>(by cases e),st',T',H',_,h1,h2,h3,h4,h5⟩
end Go.Ab
namespace Go.Ab
section
variable {P:Program} {ty:TypeId→Option TyI} {T:Tmps} {H:AHeap}
theorem rc1 {rs:List ResultVar} {x:AX} {a t b off k:Nat} {ty0:TypeId} {w u v:AV} {ti:TyI} {p:Prop} (i:Nat) (hs:Sub v u) (hx:isRet x=true:=by exact rfl) (hr:rs=[.cell a t]:=by exact rfl) (hl:lk T a=some (.ptr b off):=by exact rfl) (ht:ty t=some ti:=by exact rfl)
  (hi:H[i]?=some (.box b ty0 w):=by exact rfl) (hv:boxAt ti w off=some (p,v):=by exact rfl) (hp:p:=by exact True.intro) (hd:H.drop k=[]:=by(first|exact(rfl:List.drop 0 _=_)|exact(rfl:List.drop 1 _=_)|exact(rfl:List.drop 2 _=_)|exact(rfl:List.drop 3 _=_)|exact(rfl:List.drop 4 _=_)|exact(rfl:List.drop 5 _=_)|exact(rfl:List.drop 6 _=_))):
  fnQ ty rs (fun r H'=>r=.ret u∧H'=[]) x T H:=fnQ_c1 k i hx hr hl ht hi hv hd hp hs
theorem rc2 {rs:List ResultVar} {x:AX} {a t b off k t2:Nat} {ty0:TypeId} {w v v2 u1 u2:AV} {ti:TyI} {p:Prop} (i:Nat) (h1:Sub v u1) (h2:Sub v2 u2) (hx:isRet x=true:=by exact rfl) (hr:rs=[.cell a t,.tmp t2]:=by exact rfl) (hl:lk T a=some (.ptr b off):=by exact rfl) (hl2:lk T t2=some v2:=by exact rfl) (ht:ty t=some ti:=by exact rfl)
  (hi:H[i]?=some (.box b ty0 w):=by exact rfl) (hv:boxAt ti w off=some (p,v):=by exact rfl) (hp:p:=by exact True.intro) (hd:H.drop k=[]:=by(first|exact(rfl:List.drop 0 _=_)|exact(rfl:List.drop 1 _=_)|exact(rfl:List.drop 2 _=_)|exact(rfl:List.drop 3 _=_)|exact(rfl:List.drop 4 _=_)|exact(rfl:List.drop 5 _=_)|exact(rfl:List.drop 6 _=_))):
  fnQ ty rs (fun r H'=>r=.ret (.tuple [u1,u2])∧H'=[]) x T H:=
 fnQ_ret (vs:=[v,v2]) k hx (by rw[hr];exact .cell hl ht (List.mem_of_getElem? hi) hv hp (.tmp hl2 .nil)) (Sub.tuple2 h1 h2) ⟨rfl,hd⟩
theorem rcA {G R:Prop} (k:R) (h:Hld R→G:=by intro k_;first|exact rc1 0 k_.out|exact rc1 1 k_.out|exact rc1 2 k_.out|exact rc1 3 k_.out|exact rc1 4 k_.out|exact rc1 5 k_.out|exact rc1 6 k_.out|exact rc1 7 k_.out|fail):G:=h ⟨k⟩
theorem rcB {G R S:Prop} (k:R) (k2:S) (h:Hld R→Hld S→G:=by intro k_ l_;first|exact rc2 0 k_.out l_.out|exact rc2 1 k_.out l_.out|exact rc2 2 k_.out l_.out|exact rc2 3 k_.out l_.out|exact rc2 4 k_.out l_.out|exact rc2 5 k_.out l_.out|exact rc2 6 k_.out l_.out|exact rc2 7 k_.out l_.out|fail):G:=h ⟨k⟩ ⟨k2⟩
end
end Go.Ab
namespace Go.Ab
section
variable {P:Program} {N:Nat} {ty:TypeId→Option TyI} {T:Tmps} {H:AHeap} {Q:APost} {o:Oper} {l0:List Oper} {LD:LDs} {W:Bool} {l:List (Nat×Oper)} {nn:Nat} {F:Operand→Option AV}
theorem awp_weak {c:Code} {T':Tmps} (h:Weak T T') (k:AWP P N c T' H Q):AWP P N c T H Q:=awp_weaken (Weak.spec h) k
def allocsOkS (sc:List Nat) (l:List Oper) (σ A τ:List Nat):Bool:=
 A.all (hardAt l (fun x=>sc.contains x))&&A.all (fun a=>A.all fun b=>Nat.beq a b || pairOkM sc l (ancsOf l []) (fun i=>A.contains i) a b)&&σ.all (fun j=> !A.contains j&& !hardAt l (fun x=>sc.contains x) j)&&τ.all (fun t=> !A.contains t)&& !A.isEmpty
end
end Go.Ab
namespace Go.Ab
def idxA:Nat→List (List AV)→List (Nat×AV)
 |_,[]=>[]
 |k,c::cs=>(k,.agg c)::idxA (k+1) cs
section
variable {P:Program} {N:Nat} {ty:TypeId→Option TyI} {T:Tmps} {H:AHeap} {Q:APost} {o:Oper} {l0:List Oper} {LD:LDs} {W:Bool} {l:List (Nat×Oper)} {n:Nat}
end
end Go.Ab
