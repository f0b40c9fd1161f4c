/-
  Arrays whose length is told when they are made: the call owns them, and hands them on, or they stand still at last.
-/
import Derived.Test.YtcbdfmmiigpddaaDoorAbC
import Derived.Laws.MakeOwn
namespace Go.Ab
def rowM (g:Nat) (e:TypeId) (m:Nat) (el:Nat→AV):Ent:=.box g e (.vec m el)
def rowI (g:Nat) (t:TypeId) (xs:List Int):Ent:=rowM g t xs.length fun j=>.int .i64 (xs.getD j 0)
theorem rowI_put {g:Nat} {t:TypeId} {xs:List Int} {j:Nat} {v:Int} (h:j<xs.length):Ent.box g t (.vec xs.length fun k=>.int .i64 (if k=j then v else xs.getD k 0))=rowI g t (xs.set j v):=by
 unfold rowI rowM
 rw[List.length_set]
 congr 2
 funext k
 simp only[List.getD_eq_getElem?_getD,List.getElem?_set]
 by_cases e:k=j
 ·subst e
  simp[h]
 ·rw[if_neg e,if_neg (fun h=>e h.symm)]
theorem rowI_zero {sz:Nat} (h:0<sz) (m:Nat):(fun j:Nat=>(List.replicate sz (AV.int .i64 0)).getD (j%sz) .any)=fun j=>.int .i64 ((List.replicate m (0:Int)).getD j 0):=by
 funext j
 have e:(List.replicate m (0:Int)).getD j 0=0:=by
  rw[List.getD_eq_getElem?_getD,List.getElem?_replicate]
  split<;>rfl
 rw[e,List.getD_eq_getElem?_getD,List.getElem?_replicate,if_pos (Nat.mod_lt _ h)]
 rfl
theorem getBang {z:Array Value} {k:Nat} (h:k<z.size):z.toList[k]?=some (z[k]!):=by
 rw[getElem!_pos z k h]
 simp[h]
section
variable {P:Program} {ty:TypeId→Option TyI} {o:Oper} {F:Operand→Option AV} {H:AHeap}
theorem hard_make (hty:TyOk P ty) {x y:Operand} {t e:TypeId} {ti ei:TyI} {m:Nat} {zs:List AV}
  (ho:o.op=.makeSlice t x y) (hti:ty t=some ti) (hk:ti.k=.slice e) (hei:ty e=some ei) (hzs:cellsOf ei.zero=some zs)
  (hx:F x=some (.int .i64 m)) (hy:F y=some (.int .i64 m)) (hb:ei.bytes*m≤281474976710656∧m≤9223372036854775807):
  AHard P o F H fun r H'=>∃g,r=.ret (.mslice g 0 m m)∧H'=rowM g e (m*ei.size) (fun j=>zs.getD (j%ei.size) .any)::H:=by
 intro E st w act r next Q hc hF _ hr _
 obtain⟨⟨d,hd,hkf⟩,-⟩:=hty t ti hti
 rw[hk]at hkf
 obtain rfl:d=.slice e:=hkf
 obtain⟨-,inf,z,hinf,hisz,hby,hz,hzsz,hzr,hzo⟩:=hty e ei hei
 have hxv:=(hF x _ hx).int_eq
 have hyv:=(hF y _ hy).int_eq
 obtain⟨hl,hr0⟩:=cellsOf_rep (hzr st w) hzs
 have hb':(inf.bytes:Int)*(m:Int)≤281474976710656:=by
  have h:((ei.bytes*m:Nat):Int)≤281474976710656:=by omega
  rw[hby]
  rwa [Int.natCast_mul]at h
 have hrun:=run_make (P:=P) w t e inf z hd hinf hz .i64 .i64 m m (by omega) (Int.le_refl _) hb' (by omega)
 simp only[Int.toNat_natCast,hisz]at hrun
 have hat:∀(j:Nat) (u:Value),(madeCells z.cells (m*ei.size)).toList[j]?=some u→j%ei.size<z.cells.size∧u=z.cells[j%ei.size]! :=by
  intro j u hu
  simp only[madeCells,Array.toList_map,Array.toList_range,List.getElem?_map]at hu
  have hj:j<m*ei.size:=by
   by_cases hj:j<m*ei.size
   ·exact hj
   ·rw[List.getElem?_eq_none (by simp;omega)]at hu
    cases hu
  rw[List.getElem?_eq_getElem (by simpa using hj)]at hu
  simp only[List.getElem_range,Option.map_some,Option.some.injEq]at hu
  have hs:0<ei.size:=by
   rcases Nat.eq_zero_or_pos ei.size with h0|h0
   ·rw[h0,Nat.mul_zero]at hj;omega
   ·exact h0
  rw[hzsz]at hu
  exact⟨by rw[hzsz];exact Nat.mod_lt _ hs,hu.symm⟩
 have hone:∀u∈(madeCells z.cells (m*ei.size)).toList,u.oneCell'=true:=by
  intro u hu
  obtain⟨j,hj⟩:=List.getElem?_of_mem hu
  obtain⟨h1,rfl⟩:=hat j u hj
  exact hzo _ (List.mem_of_getElem? (getBang h1))
 have hrep:Rep st w (.vec (m*ei.size) fun j=>zs.getD (j%ei.size) .any) (.agg (madeCells z.cells (m*ei.size))):=by
  refine .vec _ _ (madeCells z.cells (m*ei.size)).toList (by rw[Array.length_toList,size_madeCells]) (fun j u hu=>?_) hone
  obtain⟨h1,rfl⟩:=hat j u hu
  have h2:j%ei.size<zs.length:=by rw[←hl,Array.length_toList];exact h1
  have h3:zs[j%ei.size]?=some (zs.getD (j%ei.size) .any):=by
   rw[List.getD_eq_getElem?_getD,List.getElem?_eq_getElem h2]
   rfl
  exact hr0 _ _ _ h3 (getBang h1)
 have hnb:=hc.newBox (ty:=e) hrep hone
 refine upon_value_ok (c:=.slice (some ⟨w.heap.size,0,none⟩) m m) (w':=w.alloc (.cells (madeCells z.cells (m*ei.size)) e)) ?_ (hr st _ (.mslice w.heap.size 0 m m) _ _ hnb.1 hnb.2 (.mslice _ _ _ _) ⟨_,rfl,rfl⟩)
 simp[execOp,ho,hxv,hyv,hrun]
end
section
variable {P:Program} {N:Nat} {ty:TypeId→Option TyI} {T:Tmps} {H:AHeap} {Q:APost} {o:Oper} {l0:List Oper} {LD:LDs} {W:Bool} {l:List (Nat×Oper)} {n:Nat}
theorem qmake (hty:TyOk P ty) {x y:Operand} {t e:TypeId} {ti ei:TyI} {m:Nat} {zs:List AV} {d:Nat} (k:∀g,TR P N ty l0 LD W Q l ((d,.mslice g 0 m m)::T) (rowM g e (m*ei.size) (fun j=>zs.getD (j%ei.size) .any)::H))
  (hb:ei.bytes*m≤281474976710656∧m≤9223372036854775807) (hg:o.guard=none:=by exact rfl)
  (ho:o.op=.makeSlice t x y:=by exact rfl) (hd:o.dst=some d:=by exact rfl) (hN:Nat.ble (d+1) N=true:=by exact rfl) (hon:optN True T (tmpsOf o.op):=by exact True.intro)
  (hti:ty t=some ti:=by exact rfl) (hk:ti.k=.slice e:=by exact rfl) (hei:ty e=some ei:=by exact rfl) (hzs:cellsOf ei.zero=some zs:=by exact rfl)
  (hx:opvL (tmpsOf o.op) T x=some (.int .i64 m):=by exact rfl) (hy:opvL (tmpsOf o.op) T y=some (.int .i64 m):=by exact rfl):TR P N ty l0 LD W Q ((n,o)::l) T H:=by
 refine TR.hard (fun r H'=>∃g,r=.ret (.mslice g 0 m m)∧H'=rowM g e (m*ei.size) (fun j=>zs.getD (j%ei.size) .any)::H) (.inr (by rw[ho];rfl)) hg (by rw[hd];exact hN) hon (hard_make hty ho hti hk hei hzs hx hy hb) ?_ ?_ (fun _ v H' ⟨_,_,e⟩=>e▸KeepB.cons _ _) (fun h=>by rw[ho]at h;cases h)
 ·rintro v H' ⟨g,e,rfl⟩
  cases e
  rw[hd]
  exact k g
 ·rintro v H' ⟨b,e,_⟩
  cases e
theorem qmakeI (hty:TyOk P ty) {x y:Operand} {t e:TypeId} {ti ei:TyI} {m:Nat} {d:Nat} (sz:Nat) (k:∀g,TR P N ty l0 LD W Q l ((d,.mslice g 0 m m)::T) (rowI g e (List.replicate (m*sz) 0)::H))
  (hb:ei.bytes*m≤281474976710656∧m≤9223372036854775807) (hsz:ei.size=sz:=by exact rfl) (hsp:0<sz:=by decide) (hg:o.guard=none:=by exact rfl)
  (ho:o.op=.makeSlice t x y:=by exact rfl) (hd:o.dst=some d:=by exact rfl) (hN:Nat.ble (d+1) N=true:=by exact rfl) (hon:optN True T (tmpsOf o.op):=by exact True.intro)
  (hti:ty t=some ti:=by exact rfl) (hk:ti.k=.slice e:=by exact rfl) (hei:ty e=some ei:=by exact rfl) (hzs:cellsOf ei.zero=some (List.replicate sz (.int .i64 0)):=by exact rfl)
  (hx:opvL (tmpsOf o.op) T x=some (.int .i64 m):=by exact rfl) (hy:opvL (tmpsOf o.op) T y=some (.int .i64 m):=by exact rfl):TR P N ty l0 LD W Q ((n,o)::l) T H:=by
 refine qmake hty (fun g=>?_) hb hg ho hd hN hon hti hk hei hzs hx hy
 have h:=k g
 unfold rowI at h
 rw[List.length_replicate,←rowI_zero hsp]at h
 rw[hsz]
 exact h
theorem one_makeI (hty:TyOk P ty) {a:Nat} {x y:Operand} {t e:TypeId} {ti ei:TyI} {m:Nat} {d:Nat} {M:Tmps→AHeap→Prop} (sz:Nat) (hl:l0[a]?=some o) (hg:o.guard=none)
  (ho:o.op=.makeSlice t x y) (hd:o.dst=some d) (hon:optN True T (tmpsOf o.op)) (hti:ty t=some ti) (hk:ti.k=.slice e) (hei:ty e=some ei) (hsz:ei.size=sz) (hsp:0<sz) (hzs:cellsOf ei.zero=some (List.replicate sz (.int .i64 0)))
  (hx:opvL (tmpsOf o.op) T x=some (.int .i64 m)) (hy:opvL (tmpsOf o.op) T y=some (.int .i64 m)) (hb:ei.bytes*m≤281474976710656∧m≤9223372036854775807)
  (k:∀g,M ((d,.mslice g 0 m m)::T) (rowI g e (List.replicate (m*sz) 0)::H)):OneO P N l0 LD a T H M:=by
 refine⟨o,fun r H'=>∃g,r=some (.mslice g 0 m m)∧H'=rowM g e (m*ei.size) (fun j=>(List.replicate sz (AV.int .i64 0)).getD (j%ei.size) .any)::H,hl,fun Q2 E st w ac ro B0 next hc hsz2 hd2 hf2 _ hk2=>?_,?_⟩
 ·rw[if_pos (wanted_none hg)]
  refine(hard_make hty ho hti hk hei hzs hx hy hb) (Env0.of w st H) st w ac ro next (Post E N ro B0 Q2) hc.start (fun y u hy=>opvL_rep (N:=N) (fun t ht=>hf2 t (reads_t ht)) hon trivial hsz2 hy) hd2.gl ?_ ?_
  ·rintro st' w' v c H' h1 h2 h3 ⟨g,e1,rfl⟩
   cases e1
   exact hk2 st' w' c (some _) _ (hc.trans h1) (hd2.keep h1) h2 (fun u hu=>by cases hu;exact h3) ⟨g,rfl,rfl⟩
  ·rintro st' w' v c H' h1 h2 h3 ⟨g,e1,_⟩
   cases e1
 ·rintro r H' ⟨g,rfl,rfl⟩
  refine⟨?_,fun h=>(by cases h),fun _=>KeepB.cons _ _⟩
  rw[hd]
  have h:=k g
  unfold rowI at h
  rw[List.length_replicate,←rowI_zero hsp]at h
  rw[hsz]
  exact h
theorem qiaM (hty:TyOk P ty) {t e:TypeId} {x y:Operand} {i ei:TyI} {m cap g off:Nat} {k:IntKind} {j:Int} {d:Nat}
  (k':TR P N ty l0 LD W Q l ((d,.ptr g (off+j.toNat*ei.size))::T) H)
  (ho:o.op=.indexAddr t x y:=by exact rfl) (hg:o.guard=none:=by exact rfl) (hd:o.dst=some d:=by exact rfl) (hN:Nat.ble (d+1) N=true:=by exact rfl)
  (hon:optN True T (tmpsOf o.op):=by exact True.intro) (hti:ty t=some i:=by exact rfl) (hk:i.k=.slice e:=by exact rfl) (he:ty e=some ei:=by exact rfl)
  (hx:opvL (tmpsOf o.op) T x=some (.mslice g off m cap):=by exact rfl) (hy:opvL (tmpsOf o.op) T y=some (.int k j):=by exact rfl)
  (hj:0≤j∧j<(m:Int):=by first|decide|omega):TR P N ty l0 LD W Q ((n,o)::l) T H:=by
 refine TR.sem (.ptr g (off+j.toNat*ei.size)) d hg hd hN hon (fun st w ρ hF=>?_) k'
 have h2:=(hF y _ hy).int_eq
 have h1:=hF x _ hx
 generalize hxv:ρ x=xv at h1
 cases h1 with
 |mslice _ _ _ _=>
  obtain⟨⟨dd,hdd,hkf⟩,-⟩:=hty t i hti
  obtain⟨-,inf2,_,hinf2,hsz2,-⟩:=hty e ei he
  rw[hk]at hkf
  obtain rfl:dd=.slice e:=hkf
  refine⟨.pointer (some ⟨g,off+j.toNat*ei.size,none⟩),?_,.ptr _ _⟩
  obtain⟨dst,op',type,pos,after,guard⟩:=o
  simp only at ho
  subst ho
  show((do pure (.value (←Instr.indexAt t (ρ x) (ρ y)))):Sem Next).run P w=_
  rw[hxv,h2]
  refine exec_v ?_
  unfold Instr.indexAt
  simp[asIntOf,run_underlying hdd,run_sizeOf hinf2,hsz2,hj.1,hj.2,addr_add]
theorem qcallXV {ι:Type} {cf:Operand} {args:Array Operand} {ats:Array TypeId} {f:FuncId} {first captured vs vs0:List AV} {G Hc:AHeap} {Hc' H2:ι→AHeap} {u:ι→AV} (h:ACalls P f vs0 Hc fun r H'=>∃i,r=.ret (u i)∧H'=Hc' i)
  (k:∀i,TR P N ty l0 LD W Q l (putO o.dst (u i) T) (H2 i)) (hp:AppL G Hc H:=by(first|exact .nil|exact .cons (.nil)|exact .cons (.cons (.nil))|exact .cons (.cons (.cons (.nil)))|exact .cons (.cons (.cons (.cons (.nil))))|exact .cons (.cons (.cons (.cons (.cons (.nil)))))|exact .cons (.cons (.cons (.cons (.cons (.cons (.nil))))))|exact .cons (.cons (.cons (.cons (.cons (.cons (.cons (.nil)))))))|exact .cons (.cons (.cons (.cons (.cons (.cons (.cons (.cons (.nil))))))))|exact .cons (.cons (.cons (.cons (.cons (.cons (.cons (.cons (.cons (.nil)))))))))|exact .cons (.cons (.cons (.cons (.cons (.cons (.cons (.cons (.cons (.cons (.nil))))))))))|exact .cons (.cons (.cons (.cons (.cons (.cons (.cons (.cons (.cons (.cons (.cons (.nil))))))))))))) (hp2:∀i,AppL G (Hc' i) (H2 i):=by intro i;(first|exact .nil|exact .cons (.nil)|exact .cons (.cons (.nil))|exact .cons (.cons (.cons (.nil)))|exact .cons (.cons (.cons (.cons (.nil))))|exact .cons (.cons (.cons (.cons (.cons (.nil)))))|exact .cons (.cons (.cons (.cons (.cons (.cons (.nil))))))|exact .cons (.cons (.cons (.cons (.cons (.cons (.cons (.nil)))))))|exact .cons (.cons (.cons (.cons (.cons (.cons (.cons (.cons (.nil))))))))|exact .cons (.cons (.cons (.cons (.cons (.cons (.cons (.cons (.cons (.nil)))))))))|exact .cons (.cons (.cons (.cons (.cons (.cons (.cons (.cons (.cons (.cons (.nil))))))))))|exact .cons (.cons (.cons (.cons (.cons (.cons (.cons (.cons (.cons (.cons (.cons (.nil)))))))))))))
  (hg:o.guard=none:=by exact rfl) (ho:o.op=.call {callee:=.value cf,args:=args,argTypes:=ats}:=by exact rfl)
  (hN:dstOk o.dst N=true:=by exact rfl) (hon:optN True T (tmpsOf o.op):=by exact True.intro) (hf:opvL (tmpsOf o.op) T cf=some (.func (.func f) first captured):=by exact rfl)
  (hm:mapF (opvL (tmpsOf o.op) T) args.toList=some vs:=by exact rfl) (he:first++vs++captured=vs0:=by exact rfl)
  (hkb:∀t,LD.kp n t=false:=by exact(fun _=>rfl)) (hsc:LD.sc n=false:=by exact rfl):TR P N ty l0 LD W Q ((n,o)::l) T H:=by
 have e1:=hp.eq
 subst e1
 subst he
 refine TR.hcallT G hg ho hN hon hf hm rfl h (fun v H' hK=>?_) (fun v H' hK=>?_) (fun v H' hK=>?_) hsc
 ·obtain⟨i,e1,rfl⟩:=hK
  cases e1
  have e2:=(hp2 i).eq
  rw[←e2]
  exact k i
 ·obtain⟨i,e1,_⟩:=hK
  cases e1
 ·intro b t u h
  rw[hkb t]at h
  cases h
def Held (st:Stab) (w:World) (g m:Nat) (el:Nat→AV):Prop:=∀j,j<m→∃x,st g j∧w.cell? ⟨g,j,none⟩=some x∧Rep st w (el j) x∧x.oneCell'=true
def SubH (g m:Nat) (el:Nat→AV) (v v':AV):Prop:=∀st w,Held st w g m el→∀c,Rep st w v c→Rep st w v' c
theorem SubH.rfl' {g m:Nat} {el:Nat→AV} (v:AV):SubH g m el v v:=fun _ _ _ _ h=>h
theorem SubH.row {g m sz k cap:Nat} {el:Nat→AV} {el2:Nat→List AV} (hm:k*sz≤m) (hk:k≤cap) (h2:∀i,i<k→(el2 i).length=sz) (h:∀i j v,i<k→(el2 i)[j]?=some v→v=el (i*sz+j)):SubH g m el (.mslice g 0 k cap) (.slice sz k el2 .view):=by
 intro st w hh c hc
 cases hc
 have lt:∀i j,i<k→j<sz→i*sz+j<m:=fun i j hi hj=>by
  have h1:(i+1)*sz≤k*sz:=Nat.mul_le_mul_right _ hi
  rw[Nat.succ_mul]at h1
  omega
 have hx:∀i j,i<k→j<sz→st g (i*sz+j)∧w.cell? ⟨g,i*sz+j,none⟩=some ((w.cell? ⟨g,i*sz+j,none⟩).getD default)∧Rep st w (el (i*sz+j)) ((w.cell? ⟨g,i*sz+j,none⟩).getD default)∧((w.cell? ⟨g,i*sz+j,none⟩).getD default).oneCell'=true:=fun i j hi hj=>by
  obtain⟨x,h3,h4,h5,h6⟩:=hh _ (lt i j hi hj)
  rw[h4]
  exact⟨h3,rfl,h5,h6⟩
 refine .slice sz k el2 .view (some ⟨g,0,none⟩) cap g 0 (fun i j=>(w.cell? ⟨g,i*sz+j,none⟩).getD default) hk (.inr rfl) h2 (fun i j hi hj=>?_) (fun i j v hi hv=>?_) trivial (fun i j hi hj=>(hx i j hi hj).2.2.2)
 ·rw[Nat.zero_add]
  exact⟨(hx i j hi hj).1,(hx i j hi hj).2.1⟩
 ·have hj:j<sz:=by rw[←h2 i hi];exact(List.getElem?_eq_some_iff.1 hv).1
  rw[h i j v hi hv]
  exact(hx i j hi hj).2.2.1
theorem SubH.agg {g m:Nat} {el:Nat→AV} {vs vs':List AV} (hl:vs'.length=vs.length) (h:∀(j:Nat) (v v':AV),vs[j]?=some v→vs'[j]?=some v'→SubH g m el v v'):SubH g m el (.agg vs) (.agg vs'):=by
 intro st w hh c hc
 cases hc with
 |agg _ cs hl2 hr=>
  refine .agg _ _ (by omega) fun j v' x hv' hx=>?_
  have hj:j<vs.length:=by rw[←hl];exact(List.getElem?_eq_some_iff.1 hv').1
  exact h j _ v' (List.getElem?_eq_getElem hj) hv' st w hh _ (hr j _ x (List.getElem?_eq_getElem hj) hx)
theorem SubH.tuple {g m:Nat} {el:Nat→AV} {vs vs':List AV} (hl:vs'.length=vs.length) (h:∀(j:Nat) (v v':AV),vs[j]?=some v→vs'[j]?=some v'→SubH g m el v v'):SubH g m el (.tuple vs) (.tuple vs'):=by
 intro st w hh c hc
 cases hc with
 |tuple _ cs hl2 hr=>
  refine .tuple _ _ (by omega) fun j v' x hv' hx=>?_
  have hj:j<vs.length:=by rw[←hl];exact(List.getElem?_eq_some_iff.1 hv').1
  exact h j _ v' (List.getElem?_eq_getElem hj) hv' st w hh _ (hr j _ x (List.getElem?_eq_getElem hj) hx)
theorem Conc.freezeM {E:Env0} {st:Stab} {w:World} {G1 G2:AHeap} {g m:Nat} {e:TypeId} {el:Nat→AV} (h:Conc E st (G1++rowM g e m el::G2) w):
  ∃st',Conc E st' (G1++G2) w∧Keeps st st' w w∧Held st' w g m el:=by
 obtain⟨arr,cv,h1,h2,h3,h4,h5⟩:=h.ents (rowM g e m el) (by simp)
 have hown:AHeap.owns (G1++rowM g e m el::G2) g:=⟨rowM g e m el,by simp,rfl⟩
 have hp:=h.perm (List.perm_middle (l₁:=G1) (l₂:=G2) (a:=rowM g e m el))
 have hno:=not_owns_of_sep hp rfl
 refine⟨fun b' o=>st b' o∨b'=g,?_,⟨fun _ _ h=>.inl h,fun _ _ _=>rfl⟩,?_⟩
 ·have ho:∀k,AHeap.owns (G1++G2) k→AHeap.owns (G1++rowM g e m el::G2) k:=by
   rintro k ⟨e,he,hk⟩
   rcases List.mem_append.1 he with he|he
   ·exact⟨e,by simp[he],hk⟩
   ·exact⟨e,by simp[he],hk⟩
  refine⟨h.os,h.tape,h.output,h.size,h.old,h.keep,fun b' o hs=>.inl (h.stle b' o hs),?_,?_,fun k hk=>h.ownnew k (ho k hk),fun k hk=>h.ownlt k (ho k hk),?_,hp.tail.sep,?_⟩
  ·rintro b' o (hs|rfl)
   ·exact h.stnew b' o hs
   ·rcases h.ownnew _ hown with x|x
    ·exact .inr (.inr x)
    ·exact .inr (.inl x)
  ·rintro b' o (hs|rfl)
   ·exact h.stlt b' o hs
   ·exact h.ownlt _ hown
  ·intro e he
   refine Ent.holds_keep (w:=w) ⟨fun _ _ h=>.inl h,fun _ _ _=>rfl⟩ (hp.tail.ents e he) (fun _ _=>rfl) ?_
   rintro b' o hb (hs|rfl)
   ·exact hs
   ·exact absurd ⟨e,he,hb⟩ hno
  ·rintro b' o (hs|rfl) hk
   ·exact h.fz b' o hs hk
   ·exact⟨_,_,h1⟩
 ·intro j hj
  cases h2 with
  |vec _ _ cs hl hr hone=>
   have hs:arr.toList=cs:=by
    rw[←h3]
    rfl
   have hja:j<arr.size:=by rw[←Array.length_toList,hs,hl];exact hj
   have hx:cs[j]?=some arr[j]:=by
    rw[←hs]
    simp[hja]
   refine⟨arr[j],.inr rfl,?_,(hr j _ hx).mono ⟨fun _ _ h=>.inl h,fun _ _ _=>rfl⟩,hone _ (List.mem_of_getElem? hx)⟩
   unfold World.cell?
   rw[h1]
   simp[hja]
theorem awp_freezeM {c:Code} (G1:AHeap) {G2:AHeap} {g m:Nat} {e:TypeId} {el:Nat→AV} {s:Nat} {v v':AV} (hl:lk T s=some v) (hv:SubH g m el v v') (h:AWP P N c ((s,v')::T) (G1++G2) Q):
  AWP P N c T (G1++rowM g e m el::G2) Q:=by
 refine awp_turn (S:=fun T' H'=>T'=(s,v')::T∧H'=G1++G2) ?_ (fun T' H' e=>by obtain⟨rfl,rfl⟩:=e;exact h)
 intro E st w a h1 h2
 obtain⟨st',c1,k1,r1⟩:=h1.freezeM
 refine⟨st',_,_,c1,⟨h2.size,fun t' u' ht'=>?_⟩,rfl,rfl⟩
 by_cases e:s=t'
 ·subst e
  simp[lk]at ht'
  subst ht'
  obtain⟨c,e1,e2⟩:=h2.val s _ hl
  exact⟨_,e1,hv st' w r1 _ (e2.mono k1)⟩
 ·have hb:Nat.beq s t'=false:=beq_ne e
  simp[lk,hb]at ht'
  obtain⟨c,e1,e2⟩:=h2.val t' u' ht'
  exact⟨c,e1,e2.mono k1⟩
theorem ACalls.frozen {f:FuncId} {vs:List AV} {u:Nat→AV} {u':AV} {t:TypeId} {m:Nat} {el:Nat→AV} (h:ACalls P f vs [] fun r H'=>∃g,r=.ret (u g)∧H'=[rowM g t m el]) (hs:∀g,SubH g m el (u g) u'):PCalls P f vs u':=by
 refine⟨h.1,fun st w xs hc hx hg=>(h.2 st w xs hc hx hg).mono fun e w' hp=>?_⟩
 cases e with
 |outgrown=>exact hp.elim
 |returned v=>
  obtain⟨st',r,H2,h1,h2,g,rfl,rfl⟩:=hp
  obtain⟨st2,c1,k1,hh⟩:=Conc.freezeM (G1:=[]) (G2:=[]) h1
  exact⟨st2,.ret u',[],c1,hs g st2 w' hh _ (Rep.mono k1 h2),rfl,rfl⟩
 |panicked v=>
  obtain⟨st',r,H2,h1,h2,g,rfl,rfl⟩:=hp
  exact h2.elim
end
end Go.Ab
