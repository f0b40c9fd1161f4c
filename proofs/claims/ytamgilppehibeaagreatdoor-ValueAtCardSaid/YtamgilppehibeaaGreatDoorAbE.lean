/-
  An array of structs that the call owns: its elements are loaded, and written, one by one.
-/
import Derived.Test.YtamgilppehibeaaGreatDoorAbD
import Derived.Test.YtamgilppehibeaaGreatDoorSoA
import Derived.Lib.SliceRun
namespace Go.Ab
def rowEl {α:Type} (f:α→List AV) (sz:Nat) (xs:List α) (j:Nat):AV:=match xs[j/sz]? with
 |some x=>(f x).getD (j%sz) .any
 |none=>.any
theorem rowVec_ex {α:Type} (f:α→List AV) (sz cap:Nat) (xs:List α):∃v:AV,v=.vec (cap*sz) (rowEl f sz xs):=⟨_,rfl⟩
noncomputable def rowVec {α:Type} (f:α→List AV) (sz cap:Nat) (xs:List α):AV:=Classical.choose (rowVec_ex f sz cap xs)
theorem rowVec_eq {α:Type} (f:α→List AV) (sz cap:Nat) (xs:List α):rowVec f sz cap xs=.vec (cap*sz) (rowEl f sz xs):=Classical.choose_spec (rowVec_ex f sz cap xs)
noncomputable def rowS {α:Type} (g:Nat) (e:TypeId) (f:α→List AV) (sz cap:Nat) (xs:List α):Ent:=.box g e (rowVec f sz cap xs)
theorem rowEl_at {α:Type} {f:α→List AV} {sz:Nat} {xs:List α} {i k:Nat} {x:α} (hx:xs[i]?=some x) (hk:k<sz):rowEl f sz xs (i*sz+k)=(f x).getD k .any:=by
 have h0:0<sz:=by omega
 have e1:(i*sz+k)/sz=i:=by rw[Nat.add_comm,Nat.add_mul_div_right _ _ h0,Nat.div_eq_of_lt hk,Nat.zero_add]
 have e2:(i*sz+k)%sz=k:=by rw[Nat.add_comm,Nat.add_mul_mod_self_right,Nat.mod_eq_of_lt hk]
 unfold rowEl
 rw[e1,e2,hx]
theorem rowEl_set {α:Type} {f:α→List AV} {sz:Nat} {xs:List α} {i:Nat} {x:α} (hi:i<xs.length) (hl:(f x).length=sz) (h0:0<sz):
  (fun j=>if i*sz≤j∧j<i*sz+(f x).length then(f x).getD (j-i*sz) .any else rowEl f sz xs j)=rowEl f sz (xs.set i x):=by
 funext j
 rw[hl]
 have hdm:=Nat.div_add_mod j sz
 by_cases c:i*sz≤j∧j<i*sz+sz
 ·rw[if_pos c]
  have e1:j/sz=i:=by
   refine Nat.div_eq_of_lt_le c.1 ?_
   rw[Nat.succ_mul]
   exact c.2
  have e2:j%sz=j-i*sz:=by
   rw[e1,Nat.mul_comm]at hdm
   omega
  unfold rowEl
  rw[e1,List.getElem?_set_self hi,e2]
 ·rw[if_neg c]
  have e1:j/sz≠i:=by
   intro e
   rw[e,Nat.mul_comm]at hdm
   have:=Nat.mod_lt j h0
   omega
  unfold rowEl
  rw[List.getElem?_set_ne (fun h=>e1 h.symm)]
section
variable {P:Program} {N:Nat} {ty:TypeId→Option TyI} {l0:List Oper} {LD:LDs} {W:Bool} {Q:APost} {n:Nat} {o:Oper} {l:List (Nat×Oper)} {T:Tmps} {H:AHeap}
end
end Go.Ab
namespace Go.Ab
section
variable {P:Program} {ty:TypeId→Option TyI} {o:Oper} {F:Operand→Option AV} {H:AHeap}
theorem rowS_rep {α:Type} [Inhabited α] {st:Stab} {w:World} {f:α→List AV} {sz cap:Nat} {ys:List α} {cs:List Value} (hp:0<sz) (hl:cs.length=cap*sz) (hlen:∀i,i<ys.length→(f (ys.getD i default)).length=sz)
  (h:∀i j v,i<ys.length→(f (ys.getD i default))[j]?=some v→∀x,cs[i*sz+j]?=some x→Rep st w v x) (hone:∀x∈cs,x.oneCell'=true):Rep st w (rowVec f sz cap ys) (.agg ⟨cs⟩):=by
 rw[rowVec_eq]
 refine .vec _ _ _ hl (fun j x hx=>?_) hone
 unfold rowEl
 by_cases hj:j/sz<ys.length
 ·have hyi:ys[j/sz]?=some (ys.getD (j/sz) default):=by rw[List.getD_eq_getElem?_getD,List.getElem?_eq_getElem hj];rfl
  rw[hyi]
  have hm:j%sz<(f (ys.getD (j/sz) default)).length:=by rw[hlen _ hj];exact Nat.mod_lt _ hp
  refine h (j/sz) (j%sz) ((f (ys.getD (j/sz) default)).getD (j%sz) .any) hj ?_ x ?_
  ·rw[List.getD_eq_getElem?_getD (l:=f (ys.getD (j/sz) default)),List.getElem?_eq_getElem hm];rfl
  ·rw[Nat.mul_comm,Nat.div_add_mod]
   exact hx
 ·rw[List.getElem?_eq_none (by omega)]
  exact .any _
theorem hard_appS {α:Type} [Inhabited α] (hty:TyOk P ty) (f:α→List AV) (ys:List α) {s x:Operand} {t e:TypeId} {ti ei:TyI} {vs vx:AV} {sz:Nat} {el el2:Nat→List AV} {ow:Own}
  (ho:o.op=.call {callee:=.builtin .append,args:= #[s,x],argTypes:= #[t,t]}) (hti:ty t=some ti) (hk:ti.k=.slice e) (hei:ty e=some ei) (hsz:ei.size=sz) (hpos:Nat.ble 1 sz=true)
  (hs:F s=some vs) (hx:F x=some vx) (hvs:asSl sz vs=some (0,el,.full)) (hvx:asSl sz vx=some (ys.length,el2,ow)) (hel:∀i,i<ys.length→el2 i=f (ys.getD i default)) (h0:0<ys.length)
  (hb:ys.length*ei.bytes≤140737488355328∧ys.length≤9223372036854775807):
  AHard P o F H fun r H'=>∃g cap,ys.length≤cap∧cap≤maxLen∧r=.ret (.mslice g 0 ys.length cap)∧H'=rowS g e f sz cap ys::H:=by
 intro E st w act r next Q hc hF _ hr _
 obtain⟨⟨d,hd,hkf⟩,-⟩:=hty t ti hti
 rw[hk]at hkf
 obtain rfl:d=.slice e:=hkf
 obtain⟨-,inf,z,hinf,hisz,hby,hz,hzs,hzr,hzo⟩:=hty e ei hei
 have hp:0<sz:=Nat.le_of_ble_eq_true hpos
 obtain⟨a,cap,b,off,C,hsv,hn,hok,h1⟩:=row_of (asSl_rep hvs (hF s vs hs)) hp
 obtain⟨a2,cap2,b2,off2,C2,hxv,hn2,-,h2⟩:=row_of (asSl_rep hvx (hF x vx hx)) hp
 have hcapn:cap=0:=hok
 subst hcapn
 have hm0:ys.length≠0:=by omega
 obtain rfl:=row_base h2 hm0
 generalize hm:ys.length=m at*
 have hexec:∀v' w',(Builtin.append_ #[t,t] o.type #[.slice a 0 0,.slice (some ⟨b2,off2,none⟩) m cap2]).run P w=.ok v' w'→(execOp act.eval o).run P w=.ok (.value v') w':=by
  intro v' w' h
  simp[execOp,ho,resolve,invoke,builtin,hsv,hxv,h]
 let news:=(List.range (m*sz)).map C2
 have hnl:news.length=m*inf.size:=by simp[news,hisz,hsz]
 have hnews:∀j v,news[j]?=some v→w.cell? ((⟨b2,off2,none⟩:Addr).add j)=some v:=by
  intro j v hv
  obtain⟨hj,rfl⟩:=map_range_get j v hv
  rw[addr_add]
  exact(h2.cell j hj).2
 have hb1:(0+m)*inf.bytes≤140737488355328:=by rw[Nat.zero_add,hby];exact hb.1
 obtain⟨cap',hcap',hcm,hrun⟩:∃cap',m≤cap'∧cap'≤maxLen∧(Builtin.append_ #[t,t] o.type #[.slice a 0 0,.slice (some ⟨b2,off2,none⟩) m cap2]).run P w=
   .ok (.slice (some ⟨w.heap.size,0,none⟩) m cap') (w.drew.alloc (.cells (news.toArray++Builtin.zeroCells z.cells (cap'-m)) e)):=by
  have hmax:m≤maxLen:=by simp only[maxLen];omega
  have h63:((0+m:Nat):Int)≤9223372036854775807:=by omega
  cases ha:a with
  |none=>
   refine⟨grownCap w m 0 e,by simpa using grownCap_ge w m 0 e,grownCap_le_maxLen w m 0 e (by simpa using hmax),?_⟩
   have hr:=run_append_nil (P:=P) w t o.type e inf z hd hinf hz ⟨b2,off2,none⟩ m cap2 news hnl hnews (by omega) (by simpa using h63) (by simp only[Nat.zero_add]at hb1;omega)
   simpa using hr
  |some ad=>
   refine⟨grownCap w (0+m) 0 e,by simpa using grownCap_ge w (0+m) 0 e,grownCap_le_maxLen w (0+m) 0 e (by simpa using hmax),?_⟩
   have hr:=run_append_grow (P:=P) w t o.type e inf z hd hinf hz ad 0 0 [] (by simp) (by simp) ⟨b2,off2,none⟩ m cap2 news hnl hnews (by omega) h63 (growslice_fits (by omega) hb1)
   simpa using hr
 generalize harrd:news.toArray++Builtin.zeroCells z.cells (cap'-m)=arr at hrun
 have hw:(w.drew.alloc (.cells arr e)).heap[w.heap.size]?=some (.cells arr e):=heap_alloc_new w.drew _
 have hget:∀j,j<m*sz→arr.toList[j]?=some (C2 j):=by
  intro j hj
  rw[←harrd,Array.toList_append,List.getElem?_append_left (by simpa [news]using hj)]
  simp[news,hj]
 have hlen:arr.toList.length=cap'*sz:=by
  rw[←harrd]
  simp only[Array.length_toList,Array.size_append,List.size_toArray,size_zeroCells,hzs,hnl,hisz,hsz,←Nat.add_mul]
  congr 1
  omega
 have hone:∀x∈arr.toList,x.oneCell'=true:=by
  intro x hx
  rw[←harrd]at hx
  simp only[Array.toList_append,List.mem_append]at hx
  rcases hx with hx|hx
  ·simp only[news,List.mem_map,List.mem_range]at hx
   obtain⟨k,hk,rfl⟩:=hx
   exact h2.one k hk
  ·exact zero_one hzo x hx
 have hgrow:=Conc.grow (st':=st) (w':=w.drew.alloc (.cells arr e)) (Hn:=[rowS w.heap.size e f sz cap' ys]) hc rfl rfl rfl (by simp) (fun k hk=>heap_alloc_old w.drew _ hk)
  (fun b o h=>h) (fun b o h=>.inl h) ?_ ?_ (by simp)
 ·exact upon_value_ok (hexec _ _ hrun) (hr st _ (.mslice w.heap.size 0 m cap') _ _ hgrow.1 hgrow.2 (.mslice _ _ _ _) ⟨_,_,hcap',hcm,rfl,rfl⟩)
 ·intro e1 he1
  simp at he1
  subst he1
  have hkeep:Keeps st st w (w.drew.alloc (.cells arr e)):=⟨fun _ _ h=>h,fun b o hs=>World.cell?_of_block (w:=w) (heap_alloc_old w.drew _ (hc.stlt b o hs))⟩
  refine⟨arr,.agg arr,hw,rowS_rep hp hlen (fun i hi=>?_) (fun i j v hi hv x hx=>?_) hone,rfl,hone,fun o hs=>absurd (hc.stlt _ _ hs) (by omega)⟩
  ·rw[←hel i (by omega)]
   exact h2.len i (by omega)
  ·have hl2:=h2.len i (by omega)
   rw[←hel i (by omega)]at hv
   have hj:j<sz:=by
    rw[←hl2]
    exact(List.getElem?_eq_some_iff.1 hv).1
   have hij:i*sz+j<m*sz:=by
    have:(i+1)*sz≤m*sz:=Nat.mul_le_mul_right _ (by omega)
    rw[Nat.succ_mul]at this
    omega
   have:=hget _ hij
   rw[this]at hx
   cases hx
   exact(h2.rep i j v (by omega) hv).mono hkeep
 ·rintro k ⟨e1,he1,hk⟩
  simp at he1
  subst he1
  have hk:w.heap.size=k:=hk
  subst hk
  simp
end
section
variable {P:Program} {N:Nat} {ty:TypeId→Option TyI} {l0:List Oper} {LD:LDs} {W:Bool} {Q:APost} {n:Nat} {o:Oper} {l:List (Nat×Oper)} {T:Tmps} {H:AHeap}
theorem qappO {α:Type} [Inhabited α] (hty:TyOk P ty) (f:α→List AV) (ys:List α) {s y:Operand} {t e:TypeId} {ti ei:TyI} {vs vx:AV} {sz:Nat} {el el2:Nat→List AV} {ow:Own} {d:Nat}
  (k:∀g cap,ys.length≤cap→cap≤maxLen→TR P N ty l0 LD W Q l ((d,.mslice g 0 ys.length cap)::T) (rowS g e f sz cap ys::H))
  (hel:∀i,i<ys.length→el2 i=f (ys.getD i default)) (h0:0<ys.length) (hb:ys.length*ei.bytes≤140737488355328∧ys.length≤9223372036854775807)
  (hg:o.guard=none:=by exact rfl) (ho:o.op=.call {callee:=.builtin .append,args:= #[s,y],argTypes:= #[t,t]}:=by exact rfl) (hd:o.dst=some d:=by exact rfl) (hN:Nat.ble (d+1) N=true:=by exact rfl)
  (hon:optN True T (tmpsOf o.op):=by exact True.intro) (hti:ty t=some ti:=by exact rfl) (hk:ti.k=.slice e:=by exact rfl) (hei:ty e=some ei:=by exact rfl) (hsz:ei.size=sz:=by exact rfl) (hpos:Nat.ble 1 sz=true:=by exact rfl)
  (hs:opvL (tmpsOf o.op) T s=some vs:=by exact rfl) (hvs:asSl sz vs=some (0,el,.full):=by exact rfl) (hx:opvL (tmpsOf o.op) T y=some vx:=by exact rfl) (hvx:asSl sz vx=some (ys.length,el2,ow):=by exact rfl):TR P N ty l0 LD W Q ((n,o)::l) T H:=by
 refine TR.hard _ (.inr (by rw[ho];rfl)) hg (by rw[hd];exact hN) hon (hard_appS hty f ys ho hti hk hei hsz hpos hs hx hvs hvx hel h0 hb) ?_ ?_ (fun _ v H' ⟨g,cap,_,_,_,e⟩=>e▸KeepB.cons _ _) (fun h=>by rw[ho]at h;cases h)
 ·rintro v H' ⟨g,cap,h1,h2,e,rfl⟩
  cases e
  rw[hd]
  exact k g cap h1 h2
 ·rintro v H' ⟨g,cap,_,_,e,_⟩
  cases e
end
end Go.Ab
namespace Go.Ab
section
variable {P:Program} {N:Nat} {ty:TypeId→Option TyI} {l0:List Oper} {LD:LDs} {W:Bool} {Q:APost} {n:Nat} {o:Oper} {l:List (Nat×Oper)} {T:Tmps} {H:AHeap}
theorem hard_eqnil (hty:TyOk P ty) {F:Operand→Option AV} {t e:TypeId} {x y:Operand} {rt:TypeId} {ti:TyI} {vx:AV} {sz m:Nat} {el:Nat→List AV} {ow:Own} (ho:o.op=.binOp .eql t x y rt) (hti:ty t=some ti) (hk:ti.k=.slice e)
  (hx:F x=some vx) (hy:F y=some .nils) (hvx:asSl sz vx=some (m,el,ow)) (hsz:0<sz):AHard P o F H fun r H'=>∃b:Bool,(b=true→m=0)∧r=.ret (.bool b)∧H'=H:=by
 intro E st w act r next Q hc hF _ hr _
 obtain⟨⟨d,hd,hkf⟩,-⟩:=hty t ti hti
 rw[hk]at hkf
 obtain rfl:d=.slice e:=hkf
 obtain⟨a,cap,b,off,C,hxv,-,-,h1⟩:=row_of (asSl_rep hvx (hF x _ hx)) hsz
 have hyv:act.eval y=.slice none 0 0:=by
  have h:=hF y _ hy
  generalize act.eval y=c at h
  cases h
  rfl
 have r1:=Lib.run_eql_slice_nil (P:=P) w t e a m cap 0 0 hd
 have hg:(eqGuard .eql t x y (.slice a m cap) (.slice none 0 0)).run P w=.ok () w:=by simp[eqGuard]
 have hexec:(execOp act.eval o).run P w=.ok (.value (.bool a.isNone)) w:=by
  obtain⟨dst,op',type,pos,after,guard⟩:=o
  simp only at ho
  subst ho
  simp only[execOp,Sem.run_bind,hxv,hyv,hg,Result.andThen_ok,r1]
  rfl
 refine upon_value_ok hexec (hr st w (.bool a.isNone) _ _ hc ⟨fun _ _ h=>h,fun _ _ _=>rfl⟩ (.bool _) ⟨_,fun hb=>?_,rfl,rfl⟩)
 rcases h1.base with h|h
 ·exact h
 ·rw[h]at hb
  cases hb
theorem qnilU (hty:TyOk P ty) {t e:TypeId} {x y:Operand} {rt:TypeId} {ti ei:TyI} {vx:AV} {sz m:Nat} {el:Nat→List AV} {ow:Own} {d:Nat} (k:∀b:Bool,(b=true→m=0)→TR P N ty l0 LD W Q l ((d,.bool b)::T) H) (hg:o.guard=none:=by exact rfl)
  (ho:o.op=.binOp .eql t x y rt:=by exact rfl) (hd:o.dst=some d:=by exact rfl) (hN:dstOk o.dst N=true:=by exact rfl) (hon:optN True T (tmpsOf o.op):=by exact True.intro) (hti:ty t=some ti:=by exact rfl) (hk:ti.k=.slice e:=by exact rfl)
  (_:ty e=some ei:=by exact rfl) (_:ei.size=sz:=by exact rfl) (hpos:Nat.ble 1 sz=true:=by exact rfl)
  (hx:opvL (tmpsOf o.op) T x=some vx:=by exact rfl) (hy:opvL (tmpsOf o.op) T y=some .nils:=by exact rfl) (hvx:asSl sz vx=some (m,el,ow):=by exact rfl) (hW:W=true:=by exact rfl):TR P N ty l0 LD W Q ((n,o)::l) T H:=by
 refine TR.hard _ (.inl hW) hg hN hon (hard_eqnil hty ho hti hk hx hy hvx (Nat.le_of_ble_eq_true hpos)) ?_ ?_ (fun _ v H' ⟨_,_,_,e⟩=>e▸KeepB.refl _) (fun h=>by rw[ho]at h;cases h)
 ·rintro v H' ⟨b,hb,e,rfl⟩
  cases e
  rw[hd]
  exact k b hb
 ·rintro v H' ⟨b,_,e,_⟩
  cases e
end
end Go.Ab
namespace Go.Ab
section
variable {P:Program} {ty:TypeId→Option TyI} {o:Oper} {F:Operand→Option AV} {H:AHeap}
theorem rowEl_rep {α:Type} [Inhabited α] {st:Stab} {w:World} {f:α→List AV} {sz M:Nat} {xs:List α} {cs:List Value} (h:Rep st w (.vec M (rowEl f sz xs)) (.agg ⟨cs⟩)) {i j:Nat} {v x:_} (hi:i<xs.length) (hv:(f (xs.getD i default))[j]?=some v) (hj:j<sz) (hx:cs[i*sz+j]?=some x):Rep st w v x:=by
 cases h with
 |vec _ _ _ hl hr _=>
  have h1:=hr _ _ hx
  have hxi:xs[i]?=some (xs.getD i default):=by rw[List.getD_eq_getElem?_getD,List.getElem?_eq_getElem hi];rfl
  rw[rowEl_at hxi hj,List.getD_eq_getElem?_getD,hv]at h1
  exact h1
theorem getD_take {α:Type} [Inhabited α] {xs ys:List α} {n i:Nat} (hn:n≤xs.length) (hi:i<n):(xs.take n++ys).getD i default=xs.getD i default:=by
 rw[List.getD_eq_getElem?_getD,List.getD_eq_getElem?_getD,List.getElem?_append_left (by rw[List.length_take];omega),List.getElem?_take_of_lt hi]
theorem getD_app {α:Type} [Inhabited α] {xs ys:List α} {n i:Nat} (hn:n≤xs.length) (hi:n≤i):(xs.take n++ys).getD i default=ys.getD (i-n) default:=by
 have e:(xs.take n).length=n:=by rw[List.length_take];omega
 rw[List.getD_eq_getElem?_getD,List.getD_eq_getElem?_getD,List.getElem?_append_right (by omega),e]
theorem hard_appR {α:Type} [Inhabited α] (hty:TyOk P ty) (f:α→List AV) (xs ys:List α) {x y:Operand} {t e:TypeId} {ti ei:TyI} {vy:AV} {g n cap sz:Nat} {el2:Nat→List AV} {ow:Own} (i:Nat)
  (ho:o.op=.call {callee:=.builtin .append,args:= #[x,y],argTypes:= #[t,t]}) (hti:ty t=some ti) (hk:ti.k=.slice e) (hei:ty e=some ei) (hsz:ei.size=sz) (hpos:Nat.ble 1 sz=true)
  (hx:F x=some (.mslice g 0 n cap)) (hy:F y=some vy) (hvy:asSl sz vy=some (ys.length,el2,ow)) (hel:∀i,i<ys.length→el2 i=f (ys.getD i default)) (hlen:∀i,i<xs.length→(f (xs.getD i default)).length=sz)
  (hn:n≤xs.length) (hroom:n+ys.length≤cap) (hi:H[i]?=some (rowS g e f sz cap xs)):
  AHard P o F H fun r H'=>r=.ret (.mslice g 0 (n+ys.length) cap)∧H'=H.set i (rowS g e f sz cap (xs.take n++ys)):=by
 intro E st w a r next Q hc hF _ hr _
 obtain⟨⟨d,hd,hkf⟩,-⟩:=hty t ti hti
 rw[hk]at hkf
 obtain rfl:d=.slice e:=hkf
 obtain⟨-,inf,z,hinf,hisz,-⟩:=hty e ei hei
 have hp:0<sz:=Nat.le_of_ble_eq_true hpos
 have hxv:=hF x _ hx
 generalize hxe:a.eval x=xv at hxv
 cases hxv
 obtain⟨a2,cap2,b2,off2,C2,hyv,hn2,-,h2⟩:=row_of (asSl_rep hvy (hF y vy hy)) hp
 have hc1:=hc.perm (perm_eraseIdx H i _ hi)
 obtain⟨arr,cv,hblk,hrep,hcells,hone,hns⟩:=hc1.ents (rowS g e f sz cap xs) (by simp)
 rw[rowVec_eq]at hrep
 obtain⟨cs,rfl⟩:∃cs,cv=.agg ⟨cs⟩:=by
  cases hrep with
  |vec _ _ cs hl _ _=>exact⟨cs,rfl⟩
 obtain rfl:arr=⟨cs⟩:=hcells.symm
 have hM:cs.length=cap*sz:=by
  cases hrep with
  |vec _ _ _ hl _ _=>exact hl
 generalize hm:ys.length=m at*
 have hfl:∀i,i<(xs.take n++ys).length→(f ((xs.take n++ys).getD i default)).length=sz:=by
  intro i hi
  rw[List.length_append,List.length_take,hm]at hi
  by_cases c:i<n
  ·rw[getD_take hn c]
   exact hlen i (by omega)
  ·rw[getD_app hn (by omega),←hel (i-n) (by omega)]
   exact h2.len _ (by omega)
 by_cases hm0:m=0
 ·subst hm0
  have hrun:=run_append_zero (P:=P) (w:=w) (tt:=o.type) (a:=some ⟨g,0,none⟩) (a2:=a2) (n:=n) (cap:=cap) (cap2:=cap2) hd hinf (by omega)
  have hys:ys=[]:=List.length_eq_zero_iff.1 hm
  subst hys
  have hsub:Conc E st ([]++rowS g e f sz cap (xs.take n++[])::H.eraseIdx i) w:=by
   have ho:∀k,AHeap.owns ([]++rowS g e f sz cap (xs.take n++[])::H.eraseIdx i) k→AHeap.owns (rowS g e f sz cap xs::H.eraseIdx i) k:=by
    rintro k ⟨e1,he,hk⟩
    rcases List.mem_cons.1 he with rfl|he
    ·exact⟨rowS g e f sz cap xs,by simp,hk⟩
    ·exact⟨e1,by simp[he],hk⟩
   refine⟨hc1.os,hc1.tape,hc1.output,hc1.size,hc1.old,hc1.keep,hc1.stle,hc1.stnew,hc1.stlt,fun k hk=>hc1.ownnew k (ho k hk),fun k hk=>hc1.ownlt k (ho k hk),fun e1 he=>?_,?_,hc1.fz⟩
   ·rcases List.mem_cons.1 he with rfl|he
    ·refine⟨⟨cs⟩,.agg ⟨cs⟩,hblk,rowS_rep hp hM hfl (fun i j v hi hv x hx=>?_) (by simpa using hone),rfl,hone,hns⟩
     have hi':i<n:=by
      rw[List.append_nil,List.length_take]at hi
      omega
     rw[getD_take hn hi']at hv
     have hj:j<sz:=by
      rw[←hlen i (by omega)]
      exact(List.getElem?_eq_some_iff.1 hv).1
     exact rowEl_rep hrep (by omega) hv hj hx
    ·exact hc1.ents e1 (by simp[he])
   ·have hs:=List.pairwise_cons.1 hc1.sep
    exact List.pairwise_cons.2 ⟨fun e2 he2 k hk hk2=>hs.1 e2 he2 k hk hk2,hs.2⟩
  refine upon_value_ok (c:=.slice (some ⟨g,0,none⟩) (n+0) cap) (w':=w) ?_ (hr st w (.mslice g 0 (n+0) cap) _ _ (hsub.perm (perm_set H i _ _ hi)) (Keeps.refl st w) (.mslice _ _ _ _) ⟨rfl,rfl⟩)
  simp[execOp,ho,resolve,invoke,builtin,hxe,hyv,hrun,Result.andThen]
 obtain rfl:=row_base h2 hm0
 let news:=(List.range (m*sz)).map C2
 have hnl:news.length=m*sz:=by simp[news]
 have hn1:∀v∈news,v.oneCell'=true:=by
  intro v hv
  obtain⟨j,hj,rfl⟩:=List.mem_map.1 hv
  exact h2.one j (by simpa using hj)
 have hle:(n+m)*sz≤cap*sz:=Nat.mul_le_mul_right _ hroom
 rw[Nat.add_mul]at hle
 have hr0:=run_append_room (P:=P) w t o.type e inf hd hinf g n cap ⟨cs⟩ hblk ⟨b2,off2,none⟩ m cap2 news (by rw[hnl,hisz,hsz]) (fun j v hv=>by
   obtain⟨hj,rfl⟩:=map_range_get j v hv
   rw[addr_add]
   exact(h2.cell j hj).2) hn1 hroom (by rw[hnl,hisz,hsz];simp;omega)
 rw[hnl,hisz,hsz,←hyv]at hr0
 have hcl:(cs.take (n*sz)++news++cs.drop (n*sz+m*sz)).length=cap*sz:=by
  rw[List.length_append,List.length_append,List.length_take,List.length_drop,hnl,hM]
  omega
 have hone':∀z∈cs.take (n*sz)++news++cs.drop (n*sz+m*sz),z.oneCell'=true:=by
  intro z hz
  rcases List.mem_append.1 hz with hz|hz
  ·rcases List.mem_append.1 hz with hz|hz
   ·exact hone z (by simpa using List.mem_of_mem_take hz)
   ·exact hn1 z hz
  ·exact hone z (by simpa using List.mem_of_mem_drop hz)
 have htl:(cs.take (n*sz)).length=n*sz:=by rw[List.length_take];omega
 have hover:Rep st w (rowVec f sz cap (xs.take n++ys)) (.agg ⟨cs.take (n*sz)++news++cs.drop (n*sz+m*sz)⟩):=by
  refine rowS_rep hp hcl hfl (fun i j v hi hv x hx=>?_) hone'
  have hj:j<sz:=by
   rw[←hfl i hi]
   exact(List.getElem?_eq_some_iff.1 hv).1
  rw[List.length_append,List.length_take,hm]at hi
  by_cases c:i<n
  ·rw[getD_take hn c]at hv
   have hlt:i*sz+j<n*sz:=by
    have:(i+1)*sz≤n*sz:=Nat.mul_le_mul_right _ c
    rw[Nat.succ_mul]at this
    omega
   rw[List.append_assoc,List.getElem?_append_left (by omega),List.getElem?_take_of_lt hlt]at hx
   exact rowEl_rep hrep (by omega) hv hj hx
  ·rw[getD_app hn (by omega),←hel (i-n) (by omega)]at hv
   have hge:n*sz≤i*sz:=Nat.mul_le_mul_right _ (by omega)
   have hsub:(i-n)*sz=i*sz-n*sz:=Nat.sub_mul ..
   have hlt:(i-n)*sz+j<m*sz:=by
    have:(i-n+1)*sz≤m*sz:=Nat.mul_le_mul_right _ (by omega)
    rw[Nat.succ_mul]at this
    omega
   have ej:i*sz+j-n*sz=(i-n)*sz+j:=by omega
   rw[List.append_assoc,List.getElem?_append_right (by omega),htl,ej,List.getElem?_append_left (by omega)]at hx
   have hx':news[(i-n)*sz+j]?=some (C2 ((i-n)*sz+j)):=by simp[news,hlt]
   rw[hx']at hx
   cases hx
   exact h2.rep (i-n) j v (by omega) hv
 have hst:=hc1.store (u':=rowVec f sz cap (xs.take n++ys)) (cv':=.agg ⟨cs.take (n*sz)++news++cs.drop (n*sz+m*sz)⟩) hblk hover rfl hone'
 refine upon_value_ok (c:=.slice (some ⟨g,0,none⟩) (n+m) cap) (w':=w.setRow g ⟨cs.take (n*sz)++news++cs.drop (n*sz+m*sz)⟩) ?_ (hr st _ (.mslice g 0 (n+m) cap) _ _ (hst.1.perm (perm_set H i _ _ hi)) hst.2 (.mslice _ _ _ _) ⟨rfl,rfl⟩)
 simp[execOp,ho,resolve,invoke,builtin,hxe,hr0,Result.andThen]
end
section
variable {P:Program} {N:Nat} {ty:TypeId→Option TyI} {l0:List Oper} {LD:LDs} {W:Bool} {Q:APost} {nn:Nat} {o:Oper} {l:List (Nat×Oper)} {T:Tmps} {H:AHeap}
theorem qappW {α:Type} [Inhabited α] (hty:TyOk P ty) (f:α→List AV) (xs ys:List α) {x y:Operand} {t e:TypeId} {ti ei:TyI} {vy:AV} {g n cap sz:Nat} {el2:Nat→List AV} {ow:Own} {d:Nat} {G:Ent→AHeap}
  (hel:∀i,i<ys.length→el2 i=f (ys.getD i default)) (hlen:∀i,i<xs.length→(f (xs.getD i default)).length=sz) (hn:n≤xs.length) (hroom:n+ys.length≤cap)
  (k:TR P N ty l0 LD W Q l ((d,.mslice g 0 (n+ys.length) cap)::T) (G (rowS g e f sz cap (xs.take n++ys))))
  (hg:o.guard=none:=by exact rfl) (ho:o.op=.call {callee:=.builtin .append,args:= #[x,y],argTypes:= #[t,t]}:=by exact rfl) (hd:o.dst=some d:=by exact rfl) (hN:Nat.ble (d+1) N=true:=by exact rfl)
  (hon:optN True T (tmpsOf o.op):=by exact True.intro) (hti:ty t=some ti:=by exact rfl) (hk:ti.k=.slice e:=by exact rfl) (hei:ty e=some ei:=by exact rfl) (hsz:ei.size=sz:=by exact rfl) (hpos:Nat.ble 1 sz=true:=by exact rfl)
  (hx:opvL (tmpsOf o.op) T x=some (.mslice g 0 n cap):=by exact rfl) (hy:opvL (tmpsOf o.op) T y=some vy:=by exact rfl) (hvy:asSl sz vy=some (ys.length,el2,ow):=by exact rfl)
  (hi:EntAt H (rowS g e f sz cap xs) G:=by(first|exact .here|exact .there (.here)|exact .there (.there (.here))|exact .there (.there (.there (.here)))|exact .there (.there (.there (.there (.here))))|exact .there (.there (.there (.there (.there (.here)))))|exact .there (.there (.there (.there (.there (.there (.here))))))|exact .there (.there (.there (.there (.there (.there (.there (.here)))))))|exact .there (.there (.there (.there (.there (.there (.there (.there (.here))))))))|exact .there (.there (.there (.there (.there (.there (.there (.there (.there (.here)))))))))|exact .there (.there (.there (.there (.there (.there (.there (.there (.there (.there (.here))))))))))|exact .there (.there (.there (.there (.there (.there (.there (.there (.there (.there (.there (.here)))))))))))|exact .there (.there (.there (.there (.there (.there (.there (.there (.there (.there (.there (.there (.here))))))))))))|exact .there (.there (.there (.there (.there (.there (.there (.there (.there (.there (.there (.there (.there (.here)))))))))))))|exact .there (.there (.there (.there (.there (.there (.there (.there (.there (.there (.there (.there (.there (.there (.here))))))))))))))|exact .there (.there (.there (.there (.there (.there (.there (.there (.there (.there (.there (.there (.there (.there (.there (.here))))))))))))))))) (hkb:LD.kp nn e=false:=by first|exact rfl|decide +kernel):TR P N ty l0 LD W Q ((nn,o)::l) T H:=by
 obtain⟨i,g1,g2⟩:=hi.spec
 rw[g2]at k
 refine TR.hard _ (.inr (by rw[ho];rfl)) hg (by rw[hd];exact hN) hon (hard_appR hty f xs ys i ho hti hk hei hsz hpos hx hy hvy hel hlen hn hroom g1) ?_ ?_ (fun _ v H' ⟨_,e⟩=>e▸KeepB.setBox g1 hkb _) (fun h=>by rw[ho]at h;cases h)
 ·rintro v H' ⟨e,rfl⟩
  cases e
  rw[hd]
  exact k
 ·rintro v H' ⟨e,_⟩
  cases e
end
end Go.Ab
namespace Go.Ab
section
variable {P:Program} {w:World}
end
section
variable {P:Program} {ty:TypeId→Option TyI} {o:Oper} {F:Operand→Option AV} {H:AHeap}
end
section
variable {P:Program} {N:Nat} {ty:TypeId→Option TyI} {l0:List Oper} {LD:LDs} {W:Bool} {Q:APost} {nn:Nat} {o:Oper} {l:List (Nat×Oper)} {T:Tmps} {H:AHeap}
end
end Go.Ab
namespace Go.Ab
section
variable {P:Program} {N:Nat} {ty:TypeId→Option TyI} {T:Tmps} {H:AHeap} {Q:APost} {o:Oper} {l0:List Oper} {LD:LDs} {W:Bool} {l:List (Nat×Oper)} {n:Nat}
end
def anyOkK (l:List Oper) (ks σ A τ:List Nat):Bool:=
 A.all (fun a=>A.all fun b=>Nat.beq a b || (ancB (ancsOf l []) a b || pairOkM [] l (ancsOf l []) (fun i=>A.contains i) a b))&&σ.all (fun j=> !A.contains j&& !hardAt l (fun x=>([]:List Nat).contains x) j)&&τ.all (fun t=> !A.contains t)&& !A.isEmpty&&pairsOk (fun a b=>Nat.blt a b) A&&
 A.all fun b=> !hardAt l (fun x=>([]:List Nat).contains x) b || (keepAt l b&&ks.contains b)
section
variable {P:Program} {N:Nat} {ty:TypeId→Option TyI} {T:Tmps} {H:AHeap} {Q:APost}
end
end Go.Ab
