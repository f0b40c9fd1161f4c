/-
  An array of structs that the call owns: its elements are loaded, and written, one by one.
-/
import Derived.Test.YtamgilppehibeaaGreatDoorAbD
import Derived.Test.YtamgilppehibeaaGreatDoorSoA
import Derived.Lib.SliceRun
namespace Go.Ab
def rowEl {α:Type} (f:α→List AV) (sz:Nat) (xs:List α) (j:Nat):AV:=match xs[j/sz]? with
 |some x=>(f x).getD (j%sz) .any
 |none=>.any
theorem rowVec_ex {α:Type} (f:α→List AV) (sz cap:Nat) (xs:List α):∃v:AV,v=.vec (cap*sz) (rowEl f sz xs):=⟨_,rfl⟩
noncomputable def rowVec {α:Type} (f:α→List AV) (sz cap:Nat) (xs:List α):AV:=Classical.choose (rowVec_ex f sz cap xs)
theorem rowVec_eq {α:Type} (f:α→List AV) (sz cap:Nat) (xs:List α):rowVec f sz cap xs=.vec (cap*sz) (rowEl f sz xs):=Classical.choose_spec (rowVec_ex f sz cap xs)
noncomputable def rowS {α:Type} (g:Nat) (e:TypeId) (f:α→List AV) (sz cap:Nat) (xs:List α):Ent:=.box g e (rowVec f sz cap xs)
theorem rowEl_at {α:Type} {f:α→List AV} {sz:Nat} {xs:List α} {i k:Nat} {x:α} (hx:xs[i]?=some x) (hk:k<sz):rowEl f sz xs (i*sz+k)=(f x).getD k .any:=by
 have h0:0<sz:=by omega
 have e1:(i*sz+k)/sz=i:=by rw[Nat.add_comm,Nat.add_mul_div_right _ _ h0,Nat.div_eq_of_lt hk,Nat.zero_add]
 have e2:(i*sz+k)%sz=k:=by rw[Nat.add_comm,Nat.add_mul_mod_self_right,Nat.mod_eq_of_lt hk]
 unfold rowEl
 rw[e1,e2,hx]
theorem rowEl_row {α:Type} {f:α→List AV} {sz:Nat} {xs:List α} {i:Nat} {x:α} (hx:xs[i]?=some x) (hl:(f x).length=sz):(List.range sz).map (fun k=>rowEl f sz xs (i*sz+k))=f x:=by
 refine List.ext_getElem? fun k=>?_
 by_cases hk:k<sz
 ·rw[List.getElem?_map,List.getElem?_range hk]
  simp only[Option.map_some]
  rw[rowEl_at hx hk,List.getD_eq_getElem?_getD,List.getElem?_eq_getElem (by omega)]
  rfl
 ·rw[List.getElem?_eq_none (by simp;omega),List.getElem?_eq_none (by omega)]
theorem rowEl_set {α:Type} {f:α→List AV} {sz:Nat} {xs:List α} {i:Nat} {x:α} (hi:i<xs.length) (hl:(f x).length=sz) (h0:0<sz):
  (fun j=>if i*sz≤j∧j<i*sz+(f x).length then(f x).getD (j-i*sz) .any else rowEl f sz xs j)=rowEl f sz (xs.set i x):=by
 funext j
 rw[hl]
 have hdm:=Nat.div_add_mod j sz
 by_cases c:i*sz≤j∧j<i*sz+sz
 ·rw[if_pos c]
  have e1:j/sz=i:=by
   refine Nat.div_eq_of_lt_le c.1 ?_
   rw[Nat.succ_mul]
   exact c.2
  have e2:j%sz=j-i*sz:=by
   rw[e1,Nat.mul_comm]at hdm
   omega
  unfold rowEl
  rw[e1,List.getElem?_set_self hi,e2]
 ·rw[if_neg c]
  have e1:j/sz≠i:=by
   intro e
   rw[e,Nat.mul_comm]at hdm
   have:=Nat.mod_lt j h0
   omega
  unfold rowEl
  rw[List.getElem?_set_ne (fun h=>e1 h.symm)]
section
variable {P:Program} {N:Nat} {ty:TypeId→Option TyI} {l0:List Oper} {LD:LDs} {W:Bool} {Q:APost} {n:Nat} {o:Oper} {l:List (Nat×Oper)} {T:Tmps} {H:AHeap}
theorem qldS {α:Type} [Inhabited α] (f:α→List AV) (xs:List α) (i:Nat) {t:TypeId} {y:Operand} {ti:TyI} {g off sz cap:Nat} {e:TypeId} {d:Nat} {fs:List (Nat×TypeId)}
  (hoff:off=i*sz) (k:TR P N ty l0 LD W Q l ((d,.agg (f (xs.getD i default)))::T) H) (hi:i<xs.length) (hc:xs.length≤cap) (hf:(f (xs.getD i default)).length=sz)
  (hg:o.guard=none:=by exact rfl) (ho:o.op=.load t y:=by exact rfl) (hd:o.dst=some d:=by exact rfl) (hN:Nat.ble (d+1) N=true:=by exact rfl) (hx:opvL (tmpsOf o.op) T y=some (.ptr g off):=by exact rfl)
  (hon:optN True T (tmpsOf o.op):=by(first|exact True.intro|exact⟨id,True.intro⟩|exact⟨id,id,True.intro⟩|exact⟨id,id,id,True.intro⟩)) (ht:ty t=some ti:=by exact rfl) (hk:ti.k=.struct fs:=by exact rfl) (hsz:ti.size=sz:=by exact rfl)
  (hm:rowS g e f sz cap xs∈H:=by(first|exact(List.Mem.head _)|exact List.Mem.tail _ ((List.Mem.head _))|exact List.Mem.tail _ (List.Mem.tail _ ((List.Mem.head _)))|exact List.Mem.tail _ (List.Mem.tail _ (List.Mem.tail _ ((List.Mem.head _))))|exact List.Mem.tail _ (List.Mem.tail _ (List.Mem.tail _ (List.Mem.tail _ ((List.Mem.head _)))))|exact List.Mem.tail _ (List.Mem.tail _ (List.Mem.tail _ (List.Mem.tail _ (List.Mem.tail _ ((List.Mem.head _))))))|exact List.Mem.tail _ (List.Mem.tail _ (List.Mem.tail _ (List.Mem.tail _ (List.Mem.tail _ (List.Mem.tail _ ((List.Mem.head _)))))))|exact List.Mem.tail _ (List.Mem.tail _ (List.Mem.tail _ (List.Mem.tail _ (List.Mem.tail _ (List.Mem.tail _ (List.Mem.tail _ ((List.Mem.head _))))))))|exact List.Mem.tail _ (List.Mem.tail _ (List.Mem.tail _ (List.Mem.tail _ (List.Mem.tail _ (List.Mem.tail _ (List.Mem.tail _ (List.Mem.tail _ ((List.Mem.head _))))))))))) (hl:LD.ld n e=true:=by first|exact rfl|decide +kernel):TR P N ty l0 LD W Q ((n,o)::l) T H:=by
 have hxi:xs[i]?=some (xs.getD i default):=by rw[List.getD_eq_getElem?_getD,List.getElem?_eq_getElem hi];rfl
 have hle:(i+1)*sz≤cap*sz:=Nat.mul_le_mul_right _ (by omega)
 rw[Nat.succ_mul]at hle
 refine TR.hload t y ti g off e (rowVec f sz cap xs) (off+ti.size≤cap*sz) _ d hg ho hd hN hx hon ht hm ?_ (by rw[hsz,hoff];exact hle) hl k
 rw[rowVec_eq]
 unfold boxAt
 simp only[hk,hsz,hoff]
 rw[rowEl_row hxi hf]
theorem qstS {α:Type} (hty:TyOk P ty) (f:α→List AV) (xs:List α) (i:Nat) (x:α) {t:TypeId} {y z:Operand} {ti:TyI} {g off sz cap:Nat} {e:TypeId} {F:Ent→AHeap}
  (hoff:off=i*sz) (k:TR P N ty l0 LD W Q l T (F (rowS g e f sz cap (xs.set i x)))) (hi:i<xs.length) (hc:xs.length≤cap) (hf:(f x).length=sz) (h0:0<sz) (hone:(f x).all AV.one=true)
  (hg:o.guard=none:=by exact rfl) (ho:o.op=.store t y z:=by exact rfl) (hd:o.dst=none:=by exact rfl) (hon:optN True T (tmpsOf o.op):=by(first|exact True.intro|exact⟨id,True.intro⟩|exact⟨id,id,True.intro⟩|exact⟨id,id,id,True.intro⟩)) (hx:opvL (tmpsOf o.op) T y=some (.ptr g off):=by exact rfl)
  (hy:opvL (tmpsOf o.op) T z=some (.agg (f x)):=by exact rfl) (ht:ty t=some ti:=by exact rfl) (hsz:ti.size=sz:=by exact rfl) (hi':EntAt H (rowS g e f sz cap xs) F:=by(first|exact .here|exact .there (.here)|exact .there (.there (.here))|exact .there (.there (.there (.here)))|exact .there (.there (.there (.there (.here))))|exact .there (.there (.there (.there (.there (.here)))))|exact .there (.there (.there (.there (.there (.there (.here))))))|exact .there (.there (.there (.there (.there (.there (.there (.here)))))))|exact .there (.there (.there (.there (.there (.there (.there (.there (.here))))))))|exact .there (.there (.there (.there (.there (.there (.there (.there (.there (.here)))))))))|exact .there (.there (.there (.there (.there (.there (.there (.there (.there (.there (.here))))))))))|exact .there (.there (.there (.there (.there (.there (.there (.there (.there (.there (.there (.here)))))))))))|exact .there (.there (.there (.there (.there (.there (.there (.there (.there (.there (.there (.there (.here))))))))))))|exact .there (.there (.there (.there (.there (.there (.there (.there (.there (.there (.there (.there (.there (.here)))))))))))))|exact .there (.there (.there (.there (.there (.there (.there (.there (.there (.there (.there (.there (.there (.there (.here))))))))))))))|exact .there (.there (.there (.there (.there (.there (.there (.there (.there (.there (.there (.there (.there (.there (.there (.here)))))))))))))))))
  (hkb:LD.kp n e=false:=by first|exact rfl|decide +kernel):TR P N ty l0 LD W Q ((n,o)::l) T H:=by
 obtain⟨p,h1,h2⟩:=hi'.spec
 rw[h2]at k
 have hle:(i+1)*sz≤cap*sz:=Nat.mul_le_mul_right _ (by omega)
 rw[Nat.succ_mul]at hle
 refine TR.store hty (u:=rowVec f sz cap xs) (u':=rowVec f sz cap (xs.set i x)) (p:=off+(f x).length≤cap*sz) p hg ho hd hon hx hy ht h1 ?_ (by rw[hf,hoff];exact hle) k hkb
 rw[rowVec_eq,rowVec_eq]
 unfold boxSet
 simp only[hsz,hf,hone,Bool.and_true,hoff]
 have e:=rowEl_set (f:=f) (xs:=xs) hi hf h0
 rw[hf]at e
 rw[e]
 simp
end
end Go.Ab
namespace Go.Ab
section
variable {P:Program} {ty:TypeId→Option TyI} {o:Oper} {F:Operand→Option AV} {H:AHeap}
theorem rowS_rep {α:Type} [Inhabited α] {st:Stab} {w:World} {f:α→List AV} {sz cap:Nat} {ys:List α} {cs:List Value} (hp:0<sz) (hl:cs.length=cap*sz) (hlen:∀i,i<ys.length→(f (ys.getD i default)).length=sz)
  (h:∀i j v,i<ys.length→(f (ys.getD i default))[j]?=some v→∀x,cs[i*sz+j]?=some x→Rep st w v x) (hone:∀x∈cs,x.oneCell'=true):Rep st w (rowVec f sz cap ys) (.agg ⟨cs⟩):=by
 rw[rowVec_eq]
 refine .vec _ _ _ hl (fun j x hx=>?_) hone
 unfold rowEl
 by_cases hj:j/sz<ys.length
 ·have hyi:ys[j/sz]?=some (ys.getD (j/sz) default):=by rw[List.getD_eq_getElem?_getD,List.getElem?_eq_getElem hj];rfl
  rw[hyi]
  have hm:j%sz<(f (ys.getD (j/sz) default)).length:=by rw[hlen _ hj];exact Nat.mod_lt _ hp
  refine h (j/sz) (j%sz) ((f (ys.getD (j/sz) default)).getD (j%sz) .any) hj ?_ x ?_
  ·rw[List.getD_eq_getElem?_getD (l:=f (ys.getD (j/sz) default)),List.getElem?_eq_getElem hm];rfl
  ·rw[Nat.mul_comm,Nat.div_add_mod]
   exact hx
 ·rw[List.getElem?_eq_none (by omega)]
  exact .any _
theorem hard_appS {α:Type} [Inhabited α] (hty:TyOk P ty) (f:α→List AV) (ys:List α) {s x:Operand} {t e:TypeId} {ti ei:TyI} {vs vx:AV} {sz:Nat} {el el2:Nat→List AV} {ow:Own}
  (ho:o.op=.call {callee:=.builtin .append,args:= #[s,x],argTypes:= #[t,t]}) (hti:ty t=some ti) (hk:ti.k=.slice e) (hei:ty e=some ei) (hsz:ei.size=sz) (hpos:Nat.ble 1 sz=true)
  (hs:F s=some vs) (hx:F x=some vx) (hvs:asSl sz vs=some (0,el,.full)) (hvx:asSl sz vx=some (ys.length,el2,ow)) (hel:∀i,i<ys.length→el2 i=f (ys.getD i default)) (h0:0<ys.length)
  (hb:ys.length*ei.bytes≤140737488355328∧ys.length≤9223372036854775807):
  AHard P o F H fun r H'=>∃g cap,ys.length≤cap∧cap≤maxLen∧r=.ret (.mslice g 0 ys.length cap)∧H'=rowS g e f sz cap ys::H:=by
 intro E st w act r next Q hc hF _ hr _
 obtain⟨⟨d,hd,hkf⟩,-⟩:=hty t ti hti
 rw[hk]at hkf
 obtain rfl:d=.slice e:=hkf
 obtain⟨-,inf,z,hinf,hisz,hby,hz,hzs,hzr,hzo⟩:=hty e ei hei
 have hp:0<sz:=Nat.le_of_ble_eq_true hpos
 obtain⟨a,cap,b,off,C,hsv,hn,hok,h1⟩:=row_of (asSl_rep hvs (hF s vs hs)) hp
 obtain⟨a2,cap2,b2,off2,C2,hxv,hn2,-,h2⟩:=row_of (asSl_rep hvx (hF x vx hx)) hp
 have hcapn:cap=0:=hok
 subst hcapn
 have hm0:ys.length≠0:=by omega
 obtain rfl:=row_base h2 hm0
 generalize hm:ys.length=m at*
 have hexec:∀v' w',(Builtin.append_ #[t,t] o.type #[.slice a 0 0,.slice (some ⟨b2,off2,none⟩) m cap2]).run P w=.ok v' w'→(execOp act.eval o).run P w=.ok (.value v') w':=by
  intro v' w' h
  simp[execOp,ho,resolve,invoke,builtin,hsv,hxv,h]
 let news:=(List.range (m*sz)).map C2
 have hnl:news.length=m*inf.size:=by simp[news,hisz,hsz]
 have hnews:∀j v,news[j]?=some v→w.cell? ((⟨b2,off2,none⟩:Addr).add j)=some v:=by
  intro j v hv
  obtain⟨hj,rfl⟩:=map_range_get j v hv
  rw[addr_add]
  exact(h2.cell j hj).2
 have hb1:(0+m)*inf.bytes≤140737488355328:=by rw[Nat.zero_add,hby];exact hb.1
 obtain⟨cap',hcap',hcm,hrun⟩:∃cap',m≤cap'∧cap'≤maxLen∧(Builtin.append_ #[t,t] o.type #[.slice a 0 0,.slice (some ⟨b2,off2,none⟩) m cap2]).run P w=
   .ok (.slice (some ⟨w.heap.size,0,none⟩) m cap') (w.drew.alloc (.cells (news.toArray++Builtin.zeroCells z.cells (cap'-m)) e)):=by
  have hmax:m≤maxLen:=by simp only[maxLen];omega
  have h63:((0+m:Nat):Int)≤9223372036854775807:=by omega
  cases ha:a with
  |none=>
   refine⟨grownCap w m 0 e,by simpa using grownCap_ge w m 0 e,grownCap_le_maxLen w m 0 e (by simpa using hmax),?_⟩
   have hr:=run_append_nil (P:=P) w t o.type e inf z hd hinf hz ⟨b2,off2,none⟩ m cap2 news hnl hnews (by omega) (by simpa using h63) (by simp only[Nat.zero_add]at hb1;omega)
   simpa using hr
  |some ad=>
   refine⟨grownCap w (0+m) 0 e,by simpa using grownCap_ge w (0+m) 0 e,grownCap_le_maxLen w (0+m) 0 e (by simpa using hmax),?_⟩
   have hr:=run_append_grow (P:=P) w t o.type e inf z hd hinf hz ad 0 0 [] (by simp) (by simp) ⟨b2,off2,none⟩ m cap2 news hnl hnews (by omega) h63 (growslice_fits (by omega) hb1)
   simpa using hr
 generalize harrd:news.toArray++Builtin.zeroCells z.cells (cap'-m)=arr at hrun
 have hw:(w.drew.alloc (.cells arr e)).heap[w.heap.size]?=some (.cells arr e):=heap_alloc_new w.drew _
 have hget:∀j,j<m*sz→arr.toList[j]?=some (C2 j):=by
  intro j hj
  rw[←harrd,Array.toList_append,List.getElem?_append_left (by simpa [news]using hj)]
  simp[news,hj]
 have hlen:arr.toList.length=cap'*sz:=by
  rw[←harrd]
  simp only[Array.length_toList,Array.size_append,List.size_toArray,size_zeroCells,hzs,hnl,hisz,hsz,←Nat.add_mul]
  congr 1
  omega
 have hone:∀x∈arr.toList,x.oneCell'=true:=by
  intro x hx
  rw[←harrd]at hx
  simp only[Array.toList_append,List.mem_append]at hx
  rcases hx with hx|hx
  ·simp only[news,List.mem_map,List.mem_range]at hx
   obtain⟨k,hk,rfl⟩:=hx
   exact h2.one k hk
  ·exact zero_one hzo x hx
 have hgrow:=Conc.grow (st':=st) (w':=w.drew.alloc (.cells arr e)) (Hn:=[rowS w.heap.size e f sz cap' ys]) hc rfl rfl rfl (by simp) (fun k hk=>heap_alloc_old w.drew _ hk)
  (fun b o h=>h) (fun b o h=>.inl h) ?_ ?_ (by simp)
 ·exact upon_value_ok (hexec _ _ hrun) (hr st _ (.mslice w.heap.size 0 m cap') _ _ hgrow.1 hgrow.2 (.mslice _ _ _ _) ⟨_,_,hcap',hcm,rfl,rfl⟩)
 ·intro e1 he1
  simp at he1
  subst he1
  have hkeep:Keeps st st w (w.drew.alloc (.cells arr e)):=⟨fun _ _ h=>h,fun b o hs=>World.cell?_of_block (w:=w) (heap_alloc_old w.drew _ (hc.stlt b o hs))⟩
  refine⟨arr,.agg arr,hw,rowS_rep hp hlen (fun i hi=>?_) (fun i j v hi hv x hx=>?_) hone,rfl,hone,fun o hs=>absurd (hc.stlt _ _ hs) (by omega)⟩
  ·rw[←hel i (by omega)]
   exact h2.len i (by omega)
  ·have hl2:=h2.len i (by omega)
   rw[←hel i (by omega)]at hv
   have hj:j<sz:=by
    rw[←hl2]
    exact(List.getElem?_eq_some_iff.1 hv).1
   have hij:i*sz+j<m*sz:=by
    have:(i+1)*sz≤m*sz:=Nat.mul_le_mul_right _ (by omega)
    rw[Nat.succ_mul]at this
    omega
   have:=hget _ hij
   rw[this]at hx
   cases hx
   exact(h2.rep i j v (by omega) hv).mono hkeep
 ·rintro k ⟨e1,he1,hk⟩
  simp at he1
  subst he1
  have hk:w.heap.size=k:=hk
  subst hk
  simp
end
section
variable {P:Program} {N:Nat} {ty:TypeId→Option TyI} {l0:List Oper} {LD:LDs} {W:Bool} {Q:APost} {n:Nat} {o:Oper} {l:List (Nat×Oper)} {T:Tmps} {H:AHeap}
theorem qappO {α:Type} [Inhabited α] (hty:TyOk P ty) (f:α→List AV) (ys:List α) {s y:Operand} {t e:TypeId} {ti ei:TyI} {vs vx:AV} {sz:Nat} {el el2:Nat→List AV} {ow:Own} {d:Nat}
  (k:∀g cap,ys.length≤cap→cap≤maxLen→TR P N ty l0 LD W Q l ((d,.mslice g 0 ys.length cap)::T) (rowS g e f sz cap ys::H))
  (hel:∀i,i<ys.length→el2 i=f (ys.getD i default)) (h0:0<ys.length) (hb:ys.length*ei.bytes≤140737488355328∧ys.length≤9223372036854775807)
  (hg:o.guard=none:=by exact rfl) (ho:o.op=.call {callee:=.builtin .append,args:= #[s,y],argTypes:= #[t,t]}:=by exact rfl) (hd:o.dst=some d:=by exact rfl) (hN:Nat.ble (d+1) N=true:=by exact rfl)
  (hon:optN True T (tmpsOf o.op):=by exact True.intro) (hti:ty t=some ti:=by exact rfl) (hk:ti.k=.slice e:=by exact rfl) (hei:ty e=some ei:=by exact rfl) (hsz:ei.size=sz:=by exact rfl) (hpos:Nat.ble 1 sz=true:=by exact rfl)
  (hs:opvL (tmpsOf o.op) T s=some vs:=by exact rfl) (hvs:asSl sz vs=some (0,el,.full):=by exact rfl) (hx:opvL (tmpsOf o.op) T y=some vx:=by exact rfl) (hvx:asSl sz vx=some (ys.length,el2,ow):=by exact rfl):TR P N ty l0 LD W Q ((n,o)::l) T H:=by
 refine TR.hard _ (.inr (by rw[ho];rfl)) hg (by rw[hd];exact hN) hon (hard_appS hty f ys ho hti hk hei hsz hpos hs hx hvs hvx hel h0 hb) ?_ ?_ (fun _ v H' ⟨g,cap,_,_,_,e⟩=>e▸KeepB.cons _ _) (fun h=>by rw[ho]at h;cases h)
 ·rintro v H' ⟨g,cap,h1,h2,e,rfl⟩
  cases e
  rw[hd]
  exact k g cap h1 h2
 ·rintro v H' ⟨g,cap,_,_,e,_⟩
  cases e
theorem nil_sem (hty:TyOk P ty) {F:Operand→Option AV} {t e:TypeId} {x y:Operand} {rt:TypeId} {ti:TyI} {vx:AV} {sz m:Nat} {el:Nat→List AV} {ow:Own} (ho:o.op=.binOp .eql t x y rt) (hti:ty t=some ti) (hk:ti.k=.slice e)
  (hx:F x=some vx) (hy:F y=some .nils) (hvx:asSl sz vx=some (m,el,ow)) (hsz:0<sz) (h0:0<m):ASem P o F (.bool false):=by
 intro st w ρ hF
 obtain⟨⟨d,hd,hkf⟩,-⟩:=hty t ti hti
 rw[hk]at hkf
 obtain rfl:d=.slice e:=hkf
 obtain⟨a,cap,b,off,C,hxv,-,-,h1⟩:=row_of (asSl_rep hvx (hF x _ hx)) hsz
 obtain rfl:=row_base h1 (by omega)
 have hyv:ρ y=.slice none 0 0:=by
  have h:=hF y _ hy
  generalize ρ y=c at h
  cases h
  rfl
 have r1:=Lib.run_eql_slice_nil (P:=P) w t e (some ⟨b,off,none⟩) m cap 0 0 hd
 have hg:(eqGuard .eql t x y (.slice (some ⟨b,off,none⟩) m cap) (.slice none 0 0)).run P w=.ok () w:=by simp[eqGuard]
 obtain⟨dst,op',type,pos,after,guard⟩:=o
 simp only at ho
 subst ho
 exact⟨_,by simp only[execOp,Sem.run_bind,hxv,hyv,hg,Result.andThen_ok,r1];rfl,.bool _⟩
theorem qnnil (hty:TyOk P ty) (m:Nat) {t e:TypeId} {x y:Operand} {rt:TypeId} {ti ei:TyI} {vx:AV} {sz:Nat} {el:Nat→List AV} {ow:Own} {d:Nat} (k:TR P N ty l0 LD W Q l ((d,.bool false)::T) H) (h0:0<m) (hg:o.guard=none:=by exact rfl)
  (ho:o.op=.binOp .eql t x y rt:=by exact rfl) (hd:o.dst=some d:=by exact rfl) (hN:Nat.ble (d+1) N=true:=by exact rfl) (hon:optN True T (tmpsOf o.op):=by(first|exact True.intro|exact⟨id,True.intro⟩|exact⟨id,id,True.intro⟩|exact⟨id,id,id,True.intro⟩)) (hti:ty t=some ti:=by exact rfl) (hk:ti.k=.slice e:=by exact rfl)
  (_:ty e=some ei:=by exact rfl) (_:ei.size=sz:=by exact rfl) (hpos:Nat.ble 1 sz=true:=by exact rfl)
  (hx:opvL (tmpsOf o.op) T x=some vx:=by exact rfl) (hy:opvL (tmpsOf o.op) T y=some .nils:=by exact rfl) (hvx:asSl sz vx=some (m,el,ow):=by exact rfl):TR P N ty l0 LD W Q ((n,o)::l) T H:=
 TR.sem _ _ hg hd hN hon (nil_sem hty ho hti hk hx hy hvx (Nat.le_of_ble_eq_true hpos) h0) k
end
end Go.Ab
namespace Go.Ab
section
variable {P:Program} {N:Nat} {ty:TypeId→Option TyI} {l0:List Oper} {LD:LDs} {W:Bool} {Q:APost} {n:Nat} {o:Oper} {l:List (Nat×Oper)} {T:Tmps} {H:AHeap}
theorem rowEl_part {α:Type} {f:α→List AV} {sz fo fz:Nat} {xs:List α} {i:Nat} {x:α} (hx:xs[i]?=some x) (hl:(f x).length=sz) (hz:fo+fz≤sz):(List.range fz).map (fun k=>rowEl f sz xs (i*sz+fo+k))=((f x).drop fo).take fz:=by
 refine List.ext_getElem? fun k=>?_
 by_cases hk:k<fz
 ·rw[List.getElem?_map,List.getElem?_range hk,List.getElem?_take_of_lt hk,List.getElem?_drop]
  simp only[Option.map_some]
  rw[Nat.add_assoc,rowEl_at hx (by omega),List.getD_eq_getElem?_getD,List.getElem?_eq_getElem (by omega)]
  rfl
 ·rw[List.getElem?_eq_none (by simp;omega),List.getElem?_eq_none (by simp;omega)]
theorem qldF {α:Type} [Inhabited α] (f:α→List AV) (xs:List α) (i fo fz:Nat) {t:TypeId} {y:Operand} {ti:TyI} {g off sz cap:Nat} {e:TypeId} {d:Nat} {fs:List (Nat×TypeId)}
  (hoff:off=i*sz+fo) (k:TR P N ty l0 LD W Q l ((d,.agg (((f (xs.getD i default)).drop fo).take fz))::T) H) (hi:i<xs.length) (hc:xs.length≤cap) (hf:(f (xs.getD i default)).length=sz) (hz:fo+fz≤sz)
  (hg:o.guard=none:=by exact rfl) (ho:o.op=.load t y:=by exact rfl) (hd:o.dst=some d:=by exact rfl) (hN:Nat.ble (d+1) N=true:=by exact rfl) (hx:opvL (tmpsOf o.op) T y=some (.ptr g off):=by exact rfl)
  (hon:optN True T (tmpsOf o.op):=by(first|exact True.intro|exact⟨id,True.intro⟩|exact⟨id,id,True.intro⟩|exact⟨id,id,id,True.intro⟩)) (ht:ty t=some ti:=by exact rfl) (hk:ti.k=.struct fs:=by exact rfl) (hsz:ti.size=fz:=by exact rfl)
  (hm:rowS g e f sz cap xs∈H:=by(first|exact(List.Mem.head _)|exact List.Mem.tail _ ((List.Mem.head _))|exact List.Mem.tail _ (List.Mem.tail _ ((List.Mem.head _)))|exact List.Mem.tail _ (List.Mem.tail _ (List.Mem.tail _ ((List.Mem.head _))))|exact List.Mem.tail _ (List.Mem.tail _ (List.Mem.tail _ (List.Mem.tail _ ((List.Mem.head _)))))|exact List.Mem.tail _ (List.Mem.tail _ (List.Mem.tail _ (List.Mem.tail _ (List.Mem.tail _ ((List.Mem.head _))))))|exact List.Mem.tail _ (List.Mem.tail _ (List.Mem.tail _ (List.Mem.tail _ (List.Mem.tail _ (List.Mem.tail _ ((List.Mem.head _)))))))|exact List.Mem.tail _ (List.Mem.tail _ (List.Mem.tail _ (List.Mem.tail _ (List.Mem.tail _ (List.Mem.tail _ (List.Mem.tail _ ((List.Mem.head _))))))))|exact List.Mem.tail _ (List.Mem.tail _ (List.Mem.tail _ (List.Mem.tail _ (List.Mem.tail _ (List.Mem.tail _ (List.Mem.tail _ (List.Mem.tail _ ((List.Mem.head _))))))))))) (hl:LD.ld n e=true:=by first|exact rfl|decide +kernel):TR P N ty l0 LD W Q ((n,o)::l) T H:=by
 have hxi:xs[i]?=some (xs.getD i default):=by rw[List.getD_eq_getElem?_getD,List.getElem?_eq_getElem hi];rfl
 have hle:(i+1)*sz≤cap*sz:=Nat.mul_le_mul_right _ (by omega)
 rw[Nat.succ_mul]at hle
 refine TR.hload t y ti g off e (rowVec f sz cap xs) (off+ti.size≤cap*sz) _ d hg ho hd hN hx hon ht hm ?_ (by rw[hsz,hoff];omega) hl k
 rw[rowVec_eq]
 unfold boxAt
 simp only[hk,hsz,hoff]
 rw[rowEl_part hxi hf hz]
theorem qldG {α:Type} [Inhabited α] (f:α→List AV) (xs:List α) (i fo:Nat) {t:TypeId} {y:Operand} {ti:TyI} {g off sz cap:Nat} {e:TypeId} {d:Nat} {e2:TypeId}
  (hoff:off=i*sz+fo) (k:TR P N ty l0 LD W Q l ((d,(f (xs.getD i default)).getD fo .any)::T) H) (hi:i<xs.length) (hc:xs.length≤cap) (hz:fo<sz)
  (hg:o.guard=none:=by exact rfl) (ho:o.op=.load t y:=by exact rfl) (hd:o.dst=some d:=by exact rfl) (hN:Nat.ble (d+1) N=true:=by exact rfl) (hx:opvL (tmpsOf o.op) T y=some (.ptr g off):=by exact rfl)
  (hon:optN True T (tmpsOf o.op):=by(first|exact True.intro|exact⟨id,True.intro⟩|exact⟨id,id,True.intro⟩|exact⟨id,id,id,True.intro⟩)) (ht:ty t=some ti:=by exact rfl) (hk:ti.k=.slice e2:=by exact rfl)
  (hm:rowS g e f sz cap xs∈H:=by(first|exact(List.Mem.head _)|exact List.Mem.tail _ ((List.Mem.head _))|exact List.Mem.tail _ (List.Mem.tail _ ((List.Mem.head _)))|exact List.Mem.tail _ (List.Mem.tail _ (List.Mem.tail _ ((List.Mem.head _))))|exact List.Mem.tail _ (List.Mem.tail _ (List.Mem.tail _ (List.Mem.tail _ ((List.Mem.head _)))))|exact List.Mem.tail _ (List.Mem.tail _ (List.Mem.tail _ (List.Mem.tail _ (List.Mem.tail _ ((List.Mem.head _))))))|exact List.Mem.tail _ (List.Mem.tail _ (List.Mem.tail _ (List.Mem.tail _ (List.Mem.tail _ (List.Mem.tail _ ((List.Mem.head _)))))))|exact List.Mem.tail _ (List.Mem.tail _ (List.Mem.tail _ (List.Mem.tail _ (List.Mem.tail _ (List.Mem.tail _ (List.Mem.tail _ ((List.Mem.head _))))))))|exact List.Mem.tail _ (List.Mem.tail _ (List.Mem.tail _ (List.Mem.tail _ (List.Mem.tail _ (List.Mem.tail _ (List.Mem.tail _ (List.Mem.tail _ ((List.Mem.head _))))))))))) (hl:LD.ld n e=true:=by first|exact rfl|decide +kernel):TR P N ty l0 LD W Q ((n,o)::l) T H:=by
 have hxi:xs[i]?=some (xs.getD i default):=by rw[List.getD_eq_getElem?_getD,List.getElem?_eq_getElem hi];rfl
 have hle:(i+1)*sz≤cap*sz:=Nat.mul_le_mul_right _ (by omega)
 rw[Nat.succ_mul]at hle
 refine TR.hload t y ti g off e (rowVec f sz cap xs) (off<cap*sz) _ d hg ho hd hN hx hon ht hm ?_ (by rw[hoff];omega) hl k
 rw[rowVec_eq]
 unfold boxAt
 simp only[hk,hoff]
 rw[rowEl_at hxi hz]
theorem qslL (hty:TyOk P ty) {t e:TypeId} {x ya:Operand} {i ei:TyI} {m cap g off:Nat} {ka:IntKind} {a:Int} {d:Nat}
  (k':TR P N ty l0 LD W Q l ((d,.mslice g (if a.toNat=cap then off else off+a.toNat*ei.size) (m-a.toNat) (cap-a.toNat))::T) H)
  (hh:0≤a∧a≤m∧m≤cap)
  (ho:o.op=.slice t x (some ya) none none:=by exact rfl) (hg:o.guard=none:=by exact rfl) (hd:o.dst=some d:=by exact rfl) (hN:Nat.ble (d+1) N=true:=by exact rfl)
  (hon:optN True T (tmpsOf o.op):=by exact True.intro) (hti:ty t=some i:=by exact rfl) (hk:i.k=.slice e:=by exact rfl) (he:ty e=some ei:=by exact rfl)
  (hx:opvL (tmpsOf o.op) T x=some (.mslice g off m cap):=by exact rfl) (ha:opvL (tmpsOf o.op) T ya=some (.int ka a):=by exact rfl):TR P N ty l0 LD W Q ((n,o)::l) T H:=by
 refine TR.sem (.mslice g (if a.toNat=cap then off else off+a.toNat*ei.size) (m-a.toNat) (cap-a.toNat)) d hg hd hN hon (fun st w ρ hF=>?_) k'
 have h2:=(hF ya _ ha).int_eq
 have h1:=hF x _ hx
 generalize hxv:ρ x=xv at h1
 cases h1 with
 |mslice _ _ _ _=>
  obtain⟨⟨dd,hdd,hkf⟩,-⟩:=hty t i hti
  obtain⟨-,inf2,_,hinf2,hsz2,-⟩:=hty e ei he
  rw[hk]at hkf
  obtain rfl:dd=.slice e:=hkf
  refine⟨.slice (some ⟨g,if a.toNat=cap then off else off+a.toNat*ei.size,none⟩) (m-a.toNat) (cap-a.toNat),?_,.mslice _ _ _ _⟩
  obtain⟨dst,op',type,pos,after,guard⟩:=o
  simp only at ho
  subst ho
  show((do pure (.value (←Instr.sliceAt t (ρ x) (some (ρ ya)) none none))):Sem Next).run P w=_
  rw[hxv,h2]
  refine exec_v ?_
  obtain⟨g1,g2,g3⟩:=hh
  have q1:a≤max (m:Int) 0:=by omega
  have q2:(m:Int)≤max (cap:Int) 0:=by omega
  by_cases hc:a.toNat=cap
  ·have q3:cap=a.toNat:=hc.symm
   simp[Instr.sliceAt,Instr.slice,run_underlying hdd,Instr.sliceBounds,Instr.sliceBound,asIntOf,run_sizeOf hinf2,hsz2,addr_add,g1,g2,g3,hc]
  ·have q3:¬cap=a.toNat:=fun h=>hc h.symm
   simp[Instr.sliceAt,Instr.slice,run_underlying hdd,Instr.sliceBounds,Instr.sliceBound,asIntOf,run_sizeOf hinf2,hsz2,addr_add,g1,g2,q3,hc]
theorem hard_eqnil (hty:TyOk P ty) {F:Operand→Option AV} {t e:TypeId} {x y:Operand} {rt:TypeId} {ti:TyI} {vx:AV} {sz m:Nat} {el:Nat→List AV} {ow:Own} (ho:o.op=.binOp .eql t x y rt) (hti:ty t=some ti) (hk:ti.k=.slice e)
  (hx:F x=some vx) (hy:F y=some .nils) (hvx:asSl sz vx=some (m,el,ow)) (hsz:0<sz):AHard P o F H fun r H'=>∃b:Bool,(b=true→m=0)∧r=.ret (.bool b)∧H'=H:=by
 intro E st w act r next Q hc hF _ hr _
 obtain⟨⟨d,hd,hkf⟩,-⟩:=hty t ti hti
 rw[hk]at hkf
 obtain rfl:d=.slice e:=hkf
 obtain⟨a,cap,b,off,C,hxv,-,-,h1⟩:=row_of (asSl_rep hvx (hF x _ hx)) hsz
 have hyv:act.eval y=.slice none 0 0:=by
  have h:=hF y _ hy
  generalize act.eval y=c at h
  cases h
  rfl
 have r1:=Lib.run_eql_slice_nil (P:=P) w t e a m cap 0 0 hd
 have hg:(eqGuard .eql t x y (.slice a m cap) (.slice none 0 0)).run P w=.ok () w:=by simp[eqGuard]
 have hexec:(execOp act.eval o).run P w=.ok (.value (.bool a.isNone)) w:=by
  obtain⟨dst,op',type,pos,after,guard⟩:=o
  simp only at ho
  subst ho
  simp only[execOp,Sem.run_bind,hxv,hyv,hg,Result.andThen_ok,r1]
  rfl
 refine upon_value_ok hexec (hr st w (.bool a.isNone) _ _ hc ⟨fun _ _ h=>h,fun _ _ _=>rfl⟩ (.bool _) ⟨_,fun hb=>?_,rfl,rfl⟩)
 rcases h1.base with h|h
 ·exact h
 ·rw[h]at hb
  cases hb
theorem qnilU (hty:TyOk P ty) {t e:TypeId} {x y:Operand} {rt:TypeId} {ti ei:TyI} {vx:AV} {sz m:Nat} {el:Nat→List AV} {ow:Own} {d:Nat} (k:∀b:Bool,(b=true→m=0)→TR P N ty l0 LD W Q l ((d,.bool b)::T) H) (hg:o.guard=none:=by exact rfl)
  (ho:o.op=.binOp .eql t x y rt:=by exact rfl) (hd:o.dst=some d:=by exact rfl) (hN:dstOk o.dst N=true:=by exact rfl) (hon:optN True T (tmpsOf o.op):=by exact True.intro) (hti:ty t=some ti:=by exact rfl) (hk:ti.k=.slice e:=by exact rfl)
  (_:ty e=some ei:=by exact rfl) (_:ei.size=sz:=by exact rfl) (hpos:Nat.ble 1 sz=true:=by exact rfl)
  (hx:opvL (tmpsOf o.op) T x=some vx:=by exact rfl) (hy:opvL (tmpsOf o.op) T y=some .nils:=by exact rfl) (hvx:asSl sz vx=some (m,el,ow):=by exact rfl) (hW:W=true:=by exact rfl):TR P N ty l0 LD W Q ((n,o)::l) T H:=by
 refine TR.hard _ (.inl hW) hg hN hon (hard_eqnil hty ho hti hk hx hy hvx (Nat.le_of_ble_eq_true hpos)) ?_ ?_ (fun _ v H' ⟨_,_,_,e⟩=>e▸KeepB.refl _) (fun h=>by rw[ho]at h;cases h)
 ·rintro v H' ⟨b,hb,e,rfl⟩
  cases e
  rw[hd]
  exact k b hb
 ·rintro v H' ⟨b,_,e,_⟩
  cases e
end
end Go.Ab
namespace Go.Ab
section
variable {P:Program} {ty:TypeId→Option TyI} {o:Oper} {F:Operand→Option AV} {H:AHeap}
theorem rowEl_rep {α:Type} [Inhabited α] {st:Stab} {w:World} {f:α→List AV} {sz M:Nat} {xs:List α} {cs:List Value} (h:Rep st w (.vec M (rowEl f sz xs)) (.agg ⟨cs⟩)) {i j:Nat} {v x:_} (hi:i<xs.length) (hv:(f (xs.getD i default))[j]?=some v) (hj:j<sz) (hx:cs[i*sz+j]?=some x):Rep st w v x:=by
 cases h with
 |vec _ _ _ hl hr _=>
  have h1:=hr _ _ hx
  have hxi:xs[i]?=some (xs.getD i default):=by rw[List.getD_eq_getElem?_getD,List.getElem?_eq_getElem hi];rfl
  rw[rowEl_at hxi hj,List.getD_eq_getElem?_getD,hv]at h1
  exact h1
theorem getD_take {α:Type} [Inhabited α] {xs ys:List α} {n i:Nat} (hn:n≤xs.length) (hi:i<n):(xs.take n++ys).getD i default=xs.getD i default:=by
 rw[List.getD_eq_getElem?_getD,List.getD_eq_getElem?_getD,List.getElem?_append_left (by rw[List.length_take];omega),List.getElem?_take_of_lt hi]
theorem getD_app {α:Type} [Inhabited α] {xs ys:List α} {n i:Nat} (hn:n≤xs.length) (hi:n≤i):(xs.take n++ys).getD i default=ys.getD (i-n) default:=by
 have e:(xs.take n).length=n:=by rw[List.length_take];omega
 rw[List.getD_eq_getElem?_getD,List.getD_eq_getElem?_getD,List.getElem?_append_right (by omega),e]
theorem hard_appR {α:Type} [Inhabited α] (hty:TyOk P ty) (f:α→List AV) (xs ys:List α) {x y:Operand} {t e:TypeId} {ti ei:TyI} {vy:AV} {g n cap sz:Nat} {el2:Nat→List AV} {ow:Own} (i:Nat)
  (ho:o.op=.call {callee:=.builtin .append,args:= #[x,y],argTypes:= #[t,t]}) (hti:ty t=some ti) (hk:ti.k=.slice e) (hei:ty e=some ei) (hsz:ei.size=sz) (hpos:Nat.ble 1 sz=true)
  (hx:F x=some (.mslice g 0 n cap)) (hy:F y=some vy) (hvy:asSl sz vy=some (ys.length,el2,ow)) (hel:∀i,i<ys.length→el2 i=f (ys.getD i default)) (hlen:∀i,i<xs.length→(f (xs.getD i default)).length=sz)
  (hn:n≤xs.length) (hroom:n+ys.length≤cap) (hi:H[i]?=some (rowS g e f sz cap xs)):
  AHard P o F H fun r H'=>r=.ret (.mslice g 0 (n+ys.length) cap)∧H'=H.set i (rowS g e f sz cap (xs.take n++ys)):=by
 intro E st w a r next Q hc hF _ hr _
 obtain⟨⟨d,hd,hkf⟩,-⟩:=hty t ti hti
 rw[hk]at hkf
 obtain rfl:d=.slice e:=hkf
 obtain⟨-,inf,z,hinf,hisz,-⟩:=hty e ei hei
 have hp:0<sz:=Nat.le_of_ble_eq_true hpos
 have hxv:=hF x _ hx
 generalize hxe:a.eval x=xv at hxv
 cases hxv
 obtain⟨a2,cap2,b2,off2,C2,hyv,hn2,-,h2⟩:=row_of (asSl_rep hvy (hF y vy hy)) hp
 have hc1:=hc.perm (perm_eraseIdx H i _ hi)
 obtain⟨arr,cv,hblk,hrep,hcells,hone,hns⟩:=hc1.ents (rowS g e f sz cap xs) (by simp)
 rw[rowVec_eq]at hrep
 obtain⟨cs,rfl⟩:∃cs,cv=.agg ⟨cs⟩:=by
  cases hrep with
  |vec _ _ cs hl _ _=>exact⟨cs,rfl⟩
 obtain rfl:arr=⟨cs⟩:=hcells.symm
 have hM:cs.length=cap*sz:=by
  cases hrep with
  |vec _ _ _ hl _ _=>exact hl
 generalize hm:ys.length=m at*
 have hfl:∀i,i<(xs.take n++ys).length→(f ((xs.take n++ys).getD i default)).length=sz:=by
  intro i hi
  rw[List.length_append,List.length_take,hm]at hi
  by_cases c:i<n
  ·rw[getD_take hn c]
   exact hlen i (by omega)
  ·rw[getD_app hn (by omega),←hel (i-n) (by omega)]
   exact h2.len _ (by omega)
 by_cases hm0:m=0
 ·subst hm0
  have hrun:=run_append_zero (P:=P) (w:=w) (tt:=o.type) (a:=some ⟨g,0,none⟩) (a2:=a2) (n:=n) (cap:=cap) (cap2:=cap2) hd hinf (by omega)
  have hys:ys=[]:=List.length_eq_zero_iff.1 hm
  subst hys
  have hsub:Conc E st ([]++rowS g e f sz cap (xs.take n++[])::H.eraseIdx i) w:=by
   have ho:∀k,AHeap.owns ([]++rowS g e f sz cap (xs.take n++[])::H.eraseIdx i) k→AHeap.owns (rowS g e f sz cap xs::H.eraseIdx i) k:=by
    rintro k ⟨e1,he,hk⟩
    rcases List.mem_cons.1 he with rfl|he
    ·exact⟨rowS g e f sz cap xs,by simp,hk⟩
    ·exact⟨e1,by simp[he],hk⟩
   refine⟨hc1.os,hc1.tape,hc1.output,hc1.size,hc1.old,hc1.keep,hc1.stle,hc1.stnew,hc1.stlt,fun k hk=>hc1.ownnew k (ho k hk),fun k hk=>hc1.ownlt k (ho k hk),fun e1 he=>?_,?_,hc1.fz⟩
   ·rcases List.mem_cons.1 he with rfl|he
    ·refine⟨⟨cs⟩,.agg ⟨cs⟩,hblk,rowS_rep hp hM hfl (fun i j v hi hv x hx=>?_) (by simpa using hone),rfl,hone,hns⟩
     have hi':i<n:=by
      rw[List.append_nil,List.length_take]at hi
      omega
     rw[getD_take hn hi']at hv
     have hj:j<sz:=by
      rw[←hlen i (by omega)]
      exact(List.getElem?_eq_some_iff.1 hv).1
     exact rowEl_rep hrep (by omega) hv hj hx
    ·exact hc1.ents e1 (by simp[he])
   ·have hs:=List.pairwise_cons.1 hc1.sep
    exact List.pairwise_cons.2 ⟨fun e2 he2 k hk hk2=>hs.1 e2 he2 k hk hk2,hs.2⟩
  refine upon_value_ok (c:=.slice (some ⟨g,0,none⟩) (n+0) cap) (w':=w) ?_ (hr st w (.mslice g 0 (n+0) cap) _ _ (hsub.perm (perm_set H i _ _ hi)) (Keeps.refl st w) (.mslice _ _ _ _) ⟨rfl,rfl⟩)
  simp[execOp,ho,resolve,invoke,builtin,hxe,hyv,hrun,Result.andThen]
 obtain rfl:=row_base h2 hm0
 let news:=(List.range (m*sz)).map C2
 have hnl:news.length=m*sz:=by simp[news]
 have hn1:∀v∈news,v.oneCell'=true:=by
  intro v hv
  obtain⟨j,hj,rfl⟩:=List.mem_map.1 hv
  exact h2.one j (by simpa using hj)
 have hle:(n+m)*sz≤cap*sz:=Nat.mul_le_mul_right _ hroom
 rw[Nat.add_mul]at hle
 have hr0:=run_append_room (P:=P) w t o.type e inf hd hinf g n cap ⟨cs⟩ hblk ⟨b2,off2,none⟩ m cap2 news (by rw[hnl,hisz,hsz]) (fun j v hv=>by
   obtain⟨hj,rfl⟩:=map_range_get j v hv
   rw[addr_add]
   exact(h2.cell j hj).2) hn1 hroom (by rw[hnl,hisz,hsz];simp;omega)
 rw[hnl,hisz,hsz,←hyv]at hr0
 have hcl:(cs.take (n*sz)++news++cs.drop (n*sz+m*sz)).length=cap*sz:=by
  rw[List.length_append,List.length_append,List.length_take,List.length_drop,hnl,hM]
  omega
 have hone':∀z∈cs.take (n*sz)++news++cs.drop (n*sz+m*sz),z.oneCell'=true:=by
  intro z hz
  rcases List.mem_append.1 hz with hz|hz
  ·rcases List.mem_append.1 hz with hz|hz
   ·exact hone z (by simpa using List.mem_of_mem_take hz)
   ·exact hn1 z hz
  ·exact hone z (by simpa using List.mem_of_mem_drop hz)
 have htl:(cs.take (n*sz)).length=n*sz:=by rw[List.length_take];omega
 have hover:Rep st w (rowVec f sz cap (xs.take n++ys)) (.agg ⟨cs.take (n*sz)++news++cs.drop (n*sz+m*sz)⟩):=by
  refine rowS_rep hp hcl hfl (fun i j v hi hv x hx=>?_) hone'
  have hj:j<sz:=by
   rw[←hfl i hi]
   exact(List.getElem?_eq_some_iff.1 hv).1
  rw[List.length_append,List.length_take,hm]at hi
  by_cases c:i<n
  ·rw[getD_take hn c]at hv
   have hlt:i*sz+j<n*sz:=by
    have:(i+1)*sz≤n*sz:=Nat.mul_le_mul_right _ c
    rw[Nat.succ_mul]at this
    omega
   rw[List.append_assoc,List.getElem?_append_left (by omega),List.getElem?_take_of_lt hlt]at hx
   exact rowEl_rep hrep (by omega) hv hj hx
  ·rw[getD_app hn (by omega),←hel (i-n) (by omega)]at hv
   have hge:n*sz≤i*sz:=Nat.mul_le_mul_right _ (by omega)
   have hsub:(i-n)*sz=i*sz-n*sz:=Nat.sub_mul ..
   have hlt:(i-n)*sz+j<m*sz:=by
    have:(i-n+1)*sz≤m*sz:=Nat.mul_le_mul_right _ (by omega)
    rw[Nat.succ_mul]at this
    omega
   have ej:i*sz+j-n*sz=(i-n)*sz+j:=by omega
   rw[List.append_assoc,List.getElem?_append_right (by omega),htl,ej,List.getElem?_append_left (by omega)]at hx
   have hx':news[(i-n)*sz+j]?=some (C2 ((i-n)*sz+j)):=by simp[news,hlt]
   rw[hx']at hx
   cases hx
   exact h2.rep (i-n) j v (by omega) hv
 have hst:=hc1.store (u':=rowVec f sz cap (xs.take n++ys)) (cv':=.agg ⟨cs.take (n*sz)++news++cs.drop (n*sz+m*sz)⟩) hblk hover rfl hone'
 refine upon_value_ok (c:=.slice (some ⟨g,0,none⟩) (n+m) cap) (w':=w.setRow g ⟨cs.take (n*sz)++news++cs.drop (n*sz+m*sz)⟩) ?_ (hr st _ (.mslice g 0 (n+m) cap) _ _ (hst.1.perm (perm_set H i _ _ hi)) hst.2 (.mslice _ _ _ _) ⟨rfl,rfl⟩)
 simp[execOp,ho,resolve,invoke,builtin,hxe,hr0,Result.andThen]
end
section
variable {P:Program} {N:Nat} {ty:TypeId→Option TyI} {l0:List Oper} {LD:LDs} {W:Bool} {Q:APost} {nn:Nat} {o:Oper} {l:List (Nat×Oper)} {T:Tmps} {H:AHeap}
theorem qappW {α:Type} [Inhabited α] (hty:TyOk P ty) (f:α→List AV) (xs ys:List α) {x y:Operand} {t e:TypeId} {ti ei:TyI} {vy:AV} {g n cap sz:Nat} {el2:Nat→List AV} {ow:Own} {d:Nat} {G:Ent→AHeap}
  (hel:∀i,i<ys.length→el2 i=f (ys.getD i default)) (hlen:∀i,i<xs.length→(f (xs.getD i default)).length=sz) (hn:n≤xs.length) (hroom:n+ys.length≤cap)
  (k:TR P N ty l0 LD W Q l ((d,.mslice g 0 (n+ys.length) cap)::T) (G (rowS g e f sz cap (xs.take n++ys))))
  (hg:o.guard=none:=by exact rfl) (ho:o.op=.call {callee:=.builtin .append,args:= #[x,y],argTypes:= #[t,t]}:=by exact rfl) (hd:o.dst=some d:=by exact rfl) (hN:Nat.ble (d+1) N=true:=by exact rfl)
  (hon:optN True T (tmpsOf o.op):=by exact True.intro) (hti:ty t=some ti:=by exact rfl) (hk:ti.k=.slice e:=by exact rfl) (hei:ty e=some ei:=by exact rfl) (hsz:ei.size=sz:=by exact rfl) (hpos:Nat.ble 1 sz=true:=by exact rfl)
  (hx:opvL (tmpsOf o.op) T x=some (.mslice g 0 n cap):=by exact rfl) (hy:opvL (tmpsOf o.op) T y=some vy:=by exact rfl) (hvy:asSl sz vy=some (ys.length,el2,ow):=by exact rfl)
  (hi:EntAt H (rowS g e f sz cap xs) G:=by(first|exact .here|exact .there (.here)|exact .there (.there (.here))|exact .there (.there (.there (.here)))|exact .there (.there (.there (.there (.here))))|exact .there (.there (.there (.there (.there (.here)))))|exact .there (.there (.there (.there (.there (.there (.here))))))|exact .there (.there (.there (.there (.there (.there (.there (.here)))))))|exact .there (.there (.there (.there (.there (.there (.there (.there (.here))))))))|exact .there (.there (.there (.there (.there (.there (.there (.there (.there (.here)))))))))|exact .there (.there (.there (.there (.there (.there (.there (.there (.there (.there (.here))))))))))|exact .there (.there (.there (.there (.there (.there (.there (.there (.there (.there (.there (.here)))))))))))|exact .there (.there (.there (.there (.there (.there (.there (.there (.there (.there (.there (.there (.here))))))))))))|exact .there (.there (.there (.there (.there (.there (.there (.there (.there (.there (.there (.there (.there (.here)))))))))))))|exact .there (.there (.there (.there (.there (.there (.there (.there (.there (.there (.there (.there (.there (.there (.here))))))))))))))|exact .there (.there (.there (.there (.there (.there (.there (.there (.there (.there (.there (.there (.there (.there (.there (.here))))))))))))))))) (hkb:LD.kp nn e=false:=by first|exact rfl|decide +kernel):TR P N ty l0 LD W Q ((nn,o)::l) T H:=by
 obtain⟨i,g1,g2⟩:=hi.spec
 rw[g2]at k
 refine TR.hard _ (.inr (by rw[ho];rfl)) hg (by rw[hd];exact hN) hon (hard_appR hty f xs ys i ho hti hk hei hsz hpos hx hy hvy hel hlen hn hroom g1) ?_ ?_ (fun _ v H' ⟨_,e⟩=>e▸KeepB.setBox g1 hkb _) (fun h=>by rw[ho]at h;cases h)
 ·rintro v H' ⟨e,rfl⟩
  cases e
  rw[hd]
  exact k
 ·rintro v H' ⟨e,_⟩
  cases e
end
end Go.Ab
namespace Go.Ab
section
variable {P:Program} {w:World}
theorem run_append_zeros (t u ty e:TypeId) (i:TypeInfo) (z:Value) (ht:P.underlying t=some (.slice e)) (hu:P.underlying u=some (.int .i64)) (hi:P.info? e=some i) (hz:i.zero=some z)
  (a:Option Addr) (n:Nat) (hs0:0<i.size) (h0:0<n) (h63:(n:Int)≤9223372036854775807) (h47:n*i.bytes≤140737488355328):
  (Builtin.append_ #[t,u] ty #[.slice a 0 0,.int .i64 n]).run P w=
    .ok (.slice (some ⟨w.heap.size,0,none⟩) n (grownCap w n 0 e)) (w.drew.alloc (.cells (Builtin.zeroCells z.cells n++Builtin.zeroCells z.cells (grownCap w n 0 e-n)) e)):=by
 have hn:n≠0:=by omega
 have hsz:i.size≠0:=by omega
 have h63':¬(9223372036854775807<(n:Int)):=by omega
 have h47':¬(281474976710656<(n:Int)*(i.bytes:Int)):=by
  rw[←Int.natCast_mul]
  omega
 have h48':¬(281474976710656<Builtin.nextslicecap n 0*i.bytes):=by rw[nextslicecap_zero h0];omega
 have hw:IntKind.i64.wrap (n:Int)=n:=wrap_inK (k:=.i64) ⟨by omega,h63⟩
 have hneg:¬((n:Int)<0):=by omega
 have hns:¬(n*i.size=0):=fun h=>by rcases Nat.mul_eq_zero.1 h with h|h<;>omega
 cases a<;>
 simp[Builtin.append_,run_underlying ht,run_underlying hu,sizeOf,typeInfo,zeroValue,hi,hz,hw,hneg,hns,hn,h63',h47',h48',Question.forced,Builtin.firstCells,loadCells,loadCellsFrom,newRow,grownCap,asInt,asIntOf]
end
section
variable {P:Program} {ty:TypeId→Option TyI} {o:Oper} {F:Operand→Option AV} {H:AHeap}
theorem hard_appZ {α:Type} [Inhabited α] (hty:TyOk P ty) (f:α→List AV) {s x:Operand} {t u e:TypeId} {ti ui ei:TyI} {vs:AV} {n sz:Nat} {el:Nat→List AV}
  (ho:o.op=.call {callee:=.builtin .append,args:= #[s,x],argTypes:= #[t,u]}) (hti:ty t=some ti) (hk:ti.k=.slice e) (hui:ty u=some ui) (huk:ui.k=.int .i64) (hei:ty e=some ei) (hsz:ei.size=sz) (hpos:Nat.ble 1 sz=true)
  (hs:F s=some vs) (hx:F x=some (.int .i64 (n:Int))) (hvs:asSl sz vs=some (0,el,.full)) (h0:0<n)
  (hb:n*ei.bytes≤140737488355328∧n≤9223372036854775807):
  AHard P o F H fun r H'=>∃g cap,n≤cap∧cap≤maxLen∧r=.ret (.mslice g 0 n cap)∧H'=rowS g e f sz cap []::H:=by
 intro E st w act r next Q hc hF _ hr _
 obtain⟨⟨d,hd,hkf⟩,-⟩:=hty t ti hti
 rw[hk]at hkf
 obtain rfl:d=.slice e:=hkf
 obtain⟨⟨du,hdu,hkfu⟩,-⟩:=hty u ui hui
 rw[huk]at hkfu
 obtain rfl:du=.int .i64:=hkfu
 obtain⟨-,inf,z,hinf,hisz,hby,hz,hzs,hzr,hzo⟩:=hty e ei hei
 have hp:0<sz:=Nat.le_of_ble_eq_true hpos
 obtain⟨a,cap,b,off,C,hsv,hn,hok,h1⟩:=row_of (asSl_rep hvs (hF s vs hs)) hp
 have hxv:=hF x _ hx
 generalize hxe:act.eval x=xv at hxv
 cases hxv
 have hcapn:cap=0:=hok
 subst hcapn
 have hexec:∀v' w',(Builtin.append_ #[t,u] o.type #[.slice a 0 0,.int .i64 n]).run P w=.ok v' w'→(execOp act.eval o).run P w=.ok (.value v') w':=by
  intro v' w' h
  simp[execOp,ho,resolve,invoke,builtin,hsv,hxe,h]
 have hrun:=run_append_zeros (P:=P) (w:=w) t u o.type e inf z hd hdu hinf hz a n (by rw[hisz,hsz];exact hp) h0 (by omega) (by rw[hby];exact hb.1)
 have hmax:n≤maxLen:=by simp only[maxLen];omega
 have hcap':n≤grownCap w n 0 e:=by simpa using grownCap_ge w n 0 e
 have hcm:grownCap w n 0 e≤maxLen:=grownCap_le_maxLen w n 0 e (by simpa using hmax)
 generalize grownCap w n 0 e=cap' at hrun hcap' hcm
 generalize harrd:Builtin.zeroCells z.cells n++Builtin.zeroCells z.cells (cap'-n)=arr at hrun
 have hw:(w.drew.alloc (.cells arr e)).heap[w.heap.size]?=some (.cells arr e):=heap_alloc_new w.drew _
 have hlen:arr.toList.length=cap'*sz:=by
  rw[←harrd]
  simp only[Array.length_toList,Array.size_append,size_zeroCells,hzs,hsz,←Nat.add_mul]
  congr 1
  omega
 have hone:∀x∈arr.toList,x.oneCell'=true:=by
  intro x hx
  rw[←harrd]at hx
  simp only[Array.toList_append,List.mem_append]at hx
  rcases hx with hx|hx<;>exact zero_one hzo x hx
 have hgrow:=Conc.grow (st':=st) (w':=w.drew.alloc (.cells arr e)) (Hn:=[rowS w.heap.size e f sz cap' []]) hc rfl rfl rfl (by simp) (fun k hk=>heap_alloc_old w.drew _ hk)
  (fun b o h=>h) (fun b o h=>.inl h) ?_ ?_ (by simp)
 ·exact upon_value_ok (hexec _ _ hrun) (hr st _ (.mslice w.heap.size 0 n cap') _ _ hgrow.1 hgrow.2 (.mslice _ _ _ _) ⟨_,_,hcap',hcm,rfl,rfl⟩)
 ·intro e1 he1
  simp at he1
  subst he1
  refine⟨arr,.agg arr,hw,rowS_rep hp hlen (fun i hi=>absurd hi (Nat.not_lt_zero i)) (fun i j v hi=>absurd hi (Nat.not_lt_zero i)) hone,rfl,hone,fun o hs=>absurd (hc.stlt _ _ hs) (by omega)⟩
 ·rintro k ⟨e1,he1,hk⟩
  simp at he1
  subst he1
  have hk:w.heap.size=k:=hk
  subst hk
  simp
end
section
variable {P:Program} {N:Nat} {ty:TypeId→Option TyI} {l0:List Oper} {LD:LDs} {W:Bool} {Q:APost} {nn:Nat} {o:Oper} {l:List (Nat×Oper)} {T:Tmps} {H:AHeap}
theorem qappZ {α:Type} [Inhabited α] (hty:TyOk P ty) (f:α→List AV) {s y:Operand} {t u e:TypeId} {ti ui ei:TyI} {vs:AV} {n sz:Nat} {el:Nat→List AV} {d:Nat}
  (k:∀g cap,n≤cap→cap≤maxLen→TR P N ty l0 LD W Q l ((d,.mslice g 0 n cap)::T) (rowS g e f sz cap []::H))
  (h0:0<n) (hb:n*ei.bytes≤140737488355328∧n≤9223372036854775807)
  (hg:o.guard=none:=by exact rfl) (ho:o.op=.call {callee:=.builtin .append,args:= #[s,y],argTypes:= #[t,u]}:=by exact rfl) (hd:o.dst=some d:=by exact rfl) (hN:Nat.ble (d+1) N=true:=by exact rfl)
  (hon:optN True T (tmpsOf o.op):=by exact True.intro) (hti:ty t=some ti:=by exact rfl) (hk:ti.k=.slice e:=by exact rfl) (hui:ty u=some ui:=by exact rfl) (huk:ui.k=.int .i64:=by exact rfl) (hei:ty e=some ei:=by exact rfl) (hsz:ei.size=sz:=by exact rfl) (hpos:Nat.ble 1 sz=true:=by exact rfl)
  (hs:opvL (tmpsOf o.op) T s=some vs:=by exact rfl) (hvs:asSl sz vs=some (0,el,.full):=by exact rfl) (hx:opvL (tmpsOf o.op) T y=some (.int .i64 (n:Int)):=by exact rfl):TR P N ty l0 LD W Q ((nn,o)::l) T H:=by
 refine TR.hard _ (.inr (by rw[ho];rfl)) hg (by rw[hd];exact hN) hon (hard_appZ hty f ho hti hk hui huk hei hsz hpos hs hx hvs h0 hb) ?_ ?_ (fun _ v H' ⟨g,cap,_,_,_,e⟩=>e▸KeepB.cons _ _) (fun h=>by rw[ho]at h;cases h)
 ·rintro v H' ⟨g,cap,h1,h2,e,rfl⟩
  cases e
  rw[hd]
  exact k g cap h1 h2
 ·rintro v H' ⟨g,cap,_,_,e,_⟩
  cases e
theorem hard_cap0 (hty:TyOk P ty) {F:Operand→Option AV} {t e:TypeId} {x:Operand} {ti:TyI} (ho:o.op=.call {callee:=.builtin .cap,args:= #[x],argTypes:= #[t]}) (hti:ty t=some ti) (hk:ti.k=.slice e)
  (hx:F x=some .nils):AHard P o F H fun r H'=>r=.ret (.int .i64 0)∧H'=H:=by
 intro E st w act r next Q hc hF _ hr _
 obtain⟨⟨d,hd,hkf⟩,-⟩:=hty t ti hti
 rw[hk]at hkf
 obtain rfl:d=.slice e:=hkf
 have hxv:=hF x _ hx
 generalize hxe:act.eval x=xv at hxv
 cases hxv
 have hrun:(Builtin.cap_ #[t] o.type #[.slice none 0 0]).run P w=.ok (.int .i64 0) w:=by
  simp[Builtin.cap_,run_underlying hd,goInt]
 refine upon_value_ok (c:=.int .i64 0) (w':=w) ?_ (hr st w (.int .i64 0) _ _ hc ⟨fun _ _ h=>h,fun _ _ _=>rfl⟩ (.int _ _) ⟨rfl,rfl⟩)
 simp[execOp,ho,resolve,invoke,builtin,hxe,hrun,Result.andThen]
theorem qcap0 (hty:TyOk P ty) {t e:TypeId} {x:Operand} {ti:TyI} {d:Nat} (k:TR P N ty l0 LD W Q l ((d,.int .i64 0)::T) H) (hg:o.guard=none:=by exact rfl)
  (ho:o.op=.call {callee:=.builtin .cap,args:= #[x],argTypes:= #[t]}:=by exact rfl) (hd:o.dst=some d:=by exact rfl) (hN:dstOk o.dst N=true:=by exact rfl) (hon:optN True T (tmpsOf o.op):=by exact True.intro) (hti:ty t=some ti:=by exact rfl) (hk:ti.k=.slice e:=by exact rfl)
  (hx:opvL (tmpsOf o.op) T x=some .nils:=by exact rfl) (hW:W=true:=by exact rfl):TR P N ty l0 LD W Q ((nn,o)::l) T H:=by
 refine TR.hard _ (.inl hW) hg hN hon (hard_cap0 hty ho hti hk hx) ?_ ?_ (fun _ v H' ⟨_,e⟩=>e▸KeepB.refl _) (fun h=>by rw[ho]at h;cases h)
 ·rintro v H' ⟨e,rfl⟩
  cases e
  rw[hd]
  exact k
 ·rintro v H' ⟨e,_⟩
  cases e
theorem qsln (hty:TyOk P ty) {t e:TypeId} {x y:Operand} {i ei:TyI} {d:Nat}
  (k':TR P N ty l0 LD W Q l ((d,.nils)::T) H)
  (ho:o.op=.slice t x none (some y) none:=by exact rfl) (hg:o.guard=none:=by exact rfl) (hd:o.dst=some d:=by exact rfl) (hN:Nat.ble (d+1) N=true:=by exact rfl)
  (hon:optN True T (tmpsOf o.op):=by exact True.intro) (hti:ty t=some i:=by exact rfl) (hk:i.k=.slice e:=by exact rfl) (he:ty e=some ei:=by exact rfl)
  (hx:opvL (tmpsOf o.op) T x=some .nils:=by exact rfl) (hy:opvL (tmpsOf o.op) T y=some (.int .i64 0):=by exact rfl):TR P N ty l0 LD W Q ((nn,o)::l) T H:=by
 refine TR.sem .nils d hg hd hN hon (fun st w ρ hF=>?_) k'
 have h2:=(hF y _ hy).int_eq
 have h1:=hF x _ hx
 generalize hxv:ρ x=xv at h1
 cases h1
 obtain⟨⟨dd,hdd,hkf⟩,-⟩:=hty t i hti
 obtain⟨-,inf2,_,hinf2,hsz2,-⟩:=hty e ei he
 rw[hk]at hkf
 obtain rfl:dd=.slice e:=hkf
 refine⟨.slice none 0 0,?_,.nils⟩
 obtain⟨dst,op',type,pos,after,guard⟩:=o
 simp only at ho
 subst ho
 show((do pure (.value (←Instr.sliceAt t (ρ x) none (some (ρ y)) none))):Sem Next).run P w=_
 rw[hxv,h2]
 refine exec_v ?_
 simp[Instr.sliceAt,Instr.slice,run_underlying hdd,Instr.sliceBounds,Instr.sliceBound,asIntOf,run_sizeOf hinf2]
theorem hard_app0 (hty:TyOk P ty) {F:Operand→Option AV} {x y:Operand} {t e:TypeId} {ti ei:TyI} {vy:AV} {sz:Nat} {el2:Nat→List AV} {ow:Own}
  (ho:o.op=.call {callee:=.builtin .append,args:= #[x,y],argTypes:= #[t,t]}) (hti:ty t=some ti) (hk:ti.k=.slice e) (hei:ty e=some ei) (hpos:Nat.ble 1 sz=true)
  (hx:F x=some .nils) (hy:F y=some vy) (hvy:asSl sz vy=some (0,el2,ow)):AHard P o F H fun r H'=>r=.ret .nils∧H'=H:=by
 intro E st w act r next Q hc hF _ hr _
 obtain⟨⟨d,hd,hkf⟩,-⟩:=hty t ti hti
 rw[hk]at hkf
 obtain rfl:d=.slice e:=hkf
 obtain⟨-,inf,z,hinf,-⟩:=hty e ei hei
 have hxv:=hF x _ hx
 generalize hxe:act.eval x=xv at hxv
 cases hxv
 obtain⟨a2,cap2,b2,off2,C2,hyv,-,-,-⟩:=row_of (asSl_rep hvy (hF y vy hy)) (Nat.le_of_ble_eq_true hpos)
 have hrun:=run_append_zero (P:=P) (w:=w) (tt:=o.type) (a:=none) (a2:=a2) (n:=0) (cap:=0) (cap2:=cap2) hd hinf (by omega)
 refine upon_value_ok (c:=.slice none (0+0) 0) (w':=w) ?_ (hr st w .nils _ _ hc ⟨fun _ _ h=>h,fun _ _ _=>rfl⟩ .nils ⟨rfl,rfl⟩)
 simp[execOp,ho,resolve,invoke,builtin,hxe,hyv,hrun,Result.andThen]
theorem qapp0 (hty:TyOk P ty) {t e:TypeId} {x y:Operand} {ti ei:TyI} {vy:AV} {sz:Nat} {el2:Nat→List AV} {ow:Own} {d:Nat} (k:TR P N ty l0 LD W Q l ((d,.nils)::T) H) (hg:o.guard=none:=by exact rfl)
  (ho:o.op=.call {callee:=.builtin .append,args:= #[x,y],argTypes:= #[t,t]}:=by exact rfl) (hd:o.dst=some d:=by exact rfl) (hN:Nat.ble (d+1) N=true:=by exact rfl) (hon:optN True T (tmpsOf o.op):=by exact True.intro) (hti:ty t=some ti:=by exact rfl) (hk:ti.k=.slice e:=by exact rfl) (hei:ty e=some ei:=by exact rfl) (hsz:ei.size=sz:=by exact rfl) (hpos:Nat.ble 1 sz=true:=by exact rfl)
  (hx:opvL (tmpsOf o.op) T x=some .nils:=by exact rfl) (hy:opvL (tmpsOf o.op) T y=some vy:=by exact rfl) (hvy:asSl sz vy=some (0,el2,ow):=by exact rfl):TR P N ty l0 LD W Q ((nn,o)::l) T H:=by
 subst hsz
 refine TR.hard _ (.inr (by rw[ho];rfl)) hg (by rw[hd];exact hN) hon (hard_app0 hty ho hti hk hei hpos hx hy hvy) ?_ ?_ (fun _ v H' ⟨_,e⟩=>e▸KeepB.refl _) (fun h=>by rw[ho]at h;cases h)
 ·rintro v H' ⟨e,rfl⟩
  cases e
  rw[hd]
  exact k
 ·rintro v H' ⟨e,_⟩
  cases e
end
end Go.Ab
namespace Go.Ab
section
variable {P:Program} {N:Nat} {ty:TypeId→Option TyI} {T:Tmps} {H:AHeap} {Q:APost} {o:Oper} {l0:List Oper} {LD:LDs} {W:Bool} {l:List (Nat×Oper)} {n:Nat}
end
def anyOkK (l:List Oper) (ks σ A τ:List Nat):Bool:=
 A.all (fun a=>A.all fun b=>Nat.beq a b || (ancB (ancsOf l []) a b || pairOkM [] l (ancsOf l []) (fun i=>A.contains i) a b))&&σ.all (fun j=> !A.contains j&& !hardAt l (fun x=>([]:List Nat).contains x) j)&&τ.all (fun t=> !A.contains t)&& !A.isEmpty&&pairsOk (fun a b=>Nat.blt a b) A&&
 A.all fun b=> !hardAt l (fun x=>([]:List Nat).contains x) b || (keepAt l b&&ks.contains b)
section
variable {P:Program} {N:Nat} {ty:TypeId→Option TyI} {T:Tmps} {H:AHeap} {Q:APost}
end
end Go.Ab
