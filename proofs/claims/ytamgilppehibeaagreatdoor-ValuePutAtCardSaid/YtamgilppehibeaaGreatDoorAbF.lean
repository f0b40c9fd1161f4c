/-
  An append to an array that the call owns, with room or without: the answer is owned again.
-/
import Derived.Test.YtamgilppehibeaaGreatDoorAbE
import Derived.Laws.IdiomStrings
import Derived.Lib.BufferWrite
import Derived.Test.YtamgilppehibeaaGreatDoorAbD
import Derived.Test.YtamgilppehibeaaGreatDoorAbB
namespace Go.Ab
section
variable {P:Program} {ty:TypeId→Option TyI} {o:Oper} {F:Operand→Option AV} {H:AHeap}
theorem hard_appV {α:Type} [Inhabited α] (hty:TyOk P ty) (f:α→List AV) (xs ys:List α) {x y:Operand} {t e:TypeId} {ti ei:TyI} {vy:AV} {g cap sz:Nat} {el2:Nat→List AV} {ow:Own} (i:Nat)
  (ho:o.op=.call {callee:=.builtin .append,args:= #[x,y],argTypes:= #[t,t]}) (hti:ty t=some ti) (hk:ti.k=.slice e) (hei:ty e=some ei) (hsz:ei.size=sz) (hpos:Nat.ble 1 sz=true)
  (hx:F x=some (.mslice g 0 xs.length cap)) (hy:F y=some vy) (hvy:asSl sz vy=some (ys.length,el2,ow)) (hel:∀i,i<ys.length→el2 i=f (ys.getD i default)) (hlen:∀i,i<xs.length→(f (xs.getD i default)).length=sz)
  (hroom:cap<xs.length+ys.length) (hcap:xs.length≤cap) (hb:(xs.length+ys.length)*ei.bytes≤140737488355328∧xs.length+ys.length≤9223372036854775807) (hi:H[i]?=some (rowS g e f sz cap xs)):
  AHard P o F H fun r H'=>∃g' cap',xs.length+ys.length≤cap'∧cap'≤maxLen∧r=.ret (.mslice g' 0 (xs.length+ys.length) cap')∧H'=H.set i (rowS g' e f sz cap' (xs++ys)):=by
 intro E st w a r next Q hc hF _ hr _
 obtain⟨⟨d,hd,hkf⟩,-⟩:=hty t ti hti
 rw[hk]at hkf
 obtain rfl:d=.slice e:=hkf
 obtain⟨-,inf,z,hinf,hisz,hby,hz,hzs,hzr,hzo⟩:=hty e ei hei
 have hp:0<sz:=Nat.le_of_ble_eq_true hpos
 have hxv:=hF x _ hx
 generalize hxe:a.eval x=xv at hxv
 cases hxv
 obtain⟨a2,cap2,b2,off2,C2,hyv,hn2,-,h2⟩:=row_of (asSl_rep hvy (hF y vy hy)) hp
 have hc1:=hc.perm (perm_eraseIdx H i _ hi)
 obtain⟨arr,cv,hblk,hrep,hcells,hone,hns⟩:=hc1.ents (rowS g e f sz cap xs) (by simp)
 rw[rowVec_eq]at hrep
 obtain⟨cs,rfl⟩:∃cs,cv=.agg ⟨cs⟩:=by
  cases hrep with
  |vec _ _ cs hl _ _=>exact⟨cs,rfl⟩
 obtain rfl:arr=⟨cs⟩:=hcells.symm
 have hM:cs.length=cap*sz:=by
  cases hrep with
  |vec _ _ _ hl _ _=>exact hl
 generalize hm:ys.length=m at*
 generalize hn:xs.length=n at*
 have hm0:m≠0:=by omega
 obtain rfl:=row_base h2 hm0
 have hfl:∀i,i<(xs++ys).length→(f ((xs++ys).getD i default)).length=sz:=by
  intro i hi
  rw[List.length_append,hm,hn]at hi
  by_cases c:i<n
  ·rw[List.getD_eq_getElem?_getD,List.getElem?_append_left (by omega),←List.getD_eq_getElem?_getD]
   exact hlen i c
  ·rw[List.getD_eq_getElem?_getD,List.getElem?_append_right (by omega),hn,←List.getD_eq_getElem?_getD,←hel (i-n) (by omega)]
   exact h2.len _ (by omega)
 let news:=(List.range (m*sz)).map C2
 let olds:=cs.take (n*sz)
 have hnl:news.length=m*inf.size:=by simp[news,hisz,hsz]
 have hcl:n*sz≤cap*sz:=Nat.mul_le_mul_right _ hcap
 have hol:olds.length=n*sz:=by
  simp only[olds]
  rw[List.length_take]
  omega
 have hnews:∀j v,news[j]?=some v→w.cell? ((⟨b2,off2,none⟩:Addr).add j)=some v:=by
  intro j v hv
  obtain⟨hj,rfl⟩:=map_range_get j v hv
  rw[addr_add]
  exact(h2.cell j hj).2
 have holds:∀j v,olds[j]?=some v→w.cell? ((⟨g,0,none⟩:Addr).add j)=some v:=by
  intro j v hv
  have hj:j<n*sz:=by
   have:=(List.getElem?_eq_some_iff.1 hv).1
   omega
  simp only[olds]at hv
  rw[List.getElem?_take_of_lt hj]at hv
  rw[addr_add]
  unfold World.cell?
  rw[hblk]
  simpa using hv
 have hb1:(n+m)*inf.bytes≤140737488355328:=by rw[hby];exact hb.1
 have h63:((n+m:Nat):Int)≤9223372036854775807:=by omega
 have hr0:=run_append_grow (P:=P) (w:=w) t o.type e inf z hd hinf hz ⟨g,0,none⟩ n cap olds (by rw[hol,hisz,hsz]) holds ⟨b2,off2,none⟩ m cap2 news hnl hnews hroom h63 (growslice_fits hroom hb1)
 have hcg:=grownCap_ge w (n+m) cap e
 have hcm:=grownCap_le_maxLen w (n+m) cap e (by simp only[maxLen];omega)
 generalize grownCap w (n+m) cap e=cap' at hr0 hcg hcm
 generalize harrd:olds.toArray++news.toArray++Builtin.zeroCells z.cells (cap'-(n+m))=arr at hr0
 have hw:(w.drew.alloc (.cells arr e)).heap[w.heap.size]?=some (.cells arr e):=heap_alloc_new w.drew _
 have hal:arr.toList=olds++(news++(Builtin.zeroCells z.cells (cap'-(n+m))).toList):=by
  rw[←harrd]
  simp
 have hlen':arr.toList.length=cap'*sz:=by
  rw[hal]
  simp only[List.length_append,Array.length_toList,size_zeroCells,hzs,hnl,hisz,hsz,hol,←Nat.add_mul]
  congr 1
  omega
 have hone':∀x∈arr.toList,x.oneCell'=true:=by
  intro x hx
  rw[hal]at hx
  rcases List.mem_append.1 hx with hx|hx
  ·exact hone x (by simpa using List.mem_of_mem_take hx)
  rcases List.mem_append.1 hx with hx|hx
  ·simp only[news,List.mem_map,List.mem_range]at hx
   obtain⟨k,hk,rfl⟩:=hx
   exact h2.one k hk
  ·exact zero_one hzo x hx
 have hc2:Conc E st (H.eraseIdx i) w:=Conc.drop_front (F:=[rowS g e f sz cap xs]) hc1
 have hgrow:=Conc.grow (st':=st) (w':=w.drew.alloc (.cells arr e)) (Hn:=[rowS w.heap.size e f sz cap' (xs++ys)]) hc2 rfl rfl rfl (by simp) (fun k hk=>heap_alloc_old w.drew _ hk)
  (fun b o h=>h) (fun b o h=>.inl h) ?_ ?_ (by simp)
 ·refine upon_value_ok (c:=.slice (some ⟨w.heap.size,0,none⟩) (n+m) cap') (w':=w.drew.alloc (.cells arr e)) ?_ (hr st _ (.mslice w.heap.size 0 (n+m) cap') _ _ (hgrow.1.perm (perm_set H i _ _ hi)) hgrow.2 (.mslice _ _ _ _) ⟨_,_,by omega,hcm,rfl,rfl⟩)
  simp[execOp,ho,resolve,invoke,builtin,hxe,hyv,hr0,Result.andThen]
 ·intro e1 he1
  simp at he1
  subst he1
  have hkeep:Keeps st st w (w.drew.alloc (.cells arr e)):=⟨fun _ _ h=>h,fun b o hs=>World.cell?_of_block (w:=w) (heap_alloc_old w.drew _ (hc.stlt b o hs))⟩
  refine⟨arr,.agg arr,hw,rowS_rep hp hlen' hfl (fun i j v hi hv x hx=>?_) hone',rfl,hone',fun o hs=>absurd (hc.stlt _ _ hs) (by omega)⟩
  have hj:j<sz:=by
   rw[←hfl i hi]
   exact(List.getElem?_eq_some_iff.1 hv).1
  rw[List.length_append,hm,hn]at hi
  rw[hal]at hx
  by_cases c:i<n
  ·rw[List.getD_eq_getElem?_getD,List.getElem?_append_left (by omega),←List.getD_eq_getElem?_getD]at hv
   have hlt:i*sz+j<n*sz:=by
    have:(i+1)*sz≤n*sz:=Nat.mul_le_mul_right _ c
    rw[Nat.succ_mul]at this
    omega
   rw[List.getElem?_append_left (by omega)]at hx
   simp only[olds]at hx
   rw[List.getElem?_take_of_lt hlt]at hx
   exact(rowEl_rep hrep (by omega) hv hj hx).mono hkeep
  ·rw[List.getD_eq_getElem?_getD,List.getElem?_append_right (by omega),hn,←List.getD_eq_getElem?_getD,←hel (i-n) (by omega)]at hv
   have hge:n*sz≤i*sz:=Nat.mul_le_mul_right _ (by omega)
   have hsub:(i-n)*sz=i*sz-n*sz:=Nat.sub_mul ..
   have hlt:(i-n)*sz+j<m*sz:=by
    have:(i-n+1)*sz≤m*sz:=Nat.mul_le_mul_right _ (by omega)
    rw[Nat.succ_mul]at this
    omega
   have ej:i*sz+j-n*sz=(i-n)*sz+j:=by omega
   have hnl':news.length=m*sz:=by rw[hnl,hisz,hsz]
   rw[List.getElem?_append_right (by omega),hol,ej,List.getElem?_append_left (by omega)]at hx
   have hx':news[(i-n)*sz+j]?=some (C2 ((i-n)*sz+j)):=by simp[news,hlt]
   rw[hx']at hx
   cases hx
   exact(h2.rep (i-n) j v (by omega) hv).mono hkeep
 ·rintro k ⟨e1,he1,hk⟩
  simp at he1
  subst he1
  have hk:w.heap.size=k:=hk
  subst hk
  simp
end
section
variable {P:Program} {N:Nat} {ty:TypeId→Option TyI} {l0:List Oper} {LD:LDs} {W:Bool} {Q:APost} {nn:Nat} {o:Oper} {l:List (Nat×Oper)} {T:Tmps} {H:AHeap}
theorem qappB {α:Type} [Inhabited α] (hty:TyOk P ty) (f:α→List AV) (xs ys:List α) {x y:Operand} {t e:TypeId} {ti ei:TyI} {vy:AV} {g cap sz:Nat} {el2:Nat→List AV} {ow:Own} {d:Nat} {G:Ent→AHeap}
  (hel:∀i,i<ys.length→el2 i=f (ys.getD i default)) (hlen:∀i,i<xs.length→(f (xs.getD i default)).length=sz) (hcap:xs.length≤cap) (hcm:cap≤maxLen) (hb:(xs.length+ys.length)*ei.bytes≤140737488355328∧xs.length+ys.length≤9223372036854775807)
  (k:∀g' cap',xs.length+ys.length≤cap'→cap'≤maxLen→TR P N ty l0 LD W Q l ((d,.mslice g' 0 (xs.length+ys.length) cap')::T) (G (rowS g' e f sz cap' (xs++ys))))
  (hg:o.guard=none:=by exact rfl) (ho:o.op=.call {callee:=.builtin .append,args:= #[x,y],argTypes:= #[t,t]}:=by exact rfl) (hd:o.dst=some d:=by exact rfl) (hN:Nat.ble (d+1) N=true:=by exact rfl)
  (hon:optN True T (tmpsOf o.op):=by exact True.intro) (hti:ty t=some ti:=by exact rfl) (hk:ti.k=.slice e:=by exact rfl) (hei:ty e=some ei:=by exact rfl) (hsz:ei.size=sz:=by exact rfl) (hpos:Nat.ble 1 sz=true:=by exact rfl)
  (hx:opvL (tmpsOf o.op) T x=some (.mslice g 0 xs.length cap):=by exact rfl) (hy:opvL (tmpsOf o.op) T y=some vy:=by exact rfl) (hvy:asSl sz vy=some (ys.length,el2,ow):=by exact rfl)
  (hi:EntAt H (rowS g e f sz cap xs) G:=by(first|exact .here|exact .there (.here)|exact .there (.there (.here))|exact .there (.there (.there (.here)))|exact .there (.there (.there (.there (.here))))|exact .there (.there (.there (.there (.there (.here)))))|exact .there (.there (.there (.there (.there (.there (.here))))))|exact .there (.there (.there (.there (.there (.there (.there (.here)))))))|exact .there (.there (.there (.there (.there (.there (.there (.there (.here))))))))|exact .there (.there (.there (.there (.there (.there (.there (.there (.there (.here)))))))))|exact .there (.there (.there (.there (.there (.there (.there (.there (.there (.there (.here))))))))))|exact .there (.there (.there (.there (.there (.there (.there (.there (.there (.there (.there (.here)))))))))))|exact .there (.there (.there (.there (.there (.there (.there (.there (.there (.there (.there (.there (.here))))))))))))|exact .there (.there (.there (.there (.there (.there (.there (.there (.there (.there (.there (.there (.there (.here)))))))))))))|exact .there (.there (.there (.there (.there (.there (.there (.there (.there (.there (.there (.there (.there (.there (.here))))))))))))))|exact .there (.there (.there (.there (.there (.there (.there (.there (.there (.there (.there (.there (.there (.there (.there (.here))))))))))))))))) (hkb:LD.kp nn e=false:=by first|exact rfl|decide +kernel):TR P N ty l0 LD W Q ((nn,o)::l) T H:=by
 obtain⟨i,g1,g2⟩:=hi.spec
 by_cases hroom:xs.length+ys.length≤cap
 ·refine qappW (hty:=hty) (f:=f) (xs:=xs) (ys:=ys) (G:=G) hel hlen (Nat.le_refl _) hroom ?_ hg ho hd hN hon hti hk hei hsz hpos hx hy hvy hi hkb
  rw[List.take_length]
  exact k g cap hroom hcm
 ·refine TR.hard _ (.inr (by rw[ho];rfl)) hg (by rw[hd];exact hN) hon (hard_appV hty f xs ys i ho hti hk hei hsz hpos hx hy hvy hel hlen (by omega) hcap hb g1) ?_ ?_ (fun _ v H' ⟨_,_,_,_,_,e⟩=>e▸KeepB.setBox g1 hkb _) (fun h=>by rw[ho]at h;cases h)
  ·rintro v H' ⟨g',cap',h1,h2,e,rfl⟩
   cases e
   rw[hd,←g2]
   exact k g' cap' h1 h2
  ·rintro v H' ⟨g',cap',_,_,e,_⟩
   cases e
end
def byE (c:UInt8):List AV:=[.int .u8 (c.toNat:Nat)]
noncomputable abbrev rowY (g:Nat) (e:TypeId) (cap:Nat) (xs:List UInt8):Ent:=rowS g e byE 1 cap xs
section
variable {P:Program} {N:Nat} {ty:TypeId→Option TyI} {l0:List Oper} {LD:LDs} {W:Bool} {Q:APost} {n:Nat} {o:Oper} {l:List (Nat×Oper)} {T:Tmps} {H:AHeap}
theorem qldY (xs:List UInt8) (i:Nat) {t:TypeId} {y:Operand} {ti:TyI} {g off cap:Nat} {e:TypeId} {d:Nat} {kk:IntKind}
  (hoff:off=i) (k:TR P N ty l0 LD W Q l ((d,.int .u8 ((xs.getD i 0).toNat:Nat))::T) H) (hi:i<xs.length) (hc:xs.length≤cap)
  (hg:o.guard=none:=by exact rfl) (ho:o.op=.load t y:=by exact rfl) (hd:o.dst=some d:=by exact rfl) (hN:Nat.ble (d+1) N=true:=by exact rfl) (hx:opvL (tmpsOf o.op) T y=some (.ptr g off):=by exact rfl)
  (hon:optN True T (tmpsOf o.op):=by(first|exact True.intro|exact⟨id,True.intro⟩|exact⟨id,id,True.intro⟩|exact⟨id,id,id,True.intro⟩)) (ht:ty t=some ti:=by exact rfl) (hk:ti.k=.int kk:=by exact rfl)
  (hm:rowY g e cap xs∈H:=by(first|exact(List.Mem.head _)|exact List.Mem.tail _ ((List.Mem.head _))|exact List.Mem.tail _ (List.Mem.tail _ ((List.Mem.head _)))|exact List.Mem.tail _ (List.Mem.tail _ (List.Mem.tail _ ((List.Mem.head _))))|exact List.Mem.tail _ (List.Mem.tail _ (List.Mem.tail _ (List.Mem.tail _ ((List.Mem.head _)))))|exact List.Mem.tail _ (List.Mem.tail _ (List.Mem.tail _ (List.Mem.tail _ (List.Mem.tail _ ((List.Mem.head _))))))|exact List.Mem.tail _ (List.Mem.tail _ (List.Mem.tail _ (List.Mem.tail _ (List.Mem.tail _ (List.Mem.tail _ ((List.Mem.head _)))))))|exact List.Mem.tail _ (List.Mem.tail _ (List.Mem.tail _ (List.Mem.tail _ (List.Mem.tail _ (List.Mem.tail _ (List.Mem.tail _ ((List.Mem.head _))))))))|exact List.Mem.tail _ (List.Mem.tail _ (List.Mem.tail _ (List.Mem.tail _ (List.Mem.tail _ (List.Mem.tail _ (List.Mem.tail _ (List.Mem.tail _ ((List.Mem.head _))))))))))) (hl:LD.ld n e=true:=by first|exact rfl|decide +kernel):TR P N ty l0 LD W Q ((n,o)::l) T H:=by
 subst hoff
 have hxi:xs[off]?=some (xs.getD off 0):=by rw[List.getD_eq_getElem?_getD,List.getElem?_eq_getElem hi];rfl
 refine TR.hload t y ti g off e (rowVec byE 1 cap xs) (off<cap*1) _ d hg ho hd hN hx hon ht hm ?_ (by omega) hl k
 rw[rowVec_eq]
 unfold boxAt
 simp only[hk]
 have h:=rowEl_at (f:=byE) (sz:=1) (k:=0) hxi (by decide)
 rw[Nat.mul_one,Nat.add_zero]at h
 rw[h]
 rfl
theorem qstY (hty:TyOk P ty) (xs:List UInt8) (i:Nat) (x:UInt8) {t:TypeId} {y z:Operand} {ti:TyI} {g off cap:Nat} {e:TypeId} {F:Ent→AHeap}
  (hoff:off=i) (k:TR P N ty l0 LD W Q l T (F (rowY g e cap (xs.set i x)))) (hi:i<xs.length) (hc:xs.length≤cap)
  (hg:o.guard=none:=by exact rfl) (ho:o.op=.store t y z:=by exact rfl) (hd:o.dst=none:=by exact rfl) (hon:optN True T (tmpsOf o.op):=by(first|exact True.intro|exact⟨id,True.intro⟩|exact⟨id,id,True.intro⟩|exact⟨id,id,id,True.intro⟩)) (hx:opvL (tmpsOf o.op) T y=some (.ptr g off):=by exact rfl)
  (hy:opvL (tmpsOf o.op) T z=some (.int .u8 (x.toNat:Nat)):=by exact rfl) (ht:ty t=some ti:=by exact rfl) (hsz:ti.size=1:=by exact rfl) (hi':EntAt H (rowY g e cap xs) F:=by(first|exact .here|exact .there (.here)|exact .there (.there (.here))|exact .there (.there (.there (.here)))|exact .there (.there (.there (.there (.here))))|exact .there (.there (.there (.there (.there (.here)))))|exact .there (.there (.there (.there (.there (.there (.here))))))|exact .there (.there (.there (.there (.there (.there (.there (.here)))))))|exact .there (.there (.there (.there (.there (.there (.there (.there (.here))))))))|exact .there (.there (.there (.there (.there (.there (.there (.there (.there (.here)))))))))|exact .there (.there (.there (.there (.there (.there (.there (.there (.there (.there (.here))))))))))|exact .there (.there (.there (.there (.there (.there (.there (.there (.there (.there (.there (.here)))))))))))|exact .there (.there (.there (.there (.there (.there (.there (.there (.there (.there (.there (.there (.here))))))))))))|exact .there (.there (.there (.there (.there (.there (.there (.there (.there (.there (.there (.there (.there (.here)))))))))))))|exact .there (.there (.there (.there (.there (.there (.there (.there (.there (.there (.there (.there (.there (.there (.here))))))))))))))|exact .there (.there (.there (.there (.there (.there (.there (.there (.there (.there (.there (.there (.there (.there (.there (.here)))))))))))))))))
  (hkb:LD.kp n e=false:=by first|exact rfl|decide +kernel):TR P N ty l0 LD W Q ((n,o)::l) T H:=by
 subst hoff
 obtain⟨p,h1,h2⟩:=hi'.spec
 rw[h2]at k
 refine TR.store hty (u:=rowVec byE 1 cap xs) (u':=rowVec byE 1 cap (xs.set off x)) (p:=off<cap*1) p hg ho hd hon hx hy ht h1 ?_ (by omega) k hkb
 rw[rowVec_eq,rowVec_eq]
 unfold boxSet
 simp only[hsz,AV.one,Bool.and_true]
 have e:=rowEl_set (f:=byE) (xs:=xs) (x:=x) (sz:=1) hi rfl (by decide)
 have e2:(fun j=>if j=off then AV.int .u8 ((x.toNat:Nat):Int) else rowEl byE 1 xs j)=rowEl byE 1 (xs.set off x):=by
  rw[←e]
  funext j
  by_cases h:j=off
  ·subst h
   simp[byE]
  ·have:¬(off*1≤j∧j<off*1+(byE x).length):=by
    simp only[byE,List.length_singleton]
    omega
   rw[if_neg h,if_neg this]
 rw[e2]
 rfl
end
section
variable {P:Program} {ty:TypeId→Option TyI} {o:Oper} {F:Operand→Option AV} {H:AHeap}
theorem hard_bstr (hty:TyOk P ty) {ts td e:TypeId} {x:Operand} {is id ie:TyI} {g cap:Nat} {xs:List UInt8} (i:Nat) (ho:o.op=.convert ts td x) (hs:ty ts=some is) (hsk:is.k=.slice e) (he:ty e=some ie) (hek:ie.k=.int .u8)
  (ht:ty td=some id) (htk:id.k=.str) (hx:F x=some (.mslice g 0 xs.length cap)) (hc':xs.length≤cap) (hi:H[i]?=some (rowY g e cap xs)):AHard P o F H fun r H'=>r=.ret (.str xs)∧H'=H:=by
 intro E st w a r next Q hc hF _ hr _
 obtain⟨⟨ds,hds,hks⟩,-⟩:=hty ts is hs
 obtain⟨⟨de,hde,hke⟩,-⟩:=hty e ie he
 obtain⟨⟨dd,hdd,hkd⟩,-⟩:=hty td id ht
 rw[hsk]at hks
 rw[hek]at hke
 rw[htk]at hkd
 obtain rfl:ds=.slice e:=hks
 obtain rfl:de=.int .u8:=hke
 obtain rfl:dd=.string:=hkd
 have hxv:=hF x _ hx
 generalize hxe:a.eval x=xv at hxv
 cases hxv
 have hc1:=hc.perm (perm_eraseIdx H i _ hi)
 obtain⟨arr,cv,hblk,hrep,hcells,hone,hns⟩:=hc1.ents (rowY g e cap xs) (by simp)
 rw[rowVec_eq]at hrep
 obtain⟨cs,rfl⟩:∃cs,cv=.agg ⟨cs⟩:=by
  cases hrep with
  |vec _ _ cs hl _ _=>exact⟨cs,rfl⟩
 obtain rfl:arr=⟨cs⟩:=hcells.symm
 have hM:cs.length=cap*1:=by
  cases hrep with
  |vec _ _ _ hl _ _=>exact hl
 have hcell:∀j (hj:j<xs.length),w.cell? ((⟨g,0,none⟩:Addr).add j)=some (.int .u8 (xs[j].toNat:Int)):=fun j hj=>by
  have hx:cs[j*1+0]?=some (cs[j*1+0]'(by omega)):=List.getElem?_eq_getElem _
  have h1:=rowEl_rep hrep (i:=j) (j:=0) (v:=.int .u8 ((xs.getD j 0).toNat:Nat)) hj rfl (by decide) hx
  have h2:=h1.int_eq
  rw[addr_add]
  unfold World.cell?
  rw[hblk]
  simp only[Nat.mul_one,Nat.add_zero]at hx h2
  simp only[Nat.zero_add,List.getElem?_toArray,hx,h2]
  rw[List.getD_eq_getElem?_getD,List.getElem?_eq_getElem hj]
  rfl
 refine upon_value_ok (c:=.string ⟨xs.toArray⟩) (w':=w) ?_ (hr st w (.str xs) _ _ hc (Keeps.refl st w) (.str _) ⟨rfl,rfl⟩)
 simp[execOp,ho,hxe,run_convert_bytes_back w ts td e ⟨g,0,none⟩ cap xs hds hde hdd hcell,Result.andThen]
end
section
variable {P:Program} {N:Nat} {ty:TypeId→Option TyI} {l0:List Oper} {LD:LDs} {Q:APost} {n:Nat} {o:Oper} {l:List (Nat×Oper)} {T:Tmps} {H:AHeap}
theorem qbstr (hty:TyOk P ty) (xs:List UInt8) {ts td e:TypeId} {x:Operand} {is id ie:TyI} {g cap:Nat} {d:Nat} {G:Ent→AHeap} (hc':xs.length≤cap)
  (k:TR P N ty l0 LD true Q l ((d,.str xs)::T) H) (hg:o.guard=none:=by exact rfl) (ho:o.op=.convert ts td x:=by exact rfl) (hd:o.dst=some d:=by exact rfl) (hN:Nat.ble (d+1) N=true:=by exact rfl)
  (hon:optN True T (tmpsOf o.op):=by exact True.intro) (hs:ty ts=some is:=by exact rfl) (hsk:is.k=.slice e:=by exact rfl) (he:ty e=some ie:=by exact rfl) (hek:ie.k=.int .u8:=by exact rfl)
  (ht:ty td=some id:=by exact rfl) (htk:id.k=.str:=by exact rfl) (hx:opvL (tmpsOf o.op) T x=some (.mslice g 0 xs.length cap):=by exact rfl)
  (hi:EntAt H (rowY g e cap xs) G:=by(first|exact .here|exact .there (.here)|exact .there (.there (.here))|exact .there (.there (.there (.here)))|exact .there (.there (.there (.there (.here))))|exact .there (.there (.there (.there (.there (.here)))))|exact .there (.there (.there (.there (.there (.there (.here))))))|exact .there (.there (.there (.there (.there (.there (.there (.here)))))))|exact .there (.there (.there (.there (.there (.there (.there (.there (.here))))))))|exact .there (.there (.there (.there (.there (.there (.there (.there (.there (.here)))))))))|exact .there (.there (.there (.there (.there (.there (.there (.there (.there (.there (.here))))))))))|exact .there (.there (.there (.there (.there (.there (.there (.there (.there (.there (.there (.here)))))))))))|exact .there (.there (.there (.there (.there (.there (.there (.there (.there (.there (.there (.there (.here))))))))))))|exact .there (.there (.there (.there (.there (.there (.there (.there (.there (.there (.there (.there (.there (.here)))))))))))))|exact .there (.there (.there (.there (.there (.there (.there (.there (.there (.there (.there (.there (.there (.there (.here))))))))))))))|exact .there (.there (.there (.there (.there (.there (.there (.there (.there (.there (.there (.there (.there (.there (.there (.here))))))))))))))))):TR P N ty l0 LD true Q ((n,o)::l) T H:=by
 obtain⟨i,g1,g2⟩:=hi.spec
 refine TR.hard _ (.inl rfl) hg (by rw[hd];exact hN) hon (hard_bstr hty i ho hs hsk he hek ht htk hx hc' g1) ?_ ?_ (fun h=>by rw[ho]at h;cases h) (fun h=>by rw[ho]at h;cases h)
 ·rintro v H' ⟨e,rfl⟩
  cases e
  rw[hd]
  exact k
 ·rintro v H' ⟨e,_⟩
  cases e
end
section
variable {P:Program} {ty:TypeId→Option TyI} {o:Oper} {F:Operand→Option AV} {H:AHeap}
theorem hard_copyS (hty:TyOk P ty) (s:List UInt8) {x y:Operand} {t t2 e:TypeId} {ti ei:TyI} {g cap:Nat} {el:Nat→AV} (i:Nat)
  (ho:o.op=.call {callee:=.builtin .copy,args:= #[x,y],argTypes:= #[t,t2]}) (hti:ty t=some ti) (hk:ti.k=.slice e) (hei:ty e=some ei) (hsz:ei.size=1)
  (hx:F x=some (.mslice g 0 s.length cap)) (hy:F y=some (.str s)) (hi:H[i]?=some (rowM g e s.length el)):
  AHard P o F H fun r H'=>r=.ret (.int .i64 s.length)∧H'=H.set i (rowY g e s.length s):=by
 intro E st w a r next Q hc hF _ hr _
 obtain⟨⟨d,hd,hkf⟩,-⟩:=hty t ti hti
 rw[hk]at hkf
 obtain rfl:d=.slice e:=hkf
 obtain⟨-,inf,z,hinf,hisz,-⟩:=hty e ei hei
 have hs1:(P.info? e).map (·.size)=some 1:=by rw[hinf];simp[hisz,hsz]
 have hxv:=hF x _ hx
 generalize hxe:a.eval x=xv at hxv
 cases hxv
 have hyv:=(hF y _ hy).str_eq
 have hc1:=hc.perm (perm_eraseIdx H i _ hi)
 obtain⟨arr,cv,hblk,hrep,hcells,hone,hns⟩:=hc1.ents (rowM g e s.length el) (by simp)
 obtain⟨cs,rfl⟩:∃cs,cv=.agg ⟨cs⟩:=by
  cases hrep with
  |vec _ _ cs hl _ _=>exact⟨cs,rfl⟩
 obtain rfl:arr=⟨cs⟩:=hcells.symm
 have hM:cs.length=s.length:=by
  cases hrep with
  |vec _ _ _ hl _ _=>exact hl
 have hsz2:(ByteArray.mk s.toArray).size=s.length:=by simp[ByteArray.size]
 have hrun:=Lib.run_copy_row_string (P:=P) w t t2 o.type e g 0 s.length cap ⟨s.toArray⟩ ⟨cs⟩ e hd hs1 hblk (by rw[hsz2];exact Nat.le_refl _) (by rw[hsz2];simp;omega)
 have harr:(List.take 0 (Array.toList ⟨cs⟩)++Lib.byteCells s++List.drop (0+s.length) (Array.toList ⟨cs⟩)).toArray=(⟨Lib.byteCells s⟩:Array Value):=by
  rw[List.take_zero,List.nil_append,Nat.zero_add,List.drop_eq_nil_of_le (by simp;omega),List.append_nil]
 rw[hsz2]at hrun
 have hd2:(ByteArray.mk s.toArray).data.toList=s:=rfl
 rw[hd2,harr]at hrun
 have hbl:(Lib.byteCells s).length=s.length:=Lib.byteCells_length s
 have hb1:∀z∈Lib.byteCells s,z.oneCell'=true:=Lib.byteCells_one s
 have hover:Rep st w (rowVec byE 1 s.length s) (.agg ⟨Lib.byteCells s⟩):=by
  refine rowS_rep Nat.one_pos (by rw[hbl,Nat.mul_one]) (fun _ _=>rfl) (fun i j v hi hv x hx=>?_) hb1
  obtain rfl:j=0:=by
   have:=(List.getElem?_eq_some_iff.1 hv).1
   simp only[byE,List.length_singleton]at this
   omega
  have hv:AV.int .u8 ((s.getD i default).toNat:Nat)=v:=by
   simp only[byE]at hv
   exact Option.some.inj hv
  rw[Nat.mul_one,Nat.add_zero]at hx
  have hx2:x=.int .u8 ((s.getD i default).toNat:Nat):=by
   unfold Lib.byteCells at hx
   rw[List.getElem?_map,List.getElem?_eq_getElem hi]at hx
   rw[List.getD_eq_getElem?_getD,List.getElem?_eq_getElem hi]
   exact(Option.some.inj hx).symm
  rw[←hv,hx2]
  exact .int _ _
 have hst:=hc1.store (u':=rowVec byE 1 s.length s) (cv':=.agg ⟨Lib.byteCells s⟩) hblk hover rfl hb1
 refine upon_value_ok (c:=.int .i64 s.length) (w':=w.setRow g ⟨Lib.byteCells s⟩) ?_ (hr st _ (.int .i64 s.length) _ _ (hst.1.perm (perm_set H i _ _ hi)) hst.2 (.int _ _) ⟨rfl,rfl⟩)
 simp[execOp,ho,resolve,invoke,builtin,hxe,hyv,hrun,Result.andThen,goInt_nat]
end
section
variable {P:Program} {N:Nat} {ty:TypeId→Option TyI} {l0:List Oper} {LD:LDs} {W:Bool} {Q:APost} {nn:Nat} {o:Oper} {l:List (Nat×Oper)} {T:Tmps} {H:AHeap}
theorem qcopyS (hty:TyOk P ty) (s:List UInt8) {x y:Operand} {t t2 e:TypeId} {ti ei:TyI} {g cap:Nat} {el:Nat→AV} {G:Ent→AHeap}
  (k:TR P N ty l0 LD W Q l (putO o.dst (.int .i64 s.length) T) (G (rowY g e s.length s))) (hi:EntAt H (rowM g e s.length el) G:=by(first|exact .here|exact .there (.here)|exact .there (.there (.here))|exact .there (.there (.there (.here)))|exact .there (.there (.there (.there (.here))))|exact .there (.there (.there (.there (.there (.here)))))|exact .there (.there (.there (.there (.there (.there (.here))))))|exact .there (.there (.there (.there (.there (.there (.there (.here)))))))|exact .there (.there (.there (.there (.there (.there (.there (.there (.here))))))))|exact .there (.there (.there (.there (.there (.there (.there (.there (.there (.here)))))))))|exact .there (.there (.there (.there (.there (.there (.there (.there (.there (.there (.here))))))))))|exact .there (.there (.there (.there (.there (.there (.there (.there (.there (.there (.there (.here)))))))))))|exact .there (.there (.there (.there (.there (.there (.there (.there (.there (.there (.there (.there (.here))))))))))))|exact .there (.there (.there (.there (.there (.there (.there (.there (.there (.there (.there (.there (.there (.here)))))))))))))|exact .there (.there (.there (.there (.there (.there (.there (.there (.there (.there (.there (.there (.there (.there (.here))))))))))))))|exact .there (.there (.there (.there (.there (.there (.there (.there (.there (.there (.there (.there (.there (.there (.there (.here)))))))))))))))))
  (hg:o.guard=none:=by exact rfl) (ho:o.op=.call {callee:=.builtin .copy,args:= #[x,y],argTypes:= #[t,t2]}:=by exact rfl) (hN:dstOk o.dst N=true:=by exact rfl)
  (hon:optN True T (tmpsOf o.op):=by exact True.intro) (hti:ty t=some ti:=by exact rfl) (hk:ti.k=.slice e:=by exact rfl) (hei:ty e=some ei:=by exact rfl) (hsz:ei.size=1:=by exact rfl)
  (hx:opvL (tmpsOf o.op) T x=some (.mslice g 0 s.length cap):=by exact rfl) (hy:opvL (tmpsOf o.op) T y=some (.str s):=by exact rfl) (hkb:LD.kp nn e=false:=by exact rfl):TR P N ty l0 LD W Q ((nn,o)::l) T H:=by
 obtain⟨i,g1,g2⟩:=hi.spec
 rw[g2]at k
 refine TR.hard _ (.inr (by rw[ho];rfl)) hg hN hon (hard_copyS hty s i ho hti hk hei hsz hx hy g1) ?_ ?_ (fun _ v H' ⟨_,e⟩=>e▸KeepB.setBox g1 hkb _) (fun h=>by rw[ho]at h;cases h)
 ·rintro v H' ⟨e,rfl⟩
  cases e
  exact k
 ·rintro v H' ⟨e,_⟩
  cases e
theorem rowY_view {g cap:Nat} {xs:List UInt8} (hc:xs.length≤cap):SubH g cap (rowEl byE 1 xs) (.mslice g 0 xs.length cap) (sl byE 1 xs .view):=by
 have:=SubH.row (g:=g) (m:=cap) (sz:=1) (k:=xs.length) (cap:=cap) (el:=rowEl byE 1 xs) (el2:=fun i=>byE (xs.getD i default)) (by omega) hc (fun _ _=>rfl) (fun i j v hi hv=>by
  obtain rfl:j=0:=by
   have:=(List.getElem?_eq_some_iff.1 hv).1
   simp only[byE,List.length_singleton]at this
   omega
  have hxi:xs[i]?=some (xs.getD i default):=by rw[List.getD_eq_getElem?_getD,List.getElem?_eq_getElem hi];rfl
  rw[rowEl_at hxi (by decide),List.getD_eq_getElem?_getD,hv]
  rfl)
 exact this
theorem rowY_M (g:Nat) (e:TypeId) (cap:Nat) (xs:List UInt8):rowY g e cap xs=rowM g e (cap*1) (rowEl byE 1 xs):=by
 show Ent.box g e (rowVec byE 1 cap xs)=_
 rw[rowVec_eq]
 rfl
theorem awp_freezeY {c:Code} (G1:AHeap) {G2:AHeap} {g cap:Nat} {e:TypeId} {xs:List UInt8} {s:Nat} (hl:lk T s=some (.mslice g 0 xs.length cap)) (hc:xs.length≤cap) (h:AWP P N c ((s,sl byE 1 xs .view)::T) (G1++G2) Q):
  AWP P N c T (G1++rowY g e cap xs::G2) Q:=by
 rw[rowY_M]
 have hv:=rowY_view (g:=g) hc
 rw[←Nat.mul_one cap]at hv
 exact awp_freezeM G1 hl (by simpa using hv) h
theorem oneS {α:Type} [Inhabited α] (f:α→List AV) (x:α) {sz:Nat} {el:Nat→List AV} (h:SubL (el 0) (f x)):Sub (.slice sz 1 el .full) (sl f sz [x] .view):=
 (Sub.view _ _ _ _).trans (Sub.els fun i hi=>by
   have e:i=0:=by omega
   subst e
   exact h)
end
end Go.Ab
namespace Go.Ab
section
variable {P:Program} {N:Nat} {ty:TypeId→Option TyI} {l0:List Oper} {LD:LDs} {W:Bool} {Q:APost} {n:Nat} {o:Oper} {l:List (Nat×Oper)} {T:Tmps} {H:AHeap}
abbrev NCalls (P:Program) (f:FuncId) (vs:List AV) (u:AV):Prop:=ACalls P f vs [] fun r H'=>r=.panic u∧H'=[]
theorem qpan {cf:Operand} {args:Array Operand} {ats:Array TypeId} {f:FuncId} {first captured vs vs0:List AV} {u:AV} (h:NCalls P f vs0 u) (k:Q (.panic u) T H) (hg:o.guard=none:=by exact rfl) (ho:o.op=.call {callee:=.value cf,args:=args,argTypes:=ats}:=by exact rfl)
  (hN:dstOk o.dst N=true:=by exact rfl) (hon:optN True T (tmpsOf o.op):=by exact True.intro) (hf:opvL (tmpsOf o.op) T cf=some (.func (.func f) first captured):=by exact rfl)
  (hm:mapF (opvL (tmpsOf o.op) T) args.toList=some vs:=by exact rfl) (he:first++vs++captured=vs0:=by exact rfl) (hsc:LD.sc n=false:=by exact rfl):TR P N ty l0 LD W Q ((n,o)::l) T H:=by
 subst he
 refine TR.hcall (Hc:=[]) (G:=H) hg ho hN hon hf hm (List.Perm.refl _) h (fun v H' hK=>?_) (fun v H' hK=>?_) (fun v H' hK=>?_) hsc
 ·cases hK.1
 ·obtain⟨e,rfl⟩:=hK
  cases e
  exact k
 ·cases hK.1
theorem qpanH {cf:Operand} {args:Array Operand} {ats:Array TypeId} {f:FuncId} {first captured vs vs0:List AV} {G Hc:AHeap} {u:AV} (h:ACalls P f vs0 Hc fun r H'=>r=.panic u∧H'=[]) (k:Q (.panic u) T G) (hp:AppL G Hc H:=by(first|exact .nil|exact .cons (.nil)|exact .cons (.cons (.nil))|exact .cons (.cons (.cons (.nil)))|exact .cons (.cons (.cons (.cons (.nil))))|exact .cons (.cons (.cons (.cons (.cons (.nil)))))|exact .cons (.cons (.cons (.cons (.cons (.cons (.nil))))))|exact .cons (.cons (.cons (.cons (.cons (.cons (.cons (.nil)))))))|exact .cons (.cons (.cons (.cons (.cons (.cons (.cons (.cons (.nil))))))))|exact .cons (.cons (.cons (.cons (.cons (.cons (.cons (.cons (.cons (.nil)))))))))|exact .cons (.cons (.cons (.cons (.cons (.cons (.cons (.cons (.cons (.cons (.nil))))))))))|exact .cons (.cons (.cons (.cons (.cons (.cons (.cons (.cons (.cons (.cons (.cons (.nil))))))))))))) (hg:o.guard=none:=by exact rfl)
  (ho:o.op=.call {callee:=.value cf,args:=args,argTypes:=ats}:=by exact rfl) (hN:dstOk o.dst N=true:=by exact rfl) (hon:optN True T (tmpsOf o.op):=by exact True.intro) (hf:opvL (tmpsOf o.op) T cf=some (.func (.func f) first captured):=by exact rfl)
  (hm:mapF (opvL (tmpsOf o.op) T) args.toList=some vs:=by exact rfl) (he:first++vs++captured=vs0:=by exact rfl) (hsc:LD.sc n=false:=by exact rfl):TR P N ty l0 LD W Q ((n,o)::l) T H:=by
 subst he
 rw[hp.eq]
 refine TR.hcall (Hc:=Hc) (G:=G) hg ho hN hon hf hm List.perm_append_comm h (fun v H' hK=>?_) (fun v H' hK=>?_) (fun v H' hK=>?_) hsc
 ·cases hK.1
 ·obtain⟨e,rfl⟩:=hK
  cases e
  exact k
 ·cases hK.1
end
end Go.Ab
namespace Go.Ab
section
variable {P:Program} {ty:TypeId→Option TyI} {T:Tmps} {H:AHeap} {Q:APost}
theorem dcalls_of_awp2 {f:FuncId} {fn:Func} {id:Nat} {o o2:Oper} {d d2:Nat} {c:Code} {vs:List AV} {pv:Option AV} {R:AHeap→Prop} (hcb:Callable P f) (hf:P.funcs[f]?=some fn)
  (hb:fn.body=some (.seq (.region id #[o,o2] false) c)) (ho:o.op=.call {callee:=.builtin .recover,args:= #[],argTypes:= #[]}) (hg:o.guard=none) (hd:o.dst=some d) (hr:fn.results= #[])
  (hN:Nat.ble (d+1) fn.ntmps=true) (ho2:o2.op=.assign (.tmp d)) (hg2:o2.guard=none) (hd2:o2.dst=some d2) (hN2:Nat.ble (d2+1) fn.ntmps=true) (hl:Nat.ble vs.length fn.ntmps=true)
  (h:AWP P fn.ntmps c ((d2,pv.getD .nilIface)::(d,pv.getD .nilIface)::args0 0 vs) H fun x _ H'=>isRet x=true∧R H'):DCalls P f vs pv H R:=by
 refine⟨hcb,fun st w xs u hc hx hgl hu=>?_⟩
 have hl':=Nat.le_of_ble_eq_true hl
 refine⟨trivial,fun c₀ cs hm hroom=>?_⟩
 let b:Frame:={(default:Frame)with fn:=f,kind:=.deferred,roundOf:=none}
 have henter:Frame.enter P f ⟨xs⟩ .deferred=b.atR {tmps:=⟨xs⟩++Array.replicate (fn.ntmps-xs.length) undef,defers:=[]} [.code (.seq (.region id #[o,o2] false) c)]:=by
  simp[Frame.enter,Frame.atR,hf,hb,b]
 have hfr0:FR fn.ntmps st w (args0 0 vs) {tmps:=⟨xs⟩++Array.replicate (fn.ntmps-xs.length) undef,defers:=[]}:=by
  refine⟨?_,?_⟩
  ·simp[hx.1];omega
  ·intro t v ht
   obtain⟨_,h2⟩:=lk_args0 vs 0 t v ht
   simp only[Nat.sub_zero]at h2
   have htl:t<xs.length:=by
    have:=(List.getElem?_eq_some_iff.1 h2).1
    rw[hx.1];exact this
   refine⟨xs[t],?_,hx.2 t v _ h2 (by simp[htl])⟩
   rw[Array.getElem?_append_left (by simpa using htl)]
   simp[htl]
 obtain⟨rv,u1,hrec,hrv,hset⟩:∃rv u1,(∀(Q:Exit→Act→List Frame→World→Prop) (a:Act),Q .normal ((a.put (some d) rv).put (some d2) ((a.put (some d) rv).eval (.tmp d))) ({c₀ with mode:=u1}::cs) w→wpOpsSIn (fen none) 0 P #[o,o2] Q (List.range (#[o,o2]:Array Oper).size) a (c₀::cs) w)∧Rep st w (pv.getD .nilIface) rv∧settle u1=.returning:=by
  have hrun:∀a:Act,(execOp a.eval o).run P w=.ok .recover w:=fun a=>by simp[execOp,ho];rfl
  have hab:∀a:Act,∀g,o.about P w a.eval=some g→(fen none).fn g:=fun _ _ _=>trivial
  have hrun2:∀a:Act,(execOp a.eval o2).run P w=.ok (.value (a.eval (.tmp d))) w:=fun a=>by simp[execOp,ho2]
  have hab2:∀a:Act,∀g,o2.about P w a.eval=some g→(fen none).fn g:=fun _ _ _=>trivial
  cases pv with
  |none=>
   have hu':c₀.mode=.returning:=hm.trans hu
   refine⟨.nilIface,.returning,fun Q a hq=>?_,.nilIface,rfl⟩
   have hc0:({c₀ with mode:=.returning}:Frame)=c₀:=by rw[←hu']
   rw[hc0]at hq
   have hrn:recoverD (c₀::cs)=none:=by simp[recoverD,hu']
   show wpOpsSIn (fen none) 0 P #[o,o2] Q [0,1] a (c₀::cs) w
   simp only[wpOpsSIn,List.getElem?_toArray,List.getElem?_cons_zero,List.getElem?_cons_succ,wanted_none hg,wanted_none hg2,if_true,hrun,hrun2,hrn,hd,hd2]
   exact⟨hab a,hab2 _,hq⟩
  |some v=>
   obtain⟨cv,hu1,hv⟩:=hu
   have hu':c₀.mode=.panicking [{v:=cv,recovered:=false}]:=hm.trans hu1
   refine⟨cv,.panicking [{v:=cv,recovered:=true}],fun Q a hq=>?_,hv,rfl⟩
   have hrn:recoverD (c₀::cs)=some (cv,{c₀ with mode:=.panicking [{v:=cv,recovered:=true}]}::cs):=by simp[recoverD,hu']
   show wpOpsSIn (fen none) 0 P #[o,o2] Q [0,1] a (c₀::cs) w
   simp only[wpOpsSIn,List.getElem?_toArray,List.getElem?_cons_zero,List.getElem?_cons_succ,wanted_none hg,wanted_none hg2,if_true,hrun,hrun2,hrn,hd,hd2]
   exact⟨hab a,hab2 _,hq⟩
 have hwp:(Code.seq (.region id #[o,o2] false) c).wpSIn (fen none) 0 P (fun e a' cs' w'=>cs'={c₀ with mode:=u1}::cs∧Post (Env0.of w st H) fn.ntmps none ⟨w.heap.size,[]⟩ (fun x _ H'=>isRet x=true∧R H') e a' w')
   {tmps:=⟨xs⟩++Array.replicate (fn.ntmps-xs.length) undef,defers:=[]} (c₀::cs) w:=by
  refine wpSIn_seq (wpSIn_region (hrec _ _ ?_))
  refine wpSIn_of_wpIn rfl (wpIn_mono (h (Env0.of w st H) st w _ none ⟨w.heap.size,[]⟩ hc ((hfr0.put hN hrv).put hN2 (opv_rep (x:=.tmp d) (hfr0.put hN hrv) (by simp[opv,lk]))) (Fr.none_nil hgl)) fun e a' w' hp=>⟨rfl,hp⟩)
 obtain⟨e,a',cs',w',hlen,⟨hcs,hq⟩,harr⟩:=hwp b [] rfl rfl trivial hroom
 rw[←henter]at harr
 subst hcs
 have fin:∀todo,StepsIn (Machine.fenced P (fen none)) P (lone (Frame.enter P f ⟨xs⟩ .deferred) (c₀::cs) w) (lone {b.atR a' todo with mode:=.returning} ({c₀ with mode:=u1}::cs) w')→
   (∃st' T' H' x,Conc (Env0.of w st H) st' H' w'∧FR fn.ntmps st' w' T' a'∧Fr none ⟨w.heap.size,[]⟩ H' w' a'.defers∧isRet x=true∧R H')→
   ∃e u' w' fr,(∃v,e=.returned v∧settle u'=.returning∧∃st' H',Conc (Env0.of w st H) st' H' w'∧R H')∧
    ComesIn (Machine.fenced P (fen none)) P (lone (Frame.enter P f ⟨xs⟩ .deferred) (c₀::cs) w) (lone fr ({c₀ with mode:=u'}::cs) w') e∧fr.kind=.deferred∧fr.fn=f∧fr.going P w' e:=by
  rintro todo hs ⟨st',T',H',x,g1,g2,⟨ms,hms,g3⟩,g4,g5⟩
  rw[List.append_nil]at hms
  have hroom':(fen none).room (({c₀ with mode:=u1}::cs).length+1+0):=by simpa using hroom
  obtain⟨w2,k1,k2,k3⟩:=going_marks (P:=P) (b.atR a' todo) ({c₀ with mode:=u1}::cs) hroom' ms w' g3 g1
  have e1:({b.atR a' todo with mode:=.returning}:Frame)={b.atR a' todo with mode:=.returning,defers:=ms}:=by
   rw[←hms];rfl
  rw[e1]at hs
  have hres:(results fn a'.tmps).run P w2=.ok (.tuple #[]) w2:=by
   rw[results_eq,hr]
   simp
  exact⟨.returned (.tuple #[]),u1,w2,_,⟨_,rfl,hset,st',H',k2,g5⟩,StepsIn.trans hs k1,rfl,rfl,rfl,rfl,fn,hf,hres⟩
 cases e with
 |outgrown=>exact hq.elim
 |normal=>
  obtain⟨st',T',H',x,g1,g2,g3,g4,g5,g6⟩:=hq
  refine fin [] (StepsIn.trans harr (.one (fenced_calm (fr:=b.atR a' []) (n:=0) trivial (by simpa using hroom) rfl) (stepR_end rfl))) ⟨st',T',H',x,g1,g2,g3,g5,g6⟩
 |ret=>
  obtain⟨todo,hs⟩:=harr.1 rfl
  obtain⟨st',T',H',x,g1,g2,g3,g4,g5,g6⟩:=hq
  exact fin todo hs ⟨st',T',H',x,g1,g2,g3,g5,g6⟩
 |panic ch=>
  obtain⟨st',T',H',x,g1,g2,g3,g4,g5,g6⟩:=hq
  cases x<;>first|exact g4.elim|cases g5
 |exit i=>
  obtain⟨st',T',H',x,g1,g2,g3,g4,g5,g6⟩:=hq
  cases x<;>first|exact g4.elim|cases g5
 |goto l=>
  obtain⟨st',T',H',x,g1,g2,g3,g4,g5,g6⟩:=hq
  cases x<;>first|exact g4.elim|cases g5
end
end Go.Ab
