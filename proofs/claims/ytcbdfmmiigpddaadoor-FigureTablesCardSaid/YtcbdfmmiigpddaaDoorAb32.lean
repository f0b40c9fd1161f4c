/-
  Arrays of words that a call owns: parts of them, copies into them, elements appended where there is room.
-/
import Derived.Test.YtcbdfmmiigpddaaDoorAb31
import Derived.Laws.CopyRow
import Derived.Laws.IdiomCopy
namespace Go.Ab
def numE (k:IntKind) (x:Nat):List AV:=[.int k x]
def rowN (k:IntKind) (g:Nat) (t:TypeId) (xs:List Nat):Ent:=rowM g t xs.length fun j=>.int k (xs.getD j 0:Nat)
theorem rowN_put {k:IntKind} {g:Nat} {t:TypeId} {xs:List Nat} {j v:Nat} (h:j<xs.length):Ent.box g t (.vec xs.length fun i=>if i=j then .int k (v:Int) else .int k (xs.getD i 0:Nat))=rowN k g t (xs.set j v):=by
 unfold rowN rowM
 rw[List.length_set]
 congr 2
 funext i
 simp only[List.getD_eq_getElem?_getD,List.getElem?_set]
 by_cases e:i=j
 ·subst e
  simp[h]
 ·rw[if_neg e,if_neg (fun h=>e h.symm)]
theorem rowN_set {k:IntKind} {g:Nat} {t:TypeId} {xs:List Nat} {j v:Nat} (h:j<xs.length):Ent.box g t (.vec xs.length fun i=>.int k (if i=j then(v:Int) else(xs.getD i 0:Nat)))=Ent.box g t (.vec (xs.set j v).length fun i=>.int k ((xs.set j v).getD i 0:Nat)):=by
 rw[List.length_set]
 congr 2
 funext i
 simp only[List.getD_eq_getElem?_getD,List.getElem?_set]
 by_cases e:i=j
 ·subst e
  simp[h]
 ·rw[if_neg e,if_neg (fun h=>e h.symm)]
theorem SubH.rowAt {g m sz off k cap:Nat} {el:Nat→AV} {el2:Nat→List AV} (hm:off+k*sz≤m) (hk:k≤cap) (h2:∀i,i<k→(el2 i).length=sz) (h:∀i j v,i<k→(el2 i)[j]?=some v→v=el (off+(i*sz+j))):SubH g m el (.mslice g off k cap) (.slice sz k el2 .view):=by
 intro st w hh c hc
 cases hc
 have lt:∀i j,i<k→j<sz→off+(i*sz+j)<m:=fun i j hi hj=>by
  have h1:(i+1)*sz≤k*sz:=Nat.mul_le_mul_right _ hi
  rw[Nat.succ_mul]at h1
  omega
 have hx:∀i j,i<k→j<sz→st g (off+(i*sz+j))∧w.cell? ⟨g,off+(i*sz+j),none⟩=some ((w.cell? ⟨g,off+(i*sz+j),none⟩).getD default)∧Rep st w (el (off+(i*sz+j))) ((w.cell? ⟨g,off+(i*sz+j),none⟩).getD default)∧((w.cell? ⟨g,off+(i*sz+j),none⟩).getD default).oneCell'=true:=fun i j hi hj=>by
  obtain⟨x,h3,h4,h5,h6⟩:=hh _ (lt i j hi hj)
  rw[h4]
  exact⟨h3,rfl,h5,h6⟩
 refine .slice sz k el2 .view (some ⟨g,off,none⟩) cap g off (fun i j=>(w.cell? ⟨g,off+(i*sz+j),none⟩).getD default) hk (.inr rfl) h2 (fun i j hi hj=>⟨(hx i j hi hj).1,(hx i j hi hj).2.1⟩) (fun i j v hi hv=>?_) trivial (fun i j hi hj=>(hx i j hi hj).2.2.2)
 have hj:j<sz:=by rw[←h2 i hi];exact(List.getElem?_eq_some_iff.1 hv).1
 rw[h i j v hi hv]
 exact(hx i j hi hj).2.2.1
theorem rowN_view {k:IntKind} {g off n cap:Nat} {xs:List Nat} (h:off+n≤xs.length) (hc:n≤cap):SubH g xs.length (fun j=>.int k (xs.getD j 0:Nat)) (.mslice g off n cap) (sl (numE k) 1 ((xs.drop off).take n) .view):=by
 have e:((xs.drop off).take n).length=n:=by rw[List.length_take,List.length_drop];omega
 unfold sl
 rw[e]
 refine SubH.rowAt (by omega) hc (fun _ _=>rfl) fun i j v hi hv=>?_
 match j,hv with
 |0,hv=>
  cases hv
  have e1:((xs.drop off).take n).getD i default=xs.getD (off+(i*1+0)) 0:=by
   rw[List.getD_eq_getElem?_getD,List.getElem?_take,if_pos hi,List.getElem?_drop,Nat.mul_one,Nat.add_zero,List.getD_eq_getElem?_getD]
   rfl
  rw[e1]
 |j+1,hv=>cases hv
theorem ACalls.lend {P:Program} {ι:Type} {f:FuncId} {vs vs':List AV} {u:ι→AV} {g m:Nat} {t:TypeId} {el:Nat→AV} (hu:∀i,Flat (u i)) (h:ACalls P f vs' [] fun r H'=>∃i,r=.ret (u i)∧H'=[]) (hs:SubHL g m el vs vs'):
  ACalls P f vs [rowM g t m el] fun r H'=>∃i,r=.ret (u i)∧H'=[rowM g t m el]:=by
 refine⟨h.1,fun st w xs hc hx hg=>?_⟩
 obtain⟨st',c1,k1,hh⟩:=Conc.freezeM (G1:=[]) (G2:=[]) hc
 have hx':RepL st' w vs' xs:=⟨by rw[hx.1,hs.len],fun j v' x hv' hxx=>by
  have hj:j<vs.length:=by rw[←hs.len];exact(List.getElem?_eq_some_iff.1 hv').1
  exact hs.at' j _ v' (List.getElem?_eq_getElem hj) hv' st' w hh x ((hx.2 j _ x (List.getElem?_eq_getElem hj) hxx).mono k1)⟩
 refine(h.2 st' w xs c1.start hx' (hg.sub fun _ ⟨e,he,_⟩=>absurd he List.not_mem_nil)).mono fun e w' hp=>?_
 cases e with
 |outgrown=>exact hp.elim
 |returned v=>
  obtain⟨st2,r,H2,d1,d2,i,rfl,rfl⟩:=hp
  have hno:∀k,¬(Env0.of w st' []).O k:=fun k ⟨e,he,_⟩=>absurd he List.not_mem_nil
  refine⟨st,.ret (u i),[rowM g t m el],⟨d1.os,d1.tape,d1.output,d1.size,fun k hk _=>d1.old k hk (hno k),fun b o hb=>d1.keep b o (k1.sub b o hb),fun _ _ h=>h,fun _ _ h=>.inl h,fun b o hb=>Nat.lt_of_lt_of_le (hc.stlt b o hb) d1.size,fun k hk=>.inl hk,fun k hk=>Nat.lt_of_lt_of_le (hc.ownlt k hk) d1.size,fun e he=>?_,hc.sep,fun b o hs hk=>(hk hs).same (d1.old b (hc.stlt b o hs) (hno b))⟩,hu i _ _ _ _ _ d2,i,rfl,rfl⟩
  refine Ent.holds_keep (w:=w) ⟨fun _ _ h=>h,fun b o hb=>d1.keep b o (k1.sub b o hb)⟩ (hc.ents e he) (fun b hb=>d1.old b (hc.ownlt b ⟨e,he,hb⟩) (hno b)) fun _ _ _ h=>h
 |panicked v=>
  obtain⟨st2,r,H2,d1,d2,i,rfl,rfl⟩:=hp
  exact d2.elim
theorem rep_over {st:Stab} {w:World} {M off:Nat} {el el2:Nat→AV} {cs news:List Value} (h:Rep st w (.vec M el) (.agg ⟨cs⟩)) (hf:off+news.length≤M) (hr:∀j v,news[j]?=some v→Rep st w (el2 j) v) (h1:∀v∈news,v.oneCell'=true):
  Rep st w (.vec M fun j=>if off≤j∧j<off+news.length then el2 (j-off) else el j) (.agg ⟨cs.take off++news++cs.drop (off+news.length)⟩):=by
 cases h with
 |vec _ _ _ hl hcr hone=>
  have ht:(cs.take off).length=off:=by rw[List.length_take];omega
  refine .vec M _ _ (by simp only[List.length_append,List.length_take,List.length_drop];omega) (fun j x hx=>?_) (fun z hz=>?_)
  ·by_cases c1:j<off
   ·rw[if_neg (by omega)]
    rw[List.append_assoc,List.getElem?_append_left (by omega),List.getElem?_take,if_pos c1]at hx
    exact hcr j x hx
   ·by_cases c2:j<off+news.length
    ·rw[if_pos ⟨by omega,c2⟩]
     rw[List.append_assoc,List.getElem?_append_right (by omega),ht,List.getElem?_append_left (by omega)]at hx
     exact hr _ x hx
    ·rw[if_neg (by omega)]
     rw[List.append_assoc,List.getElem?_append_right (by omega),ht,List.getElem?_append_right (by omega),List.getElem?_drop]at hx
     exact hcr j x (by rw[←hx];congr 1;omega)
  ·rcases List.mem_append.1 hz with hz|hz
   ·rcases List.mem_append.1 hz with hz|hz
    ·exact hone z (List.mem_of_mem_take hz)
    ·exact h1 z hz
   ·exact hone z (List.mem_of_mem_drop hz)
section
variable {P:Program} {ty:TypeId→Option TyI} {o:Oper} {F:Operand→Option AV} {H:AHeap}
theorem goInt_nat (n:Nat):goInt n=.int .i64 n:=rfl
theorem hard_copy (hty:TyOk P ty) {x y:Operand} {t t2 e:TypeId} {ti ei:TyI} {g off n cap m M:Nat} {el:Nat→AV} {el2:Nat→List AV} {ow:Own} {vy:AV} (i:Nat)
  (ho:o.op=.call {callee:=.builtin .copy,args:= #[x,y],argTypes:= #[t,t2]}) (hti:ty t=some ti) (hk:ti.k=.slice e) (hei:ty e=some ei) (hsz:ei.size=1)
  (hx:F x=some (.mslice g off n cap)) (hy:F y=some vy) (hvy:asSl 1 vy=some (m,el2,ow)) (hnm:n=m) (hfit:off+n≤M) (hi:H[i]?=some (rowM g e M el)):
  AHard P o F H fun r H'=>r=.ret (.int .i64 n)∧H'=H.set i (rowM g e M fun j=>if off≤j∧j<off+n then(el2 (j-off)).getD 0 .any else el j):=by
 intro E st w a r next Q hc hF _ hr _
 subst hnm
 obtain⟨⟨d,hd,hkf⟩,-⟩:=hty t ti hti
 rw[hk]at hkf
 obtain rfl:d=.slice e:=hkf
 obtain⟨-,inf,z,hinf,hisz,-⟩:=hty e ei hei
 have hs1:(P.info? e).map (·.size)=some 1:=by rw[hinf];simp[hisz,hsz]
 have hxv:=hF x _ hx
 generalize hxe:a.eval x=xv at hxv
 cases hxv
 obtain⟨a2,cap2,b2,off2,C2,hyv,hn2,-,h2⟩:=row_of (asSl_rep hvy (hF y vy hy)) (Nat.one_pos)
 have hc1:=hc.perm (perm_eraseIdx H i _ hi)
 obtain⟨arr,cv,hblk,hrep,hcells,hone,hns⟩:=hc1.ents (rowM g e M el) (by simp)
 obtain⟨cs,rfl⟩:∃cs,cv=.agg ⟨cs⟩:=by
  cases hrep with
  |vec _ _ cs hl _ _=>exact⟨cs,rfl⟩
 obtain rfl:arr=⟨cs⟩:=hcells.symm
 have hM:cs.length=M:=by
  cases hrep with
  |vec _ _ _ hl _ _=>exact hl
 let news:=(List.range n).map C2
 have hnl:news.length=n:=by simp[news]
 have hnr:∀j v,news[j]?=some v→Rep st w ((el2 j).getD 0 .any) v:=by
  intro j v hv
  obtain⟨hj,rfl⟩:=map_range_get j v hv
  have hl2:=h2.len j hj
  have e0:(el2 j)[0]?=some ((el2 j).getD 0 .any):=by
   rw[List.getD_eq_getElem?_getD,List.getElem?_eq_getElem (by omega)]
   rfl
  have:=h2.rep j 0 _ hj e0
  rwa [Nat.mul_one,Nat.add_zero]at this
 have hn1:∀v∈news,v.oneCell'=true:=by
  intro v hv
  obtain⟨j,hj,rfl⟩:=List.mem_map.1 hv
  exact h2.one j (by simpa using hj)
 have hover:=rep_over (off:=off) (news:=news) (el2:=fun j=>(el2 j).getD 0 .any) hrep (by rw[hnl];exact hfit) hnr hn1
 rw[hnl]at hover
 have fin:∀w',(Builtin.copy_ #[t,t2] o.type #[.slice (some ⟨g,off,none⟩) n cap,a.eval y]).run P w=.ok (goInt n) w'→w'=w.setRow g ⟨cs.take off++news++cs.drop (off+n)⟩→o.wpIn (fen r) 0 P a w next Q:=by
  intro w' hrun hw
  subst hw
  have hst:=hc1.store (u':=.vec M fun j=>if off≤j∧j<off+n then(el2 (j-off)).getD 0 .any else el j) hblk hover rfl (fun z hz=>by
   rcases List.mem_append.1 (show z∈cs.take off++news++cs.drop (off+n) from hz)with hz|hz
   ·rcases List.mem_append.1 hz with hz|hz
    ·exact hone z (List.mem_of_mem_take hz)
    ·exact hn1 z hz
   ·exact hone z (List.mem_of_mem_drop hz))
  refine upon_value_ok (c:=.int .i64 n) (w':=w.setRow g ⟨cs.take off++news++cs.drop (off+n)⟩) ?_ (hr st _ (.int .i64 n) _ _ (hst.1.perm (perm_set H i _ _ hi)) hst.2 (.int _ _) ⟨rfl,rfl⟩)
  simp[execOp,ho,resolve,invoke,builtin,hxe,hrun,Result.andThen,goInt_nat]
 by_cases h0:n=0
 ·subst h0
  have hr0:=run_copy_none (P:=P) w t t2 o.type e (some ⟨g,off,none⟩) a2 0 cap 0 cap2 hd hs1 (by simp)
  rw[←hyv]at hr0
  refine fin w (by simpa using hr0) ?_
  have hz:(⟨cs.take off++news++cs.drop (off+0)⟩:Array Value)=⟨cs⟩:=by simp[news]
  rw[hz,setRow_self w g _ e (0,0) hblk]
 ·obtain rfl:=row_base h2 h0
  have hr0:=run_copy_row (P:=P) w t t2 o.type e g off n cap ⟨b2,off2,none⟩ n cap2 ⟨cs⟩ e news hd hs1 hblk (by rw[hnl];simp) (fun j v hv=>by
   obtain⟨hj,rfl⟩:=map_range_get j v hv
   rw[addr_add]
   exact(h2.cell j (by omega)).2) (by rw[hnl];simp;omega) hn1
  rw[←hyv,hnl]at hr0
  exact fin _ hr0 rfl
theorem hard_appendM (hty:TyOk P ty) {x y:Operand} {t e:TypeId} {ti ei:TyI} {g n cap m M:Nat} {el:Nat→AV} {el2:Nat→List AV} {ow:Own} {vy:AV} (i:Nat)
  (ho:o.op=.call {callee:=.builtin .append,args:= #[x,y],argTypes:= #[t,t]}) (hti:ty t=some ti) (hk:ti.k=.slice e) (hei:ty e=some ei) (hsz:ei.size=1)
  (hx:F x=some (.mslice g 0 n cap)) (hy:F y=some vy) (hvy:asSl 1 vy=some (m,el2,ow)) (hm:0<m) (hroom:n+m≤cap) (hfit:n+m≤M) (hi:H[i]?=some (rowM g e M el)):
  AHard P o F H fun r H'=>r=.ret (.mslice g 0 (n+m) cap)∧H'=H.set i (rowM g e M fun j=>if n≤j∧j<n+m then(el2 (j-n)).getD 0 .any else el j):=by
 intro E st w a r next Q hc hF _ hr _
 obtain⟨⟨d,hd,hkf⟩,-⟩:=hty t ti hti
 rw[hk]at hkf
 obtain rfl:d=.slice e:=hkf
 obtain⟨-,inf,z,hinf,hisz,-⟩:=hty e ei hei
 have hxv:=hF x _ hx
 generalize hxe:a.eval x=xv at hxv
 cases hxv
 obtain⟨a2,cap2,b2,off2,C2,hyv,hn2,-,h2⟩:=row_of (asSl_rep hvy (hF y vy hy)) (Nat.one_pos)
 obtain rfl:=row_base h2 (by omega)
 have hc1:=hc.perm (perm_eraseIdx H i _ hi)
 obtain⟨arr,cv,hblk,hrep,hcells,hone,hns⟩:=hc1.ents (rowM g e M el) (by simp)
 obtain⟨cs,rfl⟩:∃cs,cv=.agg ⟨cs⟩:=by
  cases hrep with
  |vec _ _ cs hl _ _=>exact⟨cs,rfl⟩
 obtain rfl:arr=⟨cs⟩:=hcells.symm
 have hM:cs.length=M:=by
  cases hrep with
  |vec _ _ _ hl _ _=>exact hl
 let news:=(List.range m).map C2
 have hnl:news.length=m:=by simp[news]
 have hnr:∀j v,news[j]?=some v→Rep st w ((el2 j).getD 0 .any) v:=by
  intro j v hv
  obtain⟨hj,rfl⟩:=map_range_get j v hv
  have hl2:=h2.len j hj
  have e0:(el2 j)[0]?=some ((el2 j).getD 0 .any):=by
   rw[List.getD_eq_getElem?_getD,List.getElem?_eq_getElem (by omega)]
   rfl
  have:=h2.rep j 0 _ hj e0
  rwa [Nat.mul_one,Nat.add_zero]at this
 have hn1:∀v∈news,v.oneCell'=true:=by
  intro v hv
  obtain⟨j,hj,rfl⟩:=List.mem_map.1 hv
  exact h2.one j (by simpa using hj)
 have hover:=rep_over (off:=n) (news:=news) (el2:=fun j=>(el2 j).getD 0 .any) hrep (by rw[hnl];exact hfit) hnr hn1
 rw[hnl]at hover
 have e1:n*inf.size=n:=by rw[hisz,hsz,Nat.mul_one]
 have hr0:=run_append_room (P:=P) w t o.type e inf hd hinf g n cap ⟨cs⟩ hblk ⟨b2,off2,none⟩ m cap2 news (by rw[hnl,hisz,hsz,Nat.mul_one]) (fun j v hv=>by
   obtain⟨hj,rfl⟩:=map_range_get j v hv
   rw[addr_add]
   exact(h2.cell j (by omega)).2) hn1 hroom (by rw[e1,hnl];simp;omega)
 rw[e1,hnl,←hyv]at hr0
 have hst:=hc1.store (u':=.vec M fun j=>if n≤j∧j<n+m then(el2 (j-n)).getD 0 .any else el j) hblk hover rfl (fun z hz=>by
  rcases List.mem_append.1 (show z∈cs.take n++news++cs.drop (n+m) from hz)with hz|hz
  ·rcases List.mem_append.1 hz with hz|hz
   ·exact hone z (List.mem_of_mem_take hz)
   ·exact hn1 z hz
  ·exact hone z (List.mem_of_mem_drop hz))
 refine upon_value_ok (c:=.slice (some ⟨g,0,none⟩) (n+m) cap) (w':=w.setRow g ⟨cs.take n++news++cs.drop (n+m)⟩) ?_ (hr st _ (.mslice g 0 (n+m) cap) _ _ (hst.1.perm (perm_set H i _ _ hi)) hst.2 (.mslice _ _ _ _) ⟨rfl,rfl⟩)
 simp[execOp,ho,resolve,invoke,builtin,hxe,hr0,Result.andThen]
end
section
variable {P:Program} {N:Nat} {ty:TypeId→Option TyI} {T:Tmps} {H:AHeap} {Q:APost} {o:Oper} {l0:List Oper} {LD:LDs} {W:Bool} {l:List (Nat×Oper)} {nn:Nat}
theorem qslH (hty:TyOk P ty) {t e:TypeId} {x y:Operand} {i ei:TyI} {m cap g off:Nat} {k:IntKind} {h:Int} {d:Nat}
  (k':TR P N ty l0 LD W Q l ((d,.mslice g off h.toNat cap)::T) H)
  (ho:o.op=.slice t x none (some y) none:=by exact rfl) (hg:o.guard=none:=by exact rfl) (hd:o.dst=some d:=by exact rfl) (hN:Nat.ble (d+1) N=true:=by exact rfl)
  (hon:optN True T (tmpsOf o.op):=by exact True.intro) (hti:ty t=some i:=by exact rfl) (hk:i.k=.slice e:=by exact rfl) (he:ty e=some ei:=by exact rfl)
  (hx:opvL (tmpsOf o.op) T x=some (.mslice g off m cap):=by exact rfl) (hy:opvL (tmpsOf o.op) T y=some (.int k h):=by exact rfl)
  (hh:0≤h∧h≤(cap:Int):=by first|decide|omega):TR P N ty l0 LD W Q ((nn,o)::l) T H:=by
 refine TR.sem (.mslice g off h.toNat cap) d hg hd hN hon (fun st w ρ hF=>?_) k'
 have h2:=(hF y _ hy).int_eq
 have h1:=hF x _ hx
 generalize hxv:ρ x=xv at h1
 cases h1 with
 |mslice _ _ _ _=>
  obtain⟨⟨dd,hdd,hkf⟩,-⟩:=hty t i hti
  obtain⟨-,inf2,_,hinf2,hsz2,-⟩:=hty e ei he
  rw[hk]at hkf
  obtain rfl:dd=.slice e:=hkf
  refine⟨.slice (some ⟨g,off,none⟩) h.toNat cap,?_,.mslice _ _ _ _⟩
  obtain⟨dst,op',type,pos,after,guard⟩:=o
  simp only at ho
  subst ho
  show((do pure (.value (←Instr.sliceAt t (ρ x) none (some (ρ y)) none))):Sem Next).run P w=_
  rw[hxv,h2]
  refine exec_v ?_
  simp[Instr.sliceAt,Instr.slice,run_underlying hdd,Instr.sliceBounds,Instr.sliceBound,asIntOf,run_sizeOf hinf2,hh.1,hh.2,Addr.add]
theorem qsl3 (hty:TyOk P ty) {t e:TypeId} {x ya yb yc:Operand} {i ei:TyI} {m cap g off:Nat} {ka kb kc:IntKind} {a b c:Int} {d:Nat}
  (k':TR P N ty l0 LD W Q l ((d,.mslice g (off+a.toNat*ei.size) (b.toNat-a.toNat) (c.toNat-a.toNat))::T) H)
  (ho:o.op=.slice t x (some ya) (some yb) (some yc):=by exact rfl) (hg:o.guard=none:=by exact rfl) (hd:o.dst=some d:=by exact rfl) (hN:Nat.ble (d+1) N=true:=by exact rfl)
  (hon:optN True T (tmpsOf o.op):=by exact True.intro) (hti:ty t=some i:=by exact rfl) (hk:i.k=.slice e:=by exact rfl) (he:ty e=some ei:=by exact rfl)
  (hx:opvL (tmpsOf o.op) T x=some (.mslice g off m cap):=by exact rfl) (ha:opvL (tmpsOf o.op) T ya=some (.int ka a):=by exact rfl) (hb:opvL (tmpsOf o.op) T yb=some (.int kb b):=by exact rfl) (hc:opvL (tmpsOf o.op) T yc=some (.int kc c):=by exact rfl)
  (hh:0≤a∧a≤b∧b≤c∧c≤(cap:Int)∧a<c:=by omega):TR P N ty l0 LD W Q ((nn,o)::l) T H:=by
 refine TR.sem (.mslice g (off+a.toNat*ei.size) (b.toNat-a.toNat) (c.toNat-a.toNat)) d hg hd hN hon (fun st w ρ hF=>?_) k'
 have h2:=(hF ya _ ha).int_eq
 have h3:=(hF yb _ hb).int_eq
 have h4:=(hF yc _ hc).int_eq
 have h1:=hF x _ hx
 generalize hxv:ρ x=xv at h1
 cases h1 with
 |mslice _ _ _ _=>
  obtain⟨⟨dd,hdd,hkf⟩,-⟩:=hty t i hti
  obtain⟨-,inf2,_,hinf2,hsz2,-⟩:=hty e ei he
  rw[hk]at hkf
  obtain rfl:dd=.slice e:=hkf
  refine⟨.slice (some ⟨g,off+a.toNat*ei.size,none⟩) (b.toNat-a.toNat) (c.toNat-a.toNat),?_,.mslice _ _ _ _⟩
  obtain⟨dst,op',type,pos,after,guard⟩:=o
  simp only at ho
  subst ho
  show((do pure (.value (←Instr.sliceAt t (ρ x) (some (ρ ya)) (some (ρ yb)) (some (ρ yc))))):Sem Next).run P w=_
  rw[hxv,h2,h3,h4]
  refine exec_v ?_
  obtain⟨g1,g2,g3,g4,g5⟩:=hh
  have q1:(0:Int)≤c:=by omega
  have q2:(0:Int)≤b:=by omega
  have q3:¬c.toNat=a.toNat:=by omega
  have q4:b≤max c 0:=by omega
  have q5:a≤max b 0:=by omega
  simp[Instr.sliceAt,Instr.slice,run_underlying hdd,Instr.sliceBounds,Instr.sliceBound,asIntOf,run_sizeOf hinf2,hsz2,addr_add,g1,g4,q1,q2,q3,q4,q5]
theorem qcopyM (hty:TyOk P ty) {x y:Operand} {t t2 e:TypeId} {ti ei:TyI} {g off n cap m M:Nat} {el:Nat→AV} {el2:Nat→List AV} {ow:Own} {vy:AV} {G:Ent→AHeap}
  (k:TR P N ty l0 LD W Q l (putO o.dst (.int .i64 n) T) (G (rowM g e M fun j=>if off≤j∧j<off+n then(el2 (j-off)).getD 0 .any else el j)))
  (hnm:n=m) (hfit:off+n≤M) (hi:EntAt H (rowM g e M el) G:=by(first|exact .here|exact .there (.here)|exact .there (.there (.here))|exact .there (.there (.there (.here)))|exact .there (.there (.there (.there (.here))))|exact .there (.there (.there (.there (.there (.here)))))|exact .there (.there (.there (.there (.there (.there (.here))))))|exact .there (.there (.there (.there (.there (.there (.there (.here)))))))|exact .there (.there (.there (.there (.there (.there (.there (.there (.here))))))))|exact .there (.there (.there (.there (.there (.there (.there (.there (.there (.here)))))))))|exact .there (.there (.there (.there (.there (.there (.there (.there (.there (.there (.here))))))))))|exact .there (.there (.there (.there (.there (.there (.there (.there (.there (.there (.there (.here)))))))))))|exact .there (.there (.there (.there (.there (.there (.there (.there (.there (.there (.there (.there (.here))))))))))))|exact .there (.there (.there (.there (.there (.there (.there (.there (.there (.there (.there (.there (.there (.here)))))))))))))|exact .there (.there (.there (.there (.there (.there (.there (.there (.there (.there (.there (.there (.there (.there (.here))))))))))))))|exact .there (.there (.there (.there (.there (.there (.there (.there (.there (.there (.there (.there (.there (.there (.there (.here)))))))))))))))))
  (hg:o.guard=none:=by exact rfl) (ho:o.op=.call {callee:=.builtin .copy,args:= #[x,y],argTypes:= #[t,t2]}:=by exact rfl) (hN:dstOk o.dst N=true:=by exact rfl)
  (hon:optN True T (tmpsOf o.op):=by exact True.intro) (hti:ty t=some ti:=by exact rfl) (hk:ti.k=.slice e:=by exact rfl) (hei:ty e=some ei:=by exact rfl) (hsz:ei.size=1:=by exact rfl)
  (hx:opvL (tmpsOf o.op) T x=some (.mslice g off n cap):=by exact rfl) (hy:opvL (tmpsOf o.op) T y=some vy:=by exact rfl) (hvy:asSl 1 vy=some (m,el2,ow):=by exact rfl) (hkb:LD.kp nn e=false:=by exact rfl):TR P N ty l0 LD W Q ((nn,o)::l) T H:=by
 obtain⟨i,g1,g2⟩:=hi.spec
 rw[g2]at k
 refine TR.hard _ (.inr (by rw[ho];rfl)) hg hN hon (hard_copy hty i ho hti hk hei hsz hx hy hvy hnm hfit g1) ?_ ?_ (fun _ v H' ⟨_,e⟩=>e▸KeepB.setBox g1 hkb _) (fun h=>by rw[ho]at h;cases h)
 ·rintro v H' ⟨e,rfl⟩
  cases e
  exact k
 ·rintro v H' ⟨e,_⟩
  cases e
theorem qappM (hty:TyOk P ty) {x y:Operand} {t e:TypeId} {ti ei:TyI} {g n cap m M:Nat} {el:Nat→AV} {el2:Nat→List AV} {ow:Own} {vy:AV} {G:Ent→AHeap} {d:Nat}
  (k:TR P N ty l0 LD W Q l ((d,.mslice g 0 (n+m) cap)::T) (G (rowM g e M fun j=>if n≤j∧j<n+m then(el2 (j-n)).getD 0 .any else el j)))
  (hm:0<m) (hroom:n+m≤cap) (hfit:n+m≤M) (hi:EntAt H (rowM g e M el) G:=by(first|exact .here|exact .there (.here)|exact .there (.there (.here))|exact .there (.there (.there (.here)))|exact .there (.there (.there (.there (.here))))|exact .there (.there (.there (.there (.there (.here)))))|exact .there (.there (.there (.there (.there (.there (.here))))))|exact .there (.there (.there (.there (.there (.there (.there (.here)))))))|exact .there (.there (.there (.there (.there (.there (.there (.there (.here))))))))|exact .there (.there (.there (.there (.there (.there (.there (.there (.there (.here)))))))))|exact .there (.there (.there (.there (.there (.there (.there (.there (.there (.there (.here))))))))))|exact .there (.there (.there (.there (.there (.there (.there (.there (.there (.there (.there (.here)))))))))))|exact .there (.there (.there (.there (.there (.there (.there (.there (.there (.there (.there (.there (.here))))))))))))|exact .there (.there (.there (.there (.there (.there (.there (.there (.there (.there (.there (.there (.there (.here)))))))))))))|exact .there (.there (.there (.there (.there (.there (.there (.there (.there (.there (.there (.there (.there (.there (.here))))))))))))))|exact .there (.there (.there (.there (.there (.there (.there (.there (.there (.there (.there (.there (.there (.there (.there (.here)))))))))))))))))
  (hg:o.guard=none:=by exact rfl) (ho:o.op=.call {callee:=.builtin .append,args:= #[x,y],argTypes:= #[t,t]}:=by exact rfl) (hd:o.dst=some d:=by exact rfl) (hN:dstOk o.dst N=true:=by exact rfl)
  (hon:optN True T (tmpsOf o.op):=by exact True.intro) (hti:ty t=some ti:=by exact rfl) (hk:ti.k=.slice e:=by exact rfl) (hei:ty e=some ei:=by exact rfl) (hsz:ei.size=1:=by exact rfl)
  (hx:opvL (tmpsOf o.op) T x=some (.mslice g 0 n cap):=by exact rfl) (hy:opvL (tmpsOf o.op) T y=some vy:=by exact rfl) (hvy:asSl 1 vy=some (m,el2,ow):=by exact rfl) (hkb:LD.kp nn e=false:=by exact rfl):TR P N ty l0 LD W Q ((nn,o)::l) T H:=by
 obtain⟨i,g1,g2⟩:=hi.spec
 rw[g2]at k
 refine TR.hard _ (.inr (by rw[ho];rfl)) hg hN hon (hard_appendM hty i ho hti hk hei hsz hx hy hvy hm hroom hfit g1) ?_ ?_ (fun _ v H' ⟨_,e⟩=>e▸KeepB.setBox g1 hkb _) (fun h=>by rw[ho]at h;cases h)
 ·rintro v H' ⟨e,rfl⟩
  cases e
  rw[hd]
  exact k
 ·rintro v H' ⟨e,_⟩
  cases e
theorem rowN_zero (k:IntKind) (m:Nat):(fun j:Nat=>([AV.int k 0]).getD (j%1) .any)=fun j=>.int k ((List.replicate m 0).getD j 0:Nat):=by
 funext j
 have e:(List.replicate m 0).getD j 0=0:=by
  rw[List.getD_eq_getElem?_getD,List.getElem?_replicate]
  split<;>rfl
 rw[e,Nat.mod_one]
 rfl
theorem qmakeN (hty:TyOk P ty) {x y:Operand} {t e:TypeId} {ti ei:TyI} {m:Nat} {d:Nat} {k:IntKind} (kk:∀g,TR P N ty l0 LD W Q l ((d,.mslice g 0 m m)::T) (rowN k g e (List.replicate m 0)::H))
  (hb:ei.bytes*m≤281474976710656∧m≤9223372036854775807) (hg:o.guard=none:=by exact rfl)
  (ho:o.op=.makeSlice t x y:=by exact rfl) (hd:o.dst=some d:=by exact rfl) (hN:Nat.ble (d+1) N=true:=by exact rfl) (hon:optN True T (tmpsOf o.op):=by exact True.intro)
  (hti:ty t=some ti:=by exact rfl) (hk:ti.k=.slice e:=by exact rfl) (hei:ty e=some ei:=by exact rfl) (hsz:ei.size=1:=by exact rfl) (hzs:cellsOf ei.zero=some [.int k 0]:=by exact rfl)
  (hx:opvL (tmpsOf o.op) T x=some (.int .i64 m):=by exact rfl) (hy:opvL (tmpsOf o.op) T y=some (.int .i64 m):=by exact rfl):TR P N ty l0 LD W Q ((nn,o)::l) T H:=by
 refine qmake hty (fun g=>?_) hb hg ho hd hN hon hti hk hei hzs hx hy
 have h:=kk g
 unfold rowN at h
 rw[List.length_replicate,←rowN_zero]at h
 rw[hsz,Nat.mul_one]
 exact h
end
end Go.Ab
