/-
  Memory that a call has made, and that its caller owns: what it holds is known cell by cell. It may be read, written, lent to a call that only reads it, and left to stand still.
-/
import Derived.Test.YtcbdfmmiigpddaaDoorAb33
namespace Go.Ab
abbrev Mem:=Nat→Nat→Option Value
def memOk (M:Mem) (w:World):Prop:=∀b o v,M b o=some v→Unf w b∧w.cell? ⟨b,o,none⟩=some v
def memOwn (M:Mem) (b:Nat):Prop:=∃o v,M b o=some v
def memE (M:Mem):Ent:=.prop (memOwn M) (memOk M)
def memSet (M:Mem) (b o:Nat) (v:Value):Mem:=fun b' o'=>if b'=b∧o'=o then some v else M b' o'
theorem memOk_keep (M:Mem) (w1 w2:World) (h12:∀b,memOwn M b→w2.heap[b]?=w1.heap[b]?) (h:memOk M w1):memOk M w2:=fun b o x hx=>by
 obtain⟨g2,g3⟩:=h b o x hx
 have e:=h12 b ⟨o,x,hx⟩
 exact⟨g2.same e,(World.cell?_of_block (w:=w1) e).trans g3⟩
theorem memOwn_set {M:Mem} {b o:Nat} {c0 c:Value} (hM:M b o=some c0) {k:Nat}:memOwn (memSet M b o c) k↔memOwn M k:=by
 constructor
 ·rintro⟨o',v,hv⟩
  by_cases e:k=b∧o'=o
  ·obtain⟨rfl,rfl⟩:=e
   exact⟨_,_,hM⟩
  ·simp only[memSet,if_neg e]at hv
   exact⟨_,_,hv⟩
 ·rintro⟨o',v,hv⟩
  by_cases e:k=b∧o'=o
  ·exact⟨o',c,by simp only[memSet,if_pos e]⟩
  ·exact⟨o',v,by simp only[memSet,if_neg e];exact hv⟩
def RepM (M:Mem) (v:AV) (c:Value):Prop:=∃st w,Rep st w v c∧∀b o,st b o→M b o=w.cell? ⟨b,o,none⟩
def heldM (M:Mem) (st:Stab) (w:World):Prop:=∀b o c,M b o=some c→st b o∧w.cell? ⟨b,o,none⟩=some c
theorem Rep.ofM {M:Mem} {st st':Stab} {w w':World} {v:AV} {c:Value} (h:Rep st w v c) (hm:∀b o,st b o→M b o=w.cell? ⟨b,o,none⟩) (hh:heldM M st' w'):Rep st' w' v c:=by
 have key:∀b o x,st b o→w.cell? ⟨b,o,none⟩=some x→st' b o∧w'.cell? ⟨b,o,none⟩=some x:=fun b o x hs hx=>hh b o x ((hm b o hs).trans hx)
 induction h with
 |bool b=>exact .bool b
 |int kk n=>exact .int kk n
 |str s=>exact .str s
 |nilptr=>exact .nilptr
 |ptr b off=>exact .ptr b off
 |rptr cells b off c hcell _ ih=>exact .rptr cells b off c (fun j hj=>key _ _ _ (hcell j hj).1 (hcell j hj).2) ih
 |nils=>exact .nils
 |slice sz n el o a cap b off c hn hbase hlen hcell _ hown hone ih=>exact .slice sz n el o a cap b off c hn hbase hlen (fun i j hi hj=>key _ _ _ (hcell i j hi hj).1 (hcell i j hi hj).2) ih hown hone
 |mslice b off len cap=>exact .mslice b off len cap
 |nilFunc=>exact .nilFunc
 |func fn f c f' c' hfl hcl _ _ ihf ihc=>exact .func fn f c f' c' hfl hcl ihf ihc
 |nilIface=>exact .nilIface
 |iface t v x _ ih=>exact .iface t v x ih
 |agg cells cs hl _ ih=>exact .agg cells cs hl ih
 |vec n el cs hl _ hone ih=>exact .vec n el cs hl ih hone
 |tuple vs xs hl _ ih=>exact .tuple vs xs hl ih
 |opt x b v c _ hn ih=>exact .opt x b v c ih hn
 |any c=>exact .any c
 |mapv r=>exact .mapv r
 |conc v=>exact .conc v
theorem RepM.rep {M:Mem} {v:AV} {c:Value} (h:RepM M v c) {st:Stab} {w:World} (hh:heldM M st w):Rep st w v c:=let ⟨_,_,h1,h2⟩:=h;h1.ofM h2 hh
theorem RepM.sub {M:Mem} {v v':AV} {c:Value} (h:RepM M v c) (s:Sub v v'):RepM M v' c:=let ⟨st,w,h1,h2⟩:=h;⟨st,w,s _ _ _ h1,h2⟩
theorem RepM.flat {M:Mem} {v:AV} {c:Value} (h:RepM M v c) (hv:Flat v) (st:Stab) (w:World):Rep st w v c:=let ⟨_,_,h1,_⟩:=h;hv _ _ _ _ _ h1
theorem RepM.agg {M:Mem} {cells:List AV} {c:Value} (h:RepM M (.agg cells) c):∃cs:List Value,c=.agg ⟨cs⟩∧cs.length=cells.length∧∀(j:Nat) (v:AV) (x:Value),cells[j]?=some v→cs[j]?=some x→RepM M v x:=by
 obtain⟨st,w,h1,h2⟩:=h
 cases h1 with
 |agg _ cs hl hr=>exact⟨cs,rfl,hl,fun j v x hv hx=>⟨st,w,hr j v x hv hx,h2⟩⟩
theorem RepM.tuple {M:Mem} {cells:List AV} {c:Value} (h:RepM M (.tuple cells) c):∃cs:List Value,c=.tuple ⟨cs⟩∧cs.length=cells.length∧∀(j:Nat) (v:AV) (x:Value),cells[j]?=some v→cs[j]?=some x→RepM M v x:=by
 obtain⟨st,w,h1,h2⟩:=h
 cases h1 with
 |tuple _ cs hl hr=>exact⟨cs,rfl,hl,fun j v x hv hx=>⟨st,w,hr j v x hv hx,h2⟩⟩
theorem RepM.slice {M:Mem} {sz n:Nat} {el:Nat→List AV} {ow:Own} {c:Value} (h:RepM M (.slice sz n el ow) c):∃(a:Option Addr) (cap b off:Nat) (C:Nat→Nat→Value),c=.slice a n cap∧n≤cap∧(n=0∨a=some ⟨b,off,none⟩)∧ow.ok a n cap∧(∀i,i<n→(el i).length=sz)∧
  (∀i j,i<n→j<sz→M b (off+(i*sz+j))=some (C i j)∧(C i j).oneCell'=true)∧∀i j v,i<n→(el i)[j]?=some v→RepM M v (C i j):=by
 obtain⟨st,w,h1,h2⟩:=h
 cases h1 with
 |slice _ _ _ _ a cap b off C hn hbase hlen hcell hrep hown hone=>
  exact⟨a,cap,b,off,C,rfl,hn,hbase,hown,hlen,fun i j hi hj=>⟨(h2 _ _ (hcell i j hi hj).1).trans (hcell i j hi hj).2,hone i j hi hj⟩,fun i j v hi hv=>⟨st,w,hrep i j v hi hv,h2⟩⟩
theorem RepM.int {M:Mem} {k:IntKind} {n:Int} {c:Value} (h:RepM M (.int k n) c):c=.int k n:=let ⟨_,_,h1,_⟩:=h;h1.int_eq
theorem RepM.str {M:Mem} {s:List UInt8} {c:Value} (h:RepM M (.str s) c):c=.string ⟨s.toArray⟩:=by
 obtain⟨_,_,h1,_⟩:=h
 cases h1
 rfl
theorem RepM.own {M:Mem} {sz n:Nat} {el:Nat→List AV} {ow:Own} {a:Option Addr} {m cap:Nat} (h:RepM M (.slice sz n el ow) (.slice a m cap)):RepM M (.slice sz n el (.own a cap)) (.slice a m cap):=by
 obtain⟨st,w,h1,h2⟩:=h
 refine⟨st,w,?_,h2⟩
 cases h1 with
 |slice _ _ _ _ a cap b off C hn hbase hlen hcell hrep hown hone=>exact .slice sz n el _ a cap b off C hn hbase hlen hcell hrep ⟨rfl,rfl⟩ hone
structure Thaw {ι Z:Type} (Good:Mem→ι→Z→Prop) where
 i:ι
 z:Z
 M:Mem
 good:Good M i z
theorem ACalls.thaw {P:Program} {ι Z:Type} {f:FuncId} {vs:List AV} {u:ι→AV} {V:Z→AV} {Good:Mem→ι→Z→Prop} (hv:∀v∈vs,Flat v) (h:ACalls P f vs [] fun r H'=>∃i,r=.ret (u i)∧H'=[])
  (hz:∀M i c,RepM M (u i) c→∃z,Good M i z∧Sub (.conc c) (V z)):ACalls P f vs [] fun r H'=>∃t:Thaw Good,r=.ret (V t.z)∧H'=[memE t.M]:=by
 refine⟨h.1,fun st w xs hc hx hg=>?_⟩
 have no:∀k,¬AHeap.owns [] k:=fun k ⟨e,he,_⟩=>absurd he List.not_mem_nil
 let z0:Stab:=fun _ _=>False
 have hc0:Conc (Env0.of w z0 []) z0 [] w:=⟨rfl,rfl,rfl,Nat.le_refl _,fun _ _ _=>rfl,fun _ _ _=>rfl,fun _ _ h=>h,fun _ _ h=>.inl h,fun _ _ h=>h.elim,fun k hk=>absurd hk (no k),fun k hk=>absurd hk (no k),fun e he=>absurd he List.not_mem_nil,.nil,fun _ _ h=>h.elim⟩
 refine(h.2 z0 w xs hc0 ⟨hx.1,fun j v x hv' hx'=>hv v (List.mem_of_getElem? hv') _ _ _ _ _ (hx.2 j v x hv' hx')⟩ hg).mono fun e w' hp=>?_
 cases e with
 |outgrown=>exact hp.elim
 |panicked v=>
  obtain⟨st',r,H2,h1,h2,i,rfl,rfl⟩:=hp
  exact h2.elim
 |returned v=>
  obtain⟨st2,r,H2,d1,d2,i,rfl,rfl⟩:=hp
  have hnew:∀b o,st2 b o→w.heap.size≤b∧b<w'.heap.size:=fun b o hb=>by
   refine⟨?_,d1.stlt b o hb⟩
   rcases d1.stnew b o hb with x|x|x
   ·exact x.elim
   ·exact x
   ·exact absurd x (no b)
  classical
  let M:Mem:=fun b o=>if st2 b o then w'.cell? ⟨b,o,none⟩ else none
  have hM:∀b o,st2 b o→M b o=w'.cell? ⟨b,o,none⟩:=fun b o hb=>if_pos hb
  have hM2:∀b o v,M b o=some v→st2 b o∧w'.cell? ⟨b,o,none⟩=some v:=fun b o v hv=>by
   simp only[M]at hv
   split at hv
   ·exact⟨by assumption,hv⟩
   ·cases hv
  obtain⟨z,gz,sz⟩:=hz M i v ⟨st2,w',d2,hM⟩
  have hown:∀b,memOwn M b→w.heap.size≤b∧b<w'.heap.size:=fun b ⟨o,x,hx⟩=>hnew b o (hM2 b o x hx).1
  have hold:∀k,k<w.heap.size→w'.heap[k]?=w.heap[k]?:=fun k hk=>d1.old k hk (no k)
  refine⟨st,.ret (V z),[memE M],⟨d1.os,d1.tape,d1.output,d1.size,fun k hk _=>hold k hk,fun b o hb=>World.cell?_of_block (w:=w) (hold b (hc.stlt b o hb)),fun _ _ h=>h,fun _ _ h=>.inl h,fun b o hb=>Nat.lt_of_lt_of_le (hc.stlt b o hb) d1.size,?_,?_,?_,by simp,fun b o hs hk=>(hk hs).same (hold b (hc.stlt b o hs))⟩,sz _ _ _ (.conc v),⟨i,z,M,gz⟩,rfl,rfl⟩
  ·rintro k ⟨e,he,hk⟩
   simp only[List.mem_singleton]at he
   subst he
   exact .inr (hown k hk).1
  ·rintro k ⟨e,he,hk⟩
   simp only[List.mem_singleton]at he
   subst he
   exact(hown k hk).2
  ·intro e he
   simp only[List.mem_singleton]at he
   subst he
   refine⟨fun b o hb hs=>absurd (hc.stlt b o hs) (by have:=(hown b hb).1;omega),memOk_keep M,fun b o x hx=>?_⟩
   obtain⟨g1,g2⟩:=hM2 b o x hx
   exact⟨d1.fz b o g1 (fun h=>h.elim),g2⟩
theorem PCalls.thaw {P:Program} {Z:Type} {f:FuncId} {vs:List AV} {u:AV} {V:Z→AV} {Good:Mem→Z→Prop} (hv:∀v∈vs,Flat v) (h:PCalls P f vs u)
  (hz:∀M c,RepM M u c→∃z,Good M z∧Sub (.conc c) (V z)):ACalls P f vs [] fun r H'=>∃t:Thaw (fun M (_:Unit) z=>Good M z),r=.ret (V t.z)∧H'=[memE t.M]:=
 ACalls.thaw (u:=fun _:Unit=>u) hv (ACalls.mono h fun _ _ e=>⟨(),e.1,e.2⟩) (fun M _ c hc=>hz M c hc)
def SubM (M:Mem) (v v':AV):Prop:=∀st w,heldM M st w→∀c,Rep st w v c→Rep st w v' c
theorem SubM.rfl' {M:Mem} (v:AV):SubM M v v:=fun _ _ _ _ h=>h
theorem SubM.conc {M:Mem} {v:AV} {c:Value} (h:RepM M v c):SubM M (.conc c) v:=fun st w hh x hx=>by
 cases hx
 exact h.rep hh
theorem SubM.mslice {M:Mem} {b off n cap:Nat} {v:AV} (h:RepM M v (.slice (some ⟨b,off,none⟩) n cap)):SubM M (.mslice b off n cap) v:=fun st w hh x hx=>by
 cases hx
 exact h.rep hh
theorem SubM.agg {M:Mem} {vs vs':List AV} (hl:vs'.length=vs.length) (h:∀(j:Nat) (v v':AV),vs[j]?=some v→vs'[j]?=some v'→SubM M v v'):SubM M (.agg vs) (.agg vs'):=by
 intro st w hh c hc
 cases hc with
 |agg _ cs hl2 hr=>
  refine .agg _ _ (by omega) fun j v' x hv' hx=>?_
  have hj:j<vs.length:=by rw[←hl];exact(List.getElem?_eq_some_iff.1 hv').1
  exact h j _ v' (List.getElem?_eq_getElem hj) hv' st w hh _ (hr j _ x (List.getElem?_eq_getElem hj) hx)
theorem SubM.sub {M:Mem} {v v' v'':AV} (h:SubM M v v') (s:Sub v' v''):SubM M v v'':=fun st w hh c hc=>s _ _ _ (h st w hh c hc)
structure SubML (M:Mem) (vs vs':List AV):Prop where
 len:vs'.length=vs.length
 at':∀(j:Nat) (v v':AV),vs[j]?=some v→vs'[j]?=some v'→SubM M v v'
theorem SubML.nil {M:Mem}:SubML M [] []:=⟨rfl,fun j v v' h=>by cases h⟩
theorem SubML.cons {M:Mem} {v v':AV} {vs vs':List AV} (h:SubM M v v') (k:SubML M vs vs'):SubML M (v::vs) (v'::vs'):=
 ⟨by simp[k.len],fun j a b ha hb=>by
   cases j with
   |zero=>simp at ha hb;subst ha;subst hb;exact h
   |succ j=>exact k.at' j a b (by simpa using ha) (by simpa using hb)⟩
theorem SubML.same {M:Mem} {v:AV} {vs vs':List AV} (k:SubML M vs vs'):SubML M (v::vs) (v::vs'):=.cons (SubM.rfl' _) k
theorem Conc.freezeW {E:Env0} {st:Stab} {w:World} {G1 G2:AHeap} {M:Mem} (h:Conc E st (G1++memE M::G2) w):
  ∃st',Conc E st' (G1++G2) w∧Keeps st st' w w∧heldM M st' w:=by
 obtain⟨h1,h2,h3⟩:=h.ents (memE M) (by simp)
 have hown:∀g,memOwn M g→AHeap.owns (G1++memE M::G2) g:=fun g hg=>⟨memE M,by simp,hg⟩
 have hp:=h.perm (List.perm_middle (l₁:=G1) (l₂:=G2) (a:=memE M))
 have hno:∀g,memOwn M g→¬AHeap.owns (G1++G2) g:=fun g hg=>not_owns_of_sep hp hg
 refine⟨fun b' o=>st b' o∨∃v,M b' o=some v,?_,⟨fun _ _ h=>.inl h,fun _ _ _=>rfl⟩,fun b o c hc=>⟨.inr ⟨c,hc⟩,(h3 b o c hc).2⟩⟩
 have ho:∀k,AHeap.owns (G1++G2) k→AHeap.owns (G1++memE M::G2) k:=by
  rintro k ⟨e,he,hk⟩
  rcases List.mem_append.1 he with he|he
  ·exact⟨e,by simp[he],hk⟩
  ·exact⟨e,by simp[he],hk⟩
 refine⟨h.os,h.tape,h.output,h.size,h.old,h.keep,fun b' o hs=>.inl (h.stle b' o hs),?_,?_,fun k hk=>h.ownnew k (ho k hk),fun k hk=>h.ownlt k (ho k hk),?_,hp.tail.sep,?_⟩
 ·rintro b' o (hs|⟨v,hv⟩)
  ·exact h.stnew b' o hs
  ·rcases h.ownnew _ (hown _ ⟨_,_,hv⟩)with x|x
   ·exact .inr (.inr x)
   ·exact .inr (.inl x)
 ·rintro b' o (hs|⟨v,hv⟩)
  ·exact h.stlt b' o hs
  ·exact h.ownlt _ (hown _ ⟨_,_,hv⟩)
 ·intro e he
  refine Ent.holds_keep (w:=w) ⟨fun _ _ h=>.inl h,fun _ _ _=>rfl⟩ (hp.tail.ents e he) (fun _ _=>rfl) ?_
  rintro b' o hb (hs|⟨v,hv⟩)
  ·exact hs
  ·exact absurd ⟨e,he,hb⟩ (hno _ ⟨_,_,hv⟩)
 ·rintro b' o (hs|⟨v,hv⟩) hk
  ·exact h.fz b' o hs hk
  ·exact(h3 _ _ _ hv).1
theorem PCalls.lendW {P:Program} {f:FuncId} {vs vs':List AV} {u:AV} {M:Mem} (hu:Flat u) (h:PCalls P f vs' u) (hs:SubML M vs vs'):
  ACalls P f vs [memE M] fun r H'=>r=.ret u∧H'=[memE M]:=by
 refine⟨h.1,fun st w xs hc hx hg=>?_⟩
 obtain⟨st',c1,k1,hh⟩:=Conc.freezeW (G1:=[]) (G2:=[]) hc
 have hx':RepL st' w vs' xs:=⟨by rw[hx.1,hs.len],fun j v' x hv' hxx=>by
  have hj:j<vs.length:=by rw[←hs.len];exact(List.getElem?_eq_some_iff.1 hv').1
  exact hs.at' j _ v' (List.getElem?_eq_getElem hj) hv' st' w hh x ((hx.2 j _ x (List.getElem?_eq_getElem hj) hxx).mono k1)⟩
 refine(h.2 st' w xs c1.start hx' (hg.sub fun _ ⟨e,he,_⟩=>absurd he List.not_mem_nil)).mono fun e w' hp=>?_
 cases e with
 |outgrown=>exact hp.elim
 |returned v=>
  obtain⟨st2,r,H2,d1,d2,rfl,rfl⟩:=hp
  have hno:∀k,¬(Env0.of w st' []).O k:=fun k ⟨e,he,_⟩=>absurd he List.not_mem_nil
  refine⟨st,.ret u,[memE M],⟨d1.os,d1.tape,d1.output,d1.size,fun k hk _=>d1.old k hk (hno k),fun b o hb=>d1.keep b o (k1.sub b o hb),fun _ _ h=>h,fun _ _ h=>.inl h,fun b o hb=>Nat.lt_of_lt_of_le (hc.stlt b o hb) d1.size,fun k hk=>.inl hk,fun k hk=>Nat.lt_of_lt_of_le (hc.ownlt k hk) d1.size,fun e he=>?_,hc.sep,fun b o hs hk=>(hk hs).same (d1.old b (hc.stlt b o hs) (hno b))⟩,hu _ _ _ _ _ d2,rfl,rfl⟩
  refine Ent.holds_keep (w:=w) ⟨fun _ _ h=>h,fun b o hb=>d1.keep b o (k1.sub b o hb)⟩ (hc.ents e he) (fun b hb=>d1.old b (hc.ownlt b ⟨e,he,hb⟩) (hno b)) fun _ _ _ h=>h
 |panicked v=>
  obtain⟨st2,r,H2,d1,d2,rfl,rfl⟩:=hp
  exact d2.elim
section
variable {P:Program} {N:Nat} {ty:TypeId→Option TyI} {l0:List Oper} {LD:LDs} {W:Bool} {Q:APost} {n:Nat} {o:Oper} {l:List (Nat×Oper)} {T:Tmps} {H:AHeap}
theorem awp_freezeW {c:Code} (G1:AHeap) {G2:AHeap} {M:Mem} {s:Nat} {v v':AV} (hl:lk T s=some v) (hv:SubM M v v') (h:AWP P N c ((s,v')::T) (G1++G2) Q):
  AWP P N c T (G1++memE M::G2) Q:=by
 refine awp_turn (S:=fun T' H'=>T'=(s,v')::T∧H'=G1++G2) ?_ (fun T' H' e=>by obtain⟨rfl,rfl⟩:=e;exact h)
 intro E st w a h1 h2
 obtain⟨st',c1,k1,r1⟩:=h1.freezeW
 refine⟨st',_,_,c1,⟨h2.size,fun t' u' ht'=>?_⟩,rfl,rfl⟩
 by_cases e:s=t'
 ·subst e
  simp[lk]at ht'
  subst ht'
  obtain⟨c,e1,e2⟩:=h2.val s _ hl
  exact⟨_,e1,hv st' w r1 _ (e2.mono k1)⟩
 ·have hb:Nat.beq s t'=false:=beq_ne e
  simp[lk,hb]at ht'
  obtain⟨c,e1,e2⟩:=h2.val t' u' ht'
  exact⟨c,e1,e2.mono k1⟩
theorem hard_loadW (hty:TyOk P ty) {F:Operand→Option AV} {t:TypeId} {y:Operand} {ti:TyI} {b off:Nat} {M:Mem} {c:Value} {v:AV} (ho:o.op=.load t y) (hx:F y=some (.ptr b off)) (ht:ty t=some ti)
  (hag:ti.k.isAgg=false) (hno:ti.k=.other→False) (hm:memE M∈H) (hM:M b off=some c) (hv:∀st w,Rep st w v c):AHard P o F H fun r H'=>r=.ret v∧H'=H:=by
 intro E st w a r next Q hc hF _ hr _
 have hpx:=hF y _ hx
 have he:a.eval y=.pointer (some ⟨b,off,none⟩):=by
  generalize a.eval y=q at hpx
  cases hpx
  rfl
 obtain⟨-,-,h3⟩:=hc.ents (memE M) hm
 obtain⟨-,h0⟩:=h3 b off c hM
 obtain⟨⟨d,hd,hk⟩,-⟩:=hty t ti ht
 have ha:=run_isAgg (P:=P) (w:=w) hd hk hno
 refine upon_value_ok (c:=c) ?_ (hr st w v c H hc (Keeps.refl st w) (hv st w) ⟨rfl,rfl⟩)
 unfold execOp
 rw[ho]
 simp only[he]
 refine exec_v ?_
 unfold Instr.loadAt
 simp only[Instr.sureAddr,Sem.run_bind,Sem.run_pure,Result.andThen_ok]
 unfold loadVar
 rw[Sem.run_bind,ha,hag]
 simp[Result.andThen,h0]
theorem qldW (hty:TyOk P ty) {t:TypeId} {y:Operand} {ti:TyI} {b off:Nat} {M:Mem} {d:Nat} (v:AV) {c:Value} (hM:M b off=some c) (hv:∀st w,Rep st w v c) (k:TR P N ty l0 LD W Q l ((d,v)::T) H)
  (hm:memE M∈H:=by(first|exact(List.Mem.head _)|exact List.Mem.tail _ ((List.Mem.head _))|exact List.Mem.tail _ (List.Mem.tail _ ((List.Mem.head _)))|exact List.Mem.tail _ (List.Mem.tail _ (List.Mem.tail _ ((List.Mem.head _))))|exact List.Mem.tail _ (List.Mem.tail _ (List.Mem.tail _ (List.Mem.tail _ ((List.Mem.head _)))))|exact List.Mem.tail _ (List.Mem.tail _ (List.Mem.tail _ (List.Mem.tail _ (List.Mem.tail _ ((List.Mem.head _))))))|exact List.Mem.tail _ (List.Mem.tail _ (List.Mem.tail _ (List.Mem.tail _ (List.Mem.tail _ (List.Mem.tail _ ((List.Mem.head _)))))))|exact List.Mem.tail _ (List.Mem.tail _ (List.Mem.tail _ (List.Mem.tail _ (List.Mem.tail _ (List.Mem.tail _ (List.Mem.tail _ ((List.Mem.head _))))))))|exact List.Mem.tail _ (List.Mem.tail _ (List.Mem.tail _ (List.Mem.tail _ (List.Mem.tail _ (List.Mem.tail _ (List.Mem.tail _ (List.Mem.tail _ ((List.Mem.head _))))))))))) (hg:o.guard=none:=by exact rfl) (ho:o.op=.load t y:=by exact rfl) (hd:o.dst=some d:=by exact rfl) (hN:dstOk o.dst N=true:=by exact rfl) (hx:opvL (tmpsOf o.op) T y=some (.ptr b off):=by exact rfl)
  (hon:optN True T (tmpsOf o.op):=by exact True.intro) (ht:ty t=some ti:=by exact rfl) (hag:ti.k.isAgg=false:=by exact rfl) (hno:ti.k=.other→False:=by intro h;cases h) (hW:W=true:=by exact rfl):TR P N ty l0 LD W Q ((n,o)::l) T H:=by
 refine TR.hard _ (.inl hW) hg hN hon (hard_loadW hty ho hx ht hag hno hm hM hv) ?_ ?_ (fun _ v H' ⟨_,e⟩=>e▸KeepB.refl _) (fun h=>by rw[ho]at h;cases h)
 ·rintro v' H' ⟨e,rfl⟩
  cases e
  rw[hd]
  exact k
 ·rintro v' H' ⟨e,_⟩
  cases e
theorem Conc.storeW {E:Env0} {st:Stab} {F:AHeap} {M:Mem} {b off:Nat} {t0:TypeId} {w:World} {arr:Array Value} {c0 c:Value} (h:Conc E st (memE M::F) w) (hM:M b off=some c0)
  (hb:w.heap[b]?=some (.cells arr t0 (0,0))):Conc E st (memE (memSet M b off c)::F) (w.setRow b (setAt arr.toList off [c]).toArray)∧Keeps st st w (w.setRow b (setAt arr.toList off [c]).toArray):=by
 obtain⟨h1,h2,h3⟩:=h.ents (memE M) (by simp)
 have hob:memOwn M b:=⟨off,c0,hM⟩
 have hown:∀k,memOwn (memSet M b off c) k↔memOwn M k:=fun k=>memOwn_set hM
 have hgO:AHeap.owns (memE M::F) b:=⟨memE M,by simp,hob⟩
 have hsep:=List.pairwise_cons.1 h.sep
 generalize harr:(setAt arr.toList off [c]).toArray=arr'
 have hblk:∀k,k≠b→(w.setRow b arr').heap[k]?=w.heap[k]?:=fun k hk=>setRow_other w b k arr' hk
 have hnew:=setRow_heap w b arr arr' t0 (0,0) hb
 have kc:Keeps st st w (w.setRow b arr'):=⟨fun _ _ h=>h,fun b' o hs=>cell_setRow_other w b arr' ⟨b',o,none⟩ (by rintro rfl;exact h1 _ o hob hs)⟩
 have hun:∀b',Unf w b'→Unf (w.setRow b arr') b':=fun b' hu=>by
  by_cases e:b'=b
  ·subst e
   exact⟨_,_,hnew⟩
  ·exact hu.same (hblk b' e)
 refine⟨⟨h.os,h.tape,h.output,by rw[setRow_keep];exact h.size,?_,fun b' o hs=>(kc.cell b' o (h.stle b' o hs)).trans (h.keep b' o hs),h.stle,h.stnew,fun b' o hs=>by rw[setRow_keep];exact h.stlt b' o hs,?_,?_,?_,?_,?_⟩,kc⟩
 ·intro k hk hO
  refine(hblk k ?_).trans (h.old k hk hO)
  rintro rfl
  rcases h.ownnew _ hgO with x|x
  ·exact hO x
  ·omega
 ·rintro k ⟨e2,he2,hb2⟩
  rcases List.mem_cons.1 he2 with rfl|he2
  ·exact h.ownnew k ⟨memE M,by simp,(hown k).1 hb2⟩
  ·exact h.ownnew k ⟨e2,by simp[he2],hb2⟩
 ·rintro k ⟨e2,he2,hb2⟩
  rw[setRow_keep]
  rcases List.mem_cons.1 he2 with rfl|he2
  ·exact h.ownlt k ⟨memE M,by simp,(hown k).1 hb2⟩
  ·exact h.ownlt k ⟨e2,by simp[he2],hb2⟩
 ·intro e2 he2
  rcases List.mem_cons.1 he2 with rfl|he3
  ·refine⟨fun b' o hb'=>h1 b' o ((hown b').1 hb'),memOk_keep _,fun b' o x hx=>?_⟩
   by_cases e:b'=b∧o=off
   ·obtain⟨rfl,rfl⟩:=e
    obtain⟨g2,g3⟩:=h3 _ _ c0 hM
    simp only[memSet,and_self,if_true,Option.some.injEq]at hx
    subst hx
    refine⟨hun _ g2,?_⟩
    rw[cell_of_row _ b' o arr' t0 (0,0) hnew]
    rw[cell_of_row _ b' o arr t0 (0,0) hb]at g3
    have hlt:=(Array.getElem?_eq_some_iff.1 g3).1
    rw[←harr]
    simp[setAt,hlt]
   ·have hx':M b' o=some x:=by
     simp only[memSet,if_neg e]at hx
     exact hx
    obtain⟨g2,g3⟩:=h3 b' o x hx'
    refine⟨hun _ g2,?_⟩
    by_cases eb:b'=b
    ·subst eb
     have eo:off≠o:=fun h=>e ⟨rfl,h.symm⟩
     rw[cell_of_row _ b' o arr' t0 (0,0) hnew,←harr]
     rw[cell_of_row _ b' o arr t0 (0,0) hb]at g3
     simp only[setAt,List.getElem?_toArray]
     rw[List.getElem?_set_ne eo]
     simpa using g3
    ·exact(World.cell?_of_block (w:=w) (hblk b' eb)).trans g3
  ·refine Ent.holds_keep kc (h.ents e2 (by simp[he3])) (fun k hk=>hblk k ?_) fun _ _ _ h=>h
   rintro rfl
   exact hsep.1 e2 he3 _ hob hk
 ·exact List.pairwise_cons.2 ⟨fun e2 he2 k hk hk2=>hsep.1 e2 he2 k ((hown k).1 hk) hk2,hsep.2⟩
 ·exact fun b' o hs hk=>hun b' (h.fz b' o hs hk)
theorem hard_storeW (hty:TyOk P ty) {F:Operand→Option AV} {t:TypeId} {x y:Operand} {ti:TyI} {b off:Nat} {M:Mem} {c0 c:Value} {v:AV} (i:Nat) (ho:o.op=.store t x y) (hx:F x=some (.ptr b off)) (hy:F y=some v)
  (ht:ty t=some ti) (hsz:ti.size=1) (hi:H[i]?=some (memE M)) (hM:M b off=some c0) (hv:∀st w x,Rep st w v x→x=c) (h1:c.cells.toList=[c]∧c.oneCell'=true):AHard P o F H fun r H'=>r=.ret (.tuple [])∧H'=H.set i (memE (memSet M b off c)):=by
 intro E st w a r next Q hc hF _ hr _
 obtain⟨-,inf,z,hinf,hsz2,-⟩:=hty t ti ht
 have hpx:=hF x _ hx
 have hex:a.eval x=.pointer (some ⟨b,off,none⟩):=by
  generalize a.eval x=q at hpx
  cases hpx
  rfl
 have hey:=hv _ _ _ (hF y _ hy)
 have hc1:=hc.perm (perm_eraseIdx H i _ hi)
 obtain⟨-,-,h3⟩:=hc1.ents (memE M) (by simp)
 obtain⟨⟨arr,t0,hblk⟩,g3⟩:=h3 b off c0 hM
 rw[cell_of_row _ b off arr t0 (0,0) hblk]at g3
 have hlt:=(Array.getElem?_eq_some_iff.1 g3).1
 have hrun:=run_storeAt (P:=P) (w:=w) (b:=b) (off:=off) (x:=c) hinf (by rw[←Array.length_toList,h1.1,hsz2,hsz];rfl) hblk (by rw[h1.1];exact hlt) (by rw[h1.1];simpa using h1.2)
 rw[h1.1]at hrun
 have hst:=hc1.storeW (c:=c) hM hblk
 refine upon_skip_ok (w':=w.setRow b (setAt arr.toList off [c]).toArray) ?_ (hr st _ (.tuple []) undef _ (hst.1.perm (perm_set H i _ _ hi)) hst.2 (.tuple [] [] rfl (by simp)) ⟨rfl,rfl⟩)
 simp[execOp,ho,hex,hey,hrun]
theorem qstW (hty:TyOk P ty) {t:TypeId} {x y:Operand} {ti:TyI} {b off:Nat} {M:Mem} {c0 c:Value} {v:AV} {F:Ent→AHeap} (hM:M b off=some c0) (hv:∀st w x,Rep st w v x→x=c) (h1:c.cells.toList=[c]∧c.oneCell'=true)
  (k:TR P N ty l0 LD W Q l T (F (memE (memSet M b off c)))) (hi:EntAt H (memE M) F:=by(first|exact .here|exact .there (.here)|exact .there (.there (.here))|exact .there (.there (.there (.here)))|exact .there (.there (.there (.there (.here))))|exact .there (.there (.there (.there (.there (.here)))))|exact .there (.there (.there (.there (.there (.there (.here))))))|exact .there (.there (.there (.there (.there (.there (.there (.here)))))))|exact .there (.there (.there (.there (.there (.there (.there (.there (.here))))))))|exact .there (.there (.there (.there (.there (.there (.there (.there (.there (.here)))))))))|exact .there (.there (.there (.there (.there (.there (.there (.there (.there (.there (.here))))))))))|exact .there (.there (.there (.there (.there (.there (.there (.there (.there (.there (.there (.here)))))))))))|exact .there (.there (.there (.there (.there (.there (.there (.there (.there (.there (.there (.there (.here))))))))))))|exact .there (.there (.there (.there (.there (.there (.there (.there (.there (.there (.there (.there (.there (.here)))))))))))))|exact .there (.there (.there (.there (.there (.there (.there (.there (.there (.there (.there (.there (.there (.there (.here))))))))))))))|exact .there (.there (.there (.there (.there (.there (.there (.there (.there (.there (.there (.there (.there (.there (.there (.here))))))))))))))))) (hg:o.guard=none:=by exact rfl) (ho:o.op=.store t x y:=by exact rfl) (hd:o.dst=none:=by exact rfl) (hon:optN True T (tmpsOf o.op):=by exact True.intro)
  (hx:opvL (tmpsOf o.op) T x=some (.ptr b off):=by exact rfl) (hy:opvL (tmpsOf o.op) T y=some v:=by exact rfl) (ht:ty t=some ti:=by exact rfl) (hsz:ti.size=1:=by exact rfl) (hW:W=true:=by exact rfl):TR P N ty l0 LD W Q ((n,o)::l) T H:=by
 obtain⟨i,g1,g2⟩:=hi.spec
 rw[g2]at k
 refine TR.hard _ (.inl hW) hg (by rw[hd];rfl) hon (hard_storeW hty i ho hx hy ht hsz g1 hM hv h1) ?_ ?_ (fun _ v H' ⟨_,e⟩=>e▸KeepB.setNe g1 (fun _ _ _ _ h=>by cases h) _) (fun h=>by rw[ho]at h;cases h)
 ·rintro v' H' ⟨e,rfl⟩
  cases e
  rw[hd]
  exact k
 ·rintro v' H' ⟨e,_⟩
  cases e
theorem int_det (k:IntKind) (n:Int):∀st w x,Rep st w (.int k n) x→x=.int k n:=fun _ _ _ h=>h.int_eq
theorem int_one (k:IntKind) (n:Int):(Value.int k n).cells.toList=[.int k n]∧(Value.int k n).oneCell'=true:=⟨rfl,rfl⟩
theorem str_det (s:List UInt8):∀st w x,Rep st w (.str s) x→x=.string ⟨s.toArray⟩:=fun _ _ _ h=>by cases h;rfl
theorem str_one (s:ByteArray):(Value.string s).cells.toList=[.string s]∧(Value.string s).oneCell'=true:=⟨rfl,rfl⟩
end
end Go.Ab
