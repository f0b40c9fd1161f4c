/-
  Abstract values and heaps over the model's worlds: a value (AV), what a model value must be to stand for it (Rep),
  a box or an owned row (Ent), and a world that holds such a heap (Conc). Nothing of a program is used here.
-/
import Derived.Test.YtamgilppehibeaaGreatDoorGl
import Derived.RangeFuncRecord
import Derived.OrdersIn
import Derived.TacticsIn
import Derived.Lib.Strings
namespace Go.Ab
inductive Own where
 |view
 |full
 |own (a:Option Addr) (cap:Nat)
inductive AV where
 |bool (b:Bool)
 |int (k:IntKind) (n:Int)
 |str (s:List UInt8)
 |nilptr
 |ptr (b off:Nat)
 |rptr (cells:List AV)
 |nils
 |slice (sz n:Nat) (el:Nat→List AV) (o:Own)
 |mslice (b off len cap:Nat)
 |nilFunc
 |func (fn:Fn) (first captured:List AV)
 |nilIface
 |iface (t:TypeId) (v:AV)
 |agg (cells:List AV)
 |vec (n:Nat) (el:Nat→AV)
 |tuple (vs:List AV)
 |opt (x b:Bool) (v:AV)
 |any
 |mapv (r:Option Nat)
 |conc (v:Value)
def Own.ok:Own→Option Addr→Nat→Nat→Prop
 |.view,_,_,_=>True
 |.full,_,n,cap=>cap=n
 |.own a' cap',a,_,cap=>a=a'∧cap=cap'
abbrev Stab:=Nat→Nat→Prop
inductive Rep (st:Stab) (w:World):AV→Value→Prop
 |bool (b):Rep st w (.bool b) (.bool b)
 |int (k n):Rep st w (.int k n) (.int k n)
 |str (s):Rep st w (.str s) (.string ⟨s.toArray⟩)
 |nilptr:Rep st w .nilptr (.pointer none)
 |ptr (b off):Rep st w (.ptr b off) (.pointer (some ⟨b,off,none⟩))
 |rptr (cells:List AV) (b off:Nat) (c:Nat→Value)
   (hcell:∀j,j<cells.length→st b (off+j)∧w.cell? ⟨b,off+j,none⟩=some (c j))
   (hrep:∀j v,cells[j]?=some v→Rep st w v (c j)):
   Rep st w (.rptr cells) (.pointer (some ⟨b,off,none⟩))
 |nils:Rep st w .nils (.slice none 0 0)
 |slice (sz n el o) (a:Option Addr) (cap:Nat) (b off:Nat) (c:Nat→Nat→Value)
   (hn:n≤cap)
   (hbase:n=0∨a=some ⟨b,off,none⟩)
   (hlen:∀i,i<n→(el i).length=sz)
   (hcell:∀i j,i<n→j<sz→st b (off+(i*sz+j))∧w.cell? ⟨b,off+(i*sz+j),none⟩=some (c i j))
   (hrep:∀i j v,i<n→(el i)[j]?=some v→Rep st w v (c i j))
   (hown:o.ok a n cap)
   (hone:∀i j,i<n→j<sz→(c i j).oneCell'=true):
   Rep st w (.slice sz n el o) (.slice a n cap)
 |mslice (b off len cap):Rep st w (.mslice b off len cap) (.slice (some ⟨b,off,none⟩) len cap)
 |nilFunc:Rep st w .nilFunc .nilFunc
 |func (fn) (f c:List AV) (f' c':List Value) (hfl:f'.length=f.length) (hcl:c'.length=c.length)
   (hf:∀(j:Nat) (v:AV) (x:Value),f[j]?=some v→f'[j]?=some x→Rep st w v x)
   (hc:∀(j:Nat) (v:AV) (x:Value),c[j]?=some v→c'[j]?=some x→Rep st w v x):
   Rep st w (.func fn f c) (.func fn ⟨f'⟩ ⟨c'⟩)
 |nilIface:Rep st w .nilIface .nilIface
 |iface (t v x) (h:Rep st w v x):Rep st w (.iface t v) (.iface t x)
 |agg (cells:List AV) (cs:List Value) (hl:cs.length=cells.length)
   (h:∀(j:Nat) (v:AV) (x:Value),cells[j]?=some v→cs[j]?=some x→Rep st w v x):Rep st w (.agg cells) (.agg ⟨cs⟩)
 |vec (n:Nat) (el:Nat→AV) (cs:List Value) (hl:cs.length=n)
   (h:∀(j:Nat) (x:Value),cs[j]?=some x→Rep st w (el j) x) (hone:∀x∈cs,x.oneCell'=true):Rep st w (.vec n el) (.agg ⟨cs⟩)
 |tuple (vs:List AV) (xs:List Value) (hl:xs.length=vs.length)
   (h:∀(j:Nat) (v:AV) (x:Value),vs[j]?=some v→xs[j]?=some x→Rep st w v x):Rep st w (.tuple vs) (.tuple ⟨xs⟩)
 |opt (x b:Bool) (v:AV) (c:Value) (h:x=b→Rep st w v c) (hn:x≠b→c=undef):Rep st w (.opt x b v) c
 |any (c):Rep st w .any c
 |mapv (r):Rep st w (.mapv r) (.map r)
 |conc (v):Rep st w (.conc v) v
structure Keeps (st st':Stab) (w w':World):Prop where
 sub:∀b o,st b o→st' b o
 cell:∀b o,st b o→w'.cell? ⟨b,o,none⟩=w.cell? ⟨b,o,none⟩
theorem Keeps.refl (st:Stab) (w:World):Keeps st st w w:=⟨fun _ _ h=>h,fun _ _ _=>rfl⟩
theorem Rep.mono {st st':Stab} {w w':World} (k:Keeps st st' w w') {v:AV} {c:Value} (h:Rep st w v c):Rep st' w' v c:=by
 induction h with
 |bool b=>exact .bool b
 |int kk n=>exact .int kk n
 |str s=>exact .str s
 |nilptr=>exact .nilptr
 |ptr b off=>exact .ptr b off
 |rptr cells b off c hcell _ ih=>
  exact .rptr cells b off c (fun j hj=>⟨k.sub _ _ (hcell j hj).1,(k.cell _ _ (hcell j hj).1).trans (hcell j hj).2⟩) ih
 |nils=>exact .nils
 |slice sz n el o a cap b off c hn hbase hlen hcell _ hown hone ih=>
  exact .slice sz n el o a cap b off c hn hbase hlen (fun i j hi hj=>⟨k.sub _ _ (hcell i j hi hj).1,(k.cell _ _ (hcell i j hi hj).1).trans (hcell i j hi hj).2⟩) ih hown hone
 |mslice b off len cap=>exact .mslice b off len cap
 |nilFunc=>exact .nilFunc
 |func fn f c f' c' hfl hcl _ _ ihf ihc=>exact .func fn f c f' c' hfl hcl ihf ihc
 |nilIface=>exact .nilIface
 |iface t v x _ ih=>exact .iface t v x ih
 |agg cells cs hl _ ih=>exact .agg cells cs hl ih
 |vec n el cs hl _ hone ih=>exact .vec n el cs hl ih hone
 |tuple vs xs hl _ ih=>exact .tuple vs xs hl ih
 |opt x b v c _ hn ih=>exact .opt x b v c ih hn
 |any c=>exact .any c
 |mapv r=>exact .mapv r
 |conc v=>exact .conc v
def Sub (v v':AV):Prop:=∀st w c,Rep st w v c→Rep st w v' c
theorem Sub.refl (v:AV):Sub v v:=fun _ _ _ h=>h
theorem Sub.trans {a b c:AV} (h:Sub a b) (k:Sub b c):Sub a c:=fun st w x r=>k st w x (h st w x r)
theorem Sub.nils (sz:Nat) (el:Nat→List AV):Sub .nils (.slice sz 0 el .full):=by
 intro st w c h
 cases h
 exact .slice sz 0 el .full none 0 0 0 (fun _ _=>undef) (Nat.le_refl _) (.inl rfl) (fun i hi=>absurd hi (by omega)) (fun i j hi=>absurd hi (by omega)) (fun i j v hi=>absurd hi (by omega)) rfl (fun i j hi=>absurd hi (by omega))
theorem Sub.view (sz n:Nat) (el:Nat→List AV) (o:Own):Sub (.slice sz n el o) (.slice sz n el .view):=by
 intro st w c h
 cases h with
 |slice _ _ _ _ a cap b off c hn hbase hlen hcell hrep hown hone=>
  exact .slice sz n el .view a cap b off c hn hbase hlen hcell hrep trivial hone
theorem Sub.nilsv (sz:Nat) (el:Nat→List AV):Sub .nils (.slice sz 0 el .view):=(Sub.nils sz el).trans (Sub.view _ _ _ _)
theorem Sub.tuple {vs vs':List AV} (hl:vs.length=vs'.length) (h:∀(j:Nat) (v v':AV),vs[j]?=some v→vs'[j]?=some v'→Sub v v'):Sub (.tuple vs) (.tuple vs'):=by
 intro st w c hr
 cases hr with
 |tuple _ xs hl2 h2=>
  refine .tuple vs' xs (by omega) fun j v' x hv' hx=>?_
  have hj:j<vs.length:=by
   have:=(List.getElem?_eq_some_iff.1 hv').1
   omega
  exact h j vs[j] v' (by simp[hj]) hv' _ _ _ (h2 j vs[j] x (by simp[hj]) hx)
theorem Sub.tuple2 {a b a' b':AV} (ha:Sub a a') (hb:Sub b b'):Sub (.tuple [a,b]) (.tuple [a',b']):=by
 refine Sub.tuple rfl fun j v v' h h'=>?_
 match j,h,h' with
 |0,h,h'=>simp at h h';subst h;subst h';exact ha
 |1,h,h'=>simp at h h';subst h;subst h';exact hb
 |j+2,h,h'=>simp at h
theorem Sub.tuple3 {a b c a' b' c':AV} (ha:Sub a a') (hb:Sub b b') (hc:Sub c c'):Sub (.tuple [a,b,c]) (.tuple [a',b',c']):=by
 refine Sub.tuple rfl fun j v v' h h'=>?_
 match j,h,h' with
 |0,h,h'=>simp at h h';subst h;subst h';exact ha
 |1,h,h'=>simp at h h';subst h;subst h';exact hb
 |2,h,h'=>simp at h h';subst h;subst h';exact hc
 |j+3,h,h'=>simp at h
abbrev Tmps:=List (Nat×AV)
theorem beq_ne {d t:Nat} (e:d≠t):Nat.beq d t=false:=by
 cases h:Nat.beq d t
 ·rfl
 ·exact absurd (Nat.eq_of_beq_eq_true h) e
def lk:Tmps→Nat→Option AV
 |[],_=>none
 |(d,v)::T,t=>cond (Nat.beq d t) (some v) (lk T t)
structure FR (N:Nat) (st:Stab) (w:World) (T:Tmps) (a:Act):Prop where
 size:a.tmps.size=N
 val:∀t v,lk T t=some v→∃c,a.tmps[t]?=some c∧Rep st w v c
theorem FR.mono {N:Nat} {st st':Stab} {w w':World} {T:Tmps} {a:Act} (h:FR N st w T a) (k:Keeps st st' w w'):FR N st' w' T a:=
 ⟨h.size,fun t v ht=>let ⟨c,h1,h2⟩:=h.val t v ht;⟨c,h1,h2.mono k⟩⟩
inductive Ent where
 |box (b:Nat) (ty:TypeId) (v:AV)
 |tok (a:Option Addr) (cap n sz:Nat) (e:TypeId)
 |loop (l N:Nat) (T:Tmps) (ps:Array Tmp) (assign body:Code)
 |done (l:Nat) (c:Code)
 |obj (b:Nat) (o:Obj)
 |prop (own:Nat→Prop) (F:World→Prop)
def Ent.owns:Ent→Nat→Prop
 |.box b _ _,k=>b=k
 |.tok a cap n _ _,k=>n<cap∧∃ad,a=some ad∧ad.block=k
 |.loop l _ _ _ _ _,k=>l=k
 |.done l _,k=>l=k
 |.obj b _,k=>b=k
 |.prop own _,k=>own k
def Ent.holds (st:Stab) (w:World):Ent→Prop
 |.box b ty v=>∃arr cv,w.heap[b]?=some (.cells arr ty (0,0))∧Rep st w v cv∧cv.cells=arr∧(∀x∈arr.toList,x.oneCell'=true)∧∀o,¬st b o
 |.tok a cap n sz e=>cap=n∨(n<cap∧∃g cur,a=some ⟨g,0,none⟩∧w.heap[g]?=some (.cells cur e (0,0))∧cap≤maxLen∧cur.size=cap*sz∧∀o,n*sz≤o→¬st g o)
 |.loop l N T ps assign body=>(∀o,¬st l o)∧∃R,w.heap[l]?=some (.loop R)∧R.state=.ready∧R.pending=none∧R.params=ps∧R.assign=assign∧R.body=body∧FR N st w T {tmps:=R.tmps,defers:=[]}
 |.obj b x=>(∀o,¬st b o)∧w.heap[b]?=some x∧∀c t f,x≠.cells c t f
 |.prop own F=>(∀b o,own b→¬st b o)∧(∀w1 w2:World,(∀b,own b→w2.heap[b]?=w1.heap[b]?)→F w1→F w2)∧F w
 |.done l c=>(∀o,¬st l o)∧∃R,w.heap[l]?=some (.loop R)∧R.state=.done∧R.pending=some c
abbrev AHeap:=List Ent
def AHeap.owns (H:AHeap) (k:Nat):Prop:=∃e∈H,e.owns k
structure Env0 where
 w0:World
 O:Nat→Prop
 st0:Stab
def Unf (w:World) (b:Nat):Prop:=∃c t,w.heap[b]?=some (.cells c t (0,0))
theorem Unf.same {w w':World} {b:Nat} (h:Unf w b) (e:w'.heap[b]?=w.heap[b]?):Unf w' b:=let ⟨c,t,k⟩:=h;⟨c,t,e.trans k⟩
structure Conc (E:Env0) (st:Stab) (H:AHeap) (w:World):Prop where
 os:w.os=E.w0.os
 tape:w.tape=E.w0.tape
 output:w.output=E.w0.output
 size:E.w0.heap.size≤w.heap.size
 old:∀k,k<E.w0.heap.size→¬E.O k→w.heap[k]?=E.w0.heap[k]?
 keep:∀b o,E.st0 b o→w.cell? ⟨b,o,none⟩=E.w0.cell? ⟨b,o,none⟩
 stle:∀b o,E.st0 b o→st b o
 stnew:∀b o,st b o→E.st0 b o∨E.w0.heap.size≤b∨E.O b
 stlt:∀b o,st b o→b<w.heap.size
 ownnew:∀k,AHeap.owns H k→E.O k∨E.w0.heap.size≤k
 ownlt:∀k,AHeap.owns H k→k<w.heap.size
 ents:∀e∈H,e.holds st w
 sep:H.Pairwise fun e e'=>∀k,e.owns k→¬e'.owns k
 fz:∀b o,st b o→(E.st0 b o→Unf E.w0 b)→Unf w b
def Env0.of (w:World) (st:Stab) (H:AHeap):Env0:=⟨w,AHeap.owns H,st⟩
theorem Conc.start {E:Env0} {st:Stab} {H:AHeap} {w:World} (h:Conc E st H w):Conc (Env0.of w st H) st H w:=
 ⟨rfl,rfl,rfl,Nat.le_refl _,fun _ _ _=>rfl,fun _ _ _=>rfl,fun _ _ h=>h,fun _ _ h=>.inl h,h.stlt,fun _ h=>.inl h,h.ownlt,h.ents,h.sep,fun _ _ h k=>k h⟩
theorem AHeap.owns_append (H F:AHeap) (k:Nat):AHeap.owns (H++F) k↔AHeap.owns H k∨AHeap.owns F k:=by
 simp only[AHeap.owns,List.mem_append]
 constructor
 ·rintro⟨e,he|he,h⟩
  ·exact .inl ⟨e,he,h⟩
  ·exact .inr ⟨e,he,h⟩
 ·rintro(⟨e,he,h⟩|⟨e,he,h⟩)
  ·exact⟨e,.inl he,h⟩
  ·exact⟨e,.inr he,h⟩
theorem Ent.holds_keep {e:Ent} {st st':Stab} {w w':World} (k:Keeps st st' w w') (h:e.holds st w)
  (hb:∀b,e.owns b→w'.heap[b]?=w.heap[b]?) (hs:∀b o,e.owns b→st' b o→st b o):e.holds st' w':=by
 cases e with
 |box b ty v=>
  obtain⟨arr,cv,h1,h2,h3,h4,h5⟩:=h
  exact⟨arr,cv,by rw[hb b rfl];exact h1,h2.mono k,h3,h4,fun o ho=>h5 o (hs b o rfl ho)⟩
 |tok a cap n sz ty=>
  rcases h with h|⟨hlt,g,cur,h1,h2,h3,h4,h5⟩
  ·exact .inl h
  ·have ho:Ent.owns (.tok a cap n sz ty) g:=⟨hlt,⟨g,0,none⟩,h1,rfl⟩
   exact .inr ⟨hlt,g,cur,h1,by rw[hb g ho];exact h2,h3,h4,fun o hle hst=>h5 o hle (hs g o ho hst)⟩
 |loop l N T ps assign body=>
  obtain⟨h0,R,h1,h2,h3,h4,h5,h6,h7⟩:=h
  exact⟨fun o ho=>h0 o (hs l o rfl ho),R,by rw[hb l rfl];exact h1,h2,h3,h4,h5,h6,h7.mono k⟩
 |obj b x=>
  obtain⟨h0,h1,h2⟩:=h
  exact⟨fun o ho=>h0 o (hs b o rfl ho),by rw[hb b rfl];exact h1,h2⟩
 |prop own F=>
  obtain⟨h1,h2,h3⟩:=h
  exact⟨fun b o hb ho=>h1 b o hb (hs b o hb ho),h2,h2 _ _ (fun b ho=>hb b ho) h3⟩
 |done l c=>
  obtain⟨h0,R,h1,h2,h3⟩:=h
  exact⟨fun o ho=>h0 o (hs l o rfl ho),R,by rw[hb l rfl];exact h1,h2,h3⟩
theorem Conc.call {E:Env0} {st st':Stab} {Hc Hc' F:AHeap} {w w':World} (h:Conc E st (Hc++F) w) (h':Conc (Env0.of w st Hc) st' Hc' w'):
  Conc E st' (Hc'++F) w'∧Keeps st st' w w':=by
 have k:Keeps st st' w w':=⟨h'.stle,h'.keep⟩
 have hsep:=List.pairwise_append.1 h.sep
 have hF:∀e∈F,∀b,e.owns b→¬AHeap.owns Hc b:=by
  rintro e he b hb ⟨e2,he2,hb2⟩
  exact hsep.2.2 e2 he2 e he b hb2 hb
 have hFlt:∀e∈F,∀b,e.owns b→b<w.heap.size:=fun e he b hb=>h.ownlt b ⟨e,List.mem_append.2 (.inr he),hb⟩
 refine⟨⟨h'.os.trans h.os,h'.tape.trans h.tape,h'.output.trans h.output,Nat.le_trans h.size h'.size,?_,?_,?_,?_,h'.stlt,?_,?_,?_,?_,fun b o hs hk=>h'.fz b o hs fun hst=>h.fz b o hst hk⟩,k⟩
 ·intro b hb hO
  by_cases hc:AHeap.owns Hc b
  ·rcases h.ownnew b ((AHeap.owns_append _ _ _).2 (.inl hc))with x|x
   ·exact absurd x hO
   ·omega
  ·exact(h'.old b (Nat.lt_of_lt_of_le hb h.size) hc).trans (h.old b hb hO)
 ·exact fun b o hs=>(h'.keep b o (h.stle b o hs)).trans (h.keep b o hs)
 ·exact fun b o hs=>h'.stle b o (h.stle b o hs)
 ·intro b o hs
  rcases h'.stnew b o hs with x|x|x
  ·exact h.stnew b o x
  ·exact .inr (.inl (Nat.le_trans h.size x))
  ·rcases h.ownnew b ((AHeap.owns_append _ _ _).2 (.inl x))with y|y
   ·exact .inr (.inr y)
   ·exact .inr (.inl y)
 ·intro b hb
  rcases(AHeap.owns_append _ _ _).1 hb with x|x
  ·rcases h'.ownnew b x with y|y
   ·exact h.ownnew b ((AHeap.owns_append _ _ _).2 (.inl y))
   ·exact .inr (Nat.le_trans h.size y)
  ·exact h.ownnew b ((AHeap.owns_append _ _ _).2 (.inr x))
 ·intro b hb
  rcases(AHeap.owns_append _ _ _).1 hb with x|x
  ·exact h'.ownlt b x
  ·exact Nat.lt_of_lt_of_le (h.ownlt b ((AHeap.owns_append _ _ _).2 (.inr x))) h'.size
 ·intro e he
  rcases List.mem_append.1 he with x|x
  ·exact h'.ents e x
  ·refine Ent.holds_keep k (h.ents e (List.mem_append.2 (.inr x))) (fun b hb=>h'.old b (hFlt e x b hb) (hF e x b hb)) ?_
   intro b o hb hs
   rcases h'.stnew b o hs with y|y|y
   ·exact y
   ·exact absurd (hFlt e x b hb) (by have:w.heap.size≤b:=y;omega)
   ·exact absurd y (hF e x b hb)
 ·refine List.pairwise_append.2 ⟨h'.sep,hsep.2.1,?_⟩
  intro e he e2 he2 b hb hb2
  rcases h'.ownnew b ⟨e,he,hb⟩with y|y
  ·exact hF e2 he2 b hb2 y
  ·exact absurd (hFlt e2 he2 b hb2) (by have:w.heap.size≤b:=y;omega)
theorem Conc.perm {E:Env0} {st:Stab} {H H':AHeap} {w:World} (h:Conc E st H w) (p:H.Perm H'):Conc E st H' w:=by
 have ho:∀k,AHeap.owns H' k→AHeap.owns H k:=fun k ⟨e,he,hk⟩=>⟨e,p.mem_iff.2 he,hk⟩
 exact⟨h.os,h.tape,h.output,h.size,h.old,h.keep,h.stle,h.stnew,h.stlt,fun k hk=>h.ownnew k (ho k hk),fun k hk=>h.ownlt k (ho k hk),
  fun e he=>h.ents e (p.mem_iff.2 he),(p.pairwise_iff (fun {a b} hab k ha hb=>hab k hb ha)).1 h.sep,h.fz⟩
theorem Conc.drop {E:Env0} {st:Stab} {H F:AHeap} {w:World} (h:Conc E st (H++F) w):Conc E st H w:=by
 have ho:∀k,AHeap.owns H k→AHeap.owns (H++F) k:=fun k hk=>(AHeap.owns_append _ _ _).2 (.inl hk)
 exact⟨h.os,h.tape,h.output,h.size,h.old,h.keep,h.stle,h.stnew,h.stlt,fun k hk=>h.ownnew k (ho k hk),fun k hk=>h.ownlt k (ho k hk),
  fun e he=>h.ents e (List.mem_append.2 (.inl he)),(List.pairwise_append.1 h.sep).1,h.fz⟩
theorem Conc.drop_front {E:Env0} {st:Stab} {H F:AHeap} {w:World} (h:Conc E st (F++H) w):Conc E st H w:=
 (h.perm List.perm_append_comm).drop
end Go.Ab
namespace Go.Ab
theorem FR.weaken {N:Nat} {st:Stab} {w:World} {T T':Tmps} {a:Act} (h:FR N st w T a)
  (hs:∀t v',lk T' t=some v'→∃v,lk T t=some v∧Sub v v'):FR N st w T' a:=
 ⟨h.size,fun t v' ht=>let ⟨v,h1,h2⟩:=hs t v' ht;let ⟨c,h3,h4⟩:=h.val t v h1;⟨c,h3,h2 _ _ _ h4⟩⟩
theorem FR.put {N:Nat} {st:Stab} {w:World} {T:Tmps} {a:Act} (h:FR N st w T a) {d:Nat} (hd:Nat.ble (d+1) N=true) {v:AV} {c:Value} (hr:Rep st w v c):
  FR N st w ((d,v)::T) (a.put (some d) c):=by
 refine⟨by simp[Act.put,h.size],fun t v' ht=>?_⟩
 have hdN:d<N:=Nat.le_of_ble_eq_true hd
 by_cases e:d=t
 ·subst e
  simp[lk]at ht
  subst ht
  exact⟨c,by simp[Act.put,h.size,hdN],hr⟩
 ·have hb:Nat.beq d t=false:=beq_ne e
  simp[lk,hb]at ht
  obtain⟨c',h1,h2⟩:=h.val t v' ht
  exact⟨c',by simp[Act.put,Array.getElem?_setIfInBounds_ne e,h1],h2⟩
def del:Tmps→Nat→Tmps
 |[],_=>[]
 |(d,v)::T,t=>cond (Nat.beq d t) (del T t) ((d,v)::del T t)
inductive AX where
 |normal
 |exit (id:Nat)
 |goto (l:Nat)
 |ret
 |panic (v:AV)
def XR (st:Stab) (w:World):Exit→AX→Prop
 |.normal,.normal=>True
 |.exit i,.exit j=>i=j
 |.goto i,.goto j=>i=j
 |.ret,.ret=>True
 |.panic ch,.panic v=>∃c,ch=[{v:=c,recovered:=false}]∧Rep st w v c
 |_,_=>False
abbrev APost:=AX→Tmps→AHeap→Prop
def fen (r:Option Nat):Fence:={Fence.wide with round:=r}
def Gl (H:AHeap) (w:World):Prop:=∀g∈globs,¬AHeap.owns H g.b∧∃c t f,w.heap[g.b]?=some (.cells c t f)∧g.p c
theorem Gl.sub {H H':AHeap} {w:World} (h:Gl H w) (ho:∀k,AHeap.owns H' k→AHeap.owns H k):Gl H' w:=
 fun g hg=>⟨fun x=>(h g hg).1 (ho _ x),(h g hg).2⟩
theorem Gl.keep {H H':AHeap} {w w':World} {st st':Stab} (h:Gl H w) (hc:Conc (Env0.of w st H) st' H' w'):Gl H' w':=by
 intro g hg
 obtain⟨h1,c,t,f,h2,h3⟩:=h g hg
 have hlt:=(Array.getElem?_eq_some_iff.1 h2).1
 refine⟨fun ho'=>?_,c,t,f,(hc.old g.b hlt h1).trans h2,h3⟩
 rcases hc.ownnew g.b ho' with y|y
 ·exact h1 y
 ·have:w.heap.size≤g.b:=y
  omega
theorem Gl.putObj {H:AHeap} {w:World} (h:Gl H w) {b:Nat} {x y:Obj} (hb:w.heap[b]?=some x) (hx:∀c t f,x≠.cells c t f):Gl H (w.putObj b y):=by
 intro g hg
 obtain⟨h1,c,t,f,h2,h3⟩:=h g hg
 refine⟨h1,c,t,f,?_,h3⟩
 rw[World.putObj_heap_other]
 ·exact h2
 ·intro e
  rw[e,hb]at h2
  cases h2
  exact hx _ _ _ rfl
structure Fr0 (r:Option Nat) (B:Nat) (H:AHeap) (w:World) (ds:List Deferred):Prop where
 marks:∀d∈ds,∃b,d={target:=.collected b,args:= #[]}∧w.heap[b]?=some (.deferred (some []))∧¬AHeap.owns H b∧B≤b
 nodup:ds.Nodup
 size:B≤w.heap.size
 lrec:∀l,r=some l→(∃R,w.heap[l]?=some (.loop R))∧¬AHeap.owns H l
 gl:Gl H w
theorem Conc.trans {E:Env0} {st st':Stab} {H H':AHeap} {w w':World} (h:Conc E st H w) (h':Conc (Env0.of w st H) st' H' w'):Conc E st' H' w':=by
 have:=(Conc.call (F:=[]) (by simpa using h) h').1
 simpa using this
theorem Fr0.keep {r:Option Nat} {B:Nat} {H H':AHeap} {w w':World} {st st':Stab} {ds:List Deferred} (h:Fr0 r B H w ds) (hc:Conc (Env0.of w st H) st' H' w'):Fr0 r B H' w' ds:=by
 have key:∀b,b<w.heap.size→¬AHeap.owns H b→w'.heap[b]?=w.heap[b]?∧¬AHeap.owns H' b:=by
  intro b hb ho
  refine⟨hc.old b hb ho,fun ho'=>?_⟩
  rcases hc.ownnew b ho' with x|x
  ·exact ho x
  ·have:w.heap.size≤b:=x
   omega
 refine⟨fun d hd=>?_,h.nodup,Nat.le_trans h.size hc.size,fun l hl=>?_,h.gl.keep hc⟩
 ·obtain⟨b,h1,h2,h3,h4⟩:=h.marks d hd
  obtain⟨k1,k2⟩:=key b (Array.getElem?_eq_some_iff.1 h2).1 h3
  exact⟨b,h1,k1.trans h2,k2,h4⟩
 ·obtain⟨⟨R,h1⟩,h2⟩:=h.lrec l hl
  obtain⟨k1,k2⟩:=key l (Array.getElem?_eq_some_iff.1 h1).1 h2
  exact⟨⟨R,k1.trans h1⟩,k2⟩
theorem Fr0.sub {r:Option Nat} {B:Nat} {H H':AHeap} {w:World} {ds:List Deferred} (h:Fr0 r B H w ds) (ho:∀k,AHeap.owns H' k→AHeap.owns H k):Fr0 r B H' w ds:=
 ⟨fun d hd=>let ⟨b,h1,h2,h3,h4⟩:=h.marks d hd;⟨b,h1,h2,fun x=>h3 (ho b x),h4⟩,h.nodup,h.size,fun l hl=>let ⟨h1,h2⟩:=h.lrec l hl;⟨h1,fun x=>h2 (ho l x)⟩,h.gl.sub ho⟩
theorem Fr0.none_nil {H:AHeap} {w:World} (h:Gl H w):Fr0 none w.heap.size H w []:=⟨fun d hd=>(by cases hd),List.nodup_nil,Nat.le_refl _,fun l hl=>(by cases hl),h⟩
structure Bs where
 lo:Nat
 D:List Deferred
def Fr (r:Option Nat) (B:Bs) (H:AHeap) (w:World) (ds:List Deferred):Prop:=∃ms,ds=ms++B.D∧Fr0 r B.lo H w ms
theorem Fr.keep {r:Option Nat} {B:Bs} {H H':AHeap} {w w':World} {st st':Stab} {ds:List Deferred} (h:Fr r B H w ds) (hc:Conc (Env0.of w st H) st' H' w'):Fr r B H' w' ds:=
 let ⟨ms,e,h⟩:=h;⟨ms,e,h.keep hc⟩
theorem Fr.sub {r:Option Nat} {B:Bs} {H H':AHeap} {w:World} {ds:List Deferred} (h:Fr r B H w ds) (ho:∀k,AHeap.owns H' k→AHeap.owns H k):Fr r B H' w ds:=
 let ⟨ms,e,h⟩:=h;⟨ms,e,h.sub ho⟩
theorem Fr.gl {r:Option Nat} {B:Bs} {H:AHeap} {w:World} {ds:List Deferred} (h:Fr r B H w ds):Gl H w:=let ⟨_,_,h⟩:=h;h.gl
theorem Fr.none_nil {H:AHeap} {w:World} (h:Gl H w):Fr none ⟨w.heap.size,[]⟩ H w []:=⟨[],rfl,Fr0.none_nil h⟩
def Post (E:Env0) (N:Nat) (r:Option Nat) (B:Bs) (Q:APost):Exit→Act→World→Prop
 |.outgrown,_,_=>False
 |e,a,w=>∃st T H x,Conc E st H w∧FR N st w T a∧Fr r B H w a.defers∧XR st w e x∧Q x T H
def AWP (P:Program) (N:Nat) (c:Code) (T:Tmps) (H:AHeap) (Q:APost):Prop:=
 ∀E st w a r B,Conc E st H w→FR N st w T a→Fr r B H w a.defers→c.wpIn (fen r) 0 P (Post E N r B Q) a w
def thenQ (K:Tmps→AHeap→Prop) (Q:APost):APost
 |.normal,T,H=>K T H
 |e,T,H=>Q e T H
section
variable {P:Program} {N:Nat} {T:Tmps} {H:AHeap} {Q:APost}
theorem Post.mk {E:Env0} {r:Option Nat} {B:Bs} {st:Stab} {e:Exit} {a:Act} {w:World} {x:AX} (hc:Conc E st H w) (hf:FR N st w T a) (hd:Fr r B H w a.defers) (hx:XR st w e x) (hq:Q x T H):
  Post E N r B Q e a w:=by
 cases e<;>first|exact⟨st,T,H,x,hc,hf,hd,hx,hq⟩|(cases x<;>exact hx.elim)
theorem Post.mono {E:Env0} {r:Option Nat} {B:Bs} {Q':APost} (h:∀x T H,Q x T H→Q' x T H) {e:Exit} {a:Act} {w:World} (hp:Post E N r B Q e a w):Post E N r B Q' e a w:=by
 cases e<;>first
  |exact hp.elim
  |(obtain⟨st,T,H,x,h1,h2,h3,h4,h5⟩:=hp;exact⟨st,T,H,x,h1,h2,h3,h4,h _ _ _ h5⟩)
theorem awp_mono {c:Code} {Q':APost} (h:AWP P N c T H Q) (hq:∀x T H,Q x T H→Q' x T H):AWP P N c T H Q':=
 fun E st w a r B hc hf hd=>wpIn_mono (h E st w a r B hc hf hd) fun _ _ _ hp=>Post.mono hq hp
theorem awp_skip (h:Q .normal T H):AWP P N .skip T H Q:=fun _ _ _ _ _ _ hc hf hd=>wpIn_skip (Post.mk hc hf hd (x:=.normal) trivial h)
theorem awp_label {l:Nat} (h:Q .normal T H):AWP P N (.label l) T H Q:=fun _ _ _ _ _ _ hc hf hd=>wpIn_label (Post.mk hc hf hd (x:=.normal) trivial h)
theorem awp_exit {id:Nat} (h:Q (.exit id) T H):AWP P N (.exit id) T H Q:=fun _ _ _ _ _ _ hc hf hd=>wpIn_exit (Post.mk hc hf hd (x:=.exit id) rfl h)
theorem awp_ret (h:Q .ret T H):AWP P N .ret T H Q:=fun _ _ _ _ _ _ hc hf hd=>wpIn_ret (Post.mk hc hf hd (x:=.ret) trivial h)
theorem awp_seq {x y:Code} (h:AWP P N x T H (thenQ (fun T' H'=>AWP P N y T' H' Q) Q)):AWP P N (.seq x y) T H Q:=by
 intro E st w a r B hc hf hd
 refine wpIn_seq (wpIn_mono (h E st w a r B hc hf hd) ?_)
 intro e a' w' hp
 cases e with
 |outgrown=>exact hp.elim
 |normal=>
  obtain⟨st',T',H',x,h1,h2,h3,h4,h5⟩:=hp
  cases x<;>first|exact h4.elim|exact h5 E st' w' a' r B h1 h2 h3
 |_=>
  obtain⟨st',T',H',x,h1,h2,h3,h4,h5⟩:=hp
  cases x<;>first|exact h4.elim|exact⟨st',T',H',_,h1,h2,h3,h4,h5⟩
theorem awp_seq_k {x y:Code} (h:∀K:Tmps→AHeap→Prop,(∀T' H',AWP P N y T' H' Q→K T' H')→AWP P N x T H (thenQ K Q)):AWP P N (.seq x y) T H Q:=
 awp_seq (h _ fun _ _ h=>h)
def blockQ (id:Nat) (Q:APost):APost
 |.exit j,T,H=>if j=id then Q .normal T H else Q (.exit j) T H
 |e,T,H=>Q e T H
theorem awp_block {id:Nat} {c:Code} (h:AWP P N c T H (blockQ id Q)):AWP P N (.block id c) T H Q:=by
 intro E st w a r B hc hf hd
 refine wpIn_block (wpIn_mono (h E st w a r B hc hf hd) ?_)
 intro e a' w' hp
 cases e with
 |outgrown=>exact hp.elim
 |exit i=>
  obtain⟨st',T',H',x,h1,h2,h3,h4,h5⟩:=hp
  cases x<;>first|exact h4.elim|skip
  obtain rfl:i=_:=h4
  by_cases e:i=id
  ·simp only[Exit.inBlock,e,if_true]
   simp only[blockQ,e,if_true]at h5
   exact Post.mk h1 h2 h3 (x:=.normal) trivial h5
  ·simp only[Exit.inBlock,e,if_false]
   simp only[blockQ,e,if_false]at h5
   exact Post.mk h1 h2 h3 (x:=.exit i) rfl h5
 |_=>
  obtain⟨st',T',H',x,h1,h2,h3,h4,h5⟩:=hp
  cases x<;>first|exact h4.elim|exact⟨st',T',H',_,h1,h2,h3,h4,h5⟩
def ofCell:Value→Option AV
 |.bool b=>some (.bool b)
 |.int k n=>some (.int k n)
 |.string s=>some (.str s.data.toList)
 |.pointer none=>some .nilptr
 |.slice none 0 0=>some .nils
 |.nilFunc=>some .nilFunc
 |.nilIface=>some .nilIface
 |.map none=>some (.mapv none)
 |_=>none
def ofCells:List Value→Option (List AV)
 |[]=>some []
 |v::vs=>match ofCell v with
  |some x=>match ofCells vs with
   |some xs=>some (x::xs)
   |none=>none
  |none=>none
def ofConst:Value→Option AV
 |.agg cs=>match ofCells cs.toList with
  |some xs=>some (.agg xs)
  |none=>none
 |v=>ofCell v
theorem ofCell_rep {st:Stab} {w:World} {v:Value} {x:AV} (h:ofCell v=some x):Rep st w x v:=by
 unfold ofCell at h
 split at h<;>first|(cases h;done)|skip
 all_goals (simp only[Option.some.injEq]at h;subst h)
 ·exact .bool _
 ·exact .int _ _
 ·rename_i s
  have:=Rep.str (st:=st) (w:=w) s.data.toList
  exact this
 ·exact .nilptr
 ·exact .nils
 ·exact .nilFunc
 ·exact .nilIface
 ·exact .mapv _
theorem ofCells_rep {st:Stab} {w:World}:∀(vs:List Value) (xs:List AV),ofCells vs=some xs→
  vs.length=xs.length∧∀(j:Nat) (v:AV) (x:Value),xs[j]?=some v→vs[j]?=some x→Rep st w v x
 |[],xs,h=>by simp[ofCells]at h;subst h;simp
 |v::vs,xs,h=>by
  simp only[ofCells]at h
  cases h1:ofCell v with
  |none=>simp[h1]at h
  |some x=>
   cases h2:ofCells vs with
   |none=>simp[h1,h2]at h
   |some ys=>
    simp[h1,h2]at h
    subst h
    obtain⟨hl,hr⟩:=ofCells_rep vs ys h2
    refine⟨by simp[hl],fun j u y hu hy=>?_⟩
    match j,hu,hy with
    |0,hu,hy=>simp at hu hy;subst hu;subst hy;exact ofCell_rep h1
    |j+1,hu,hy=>exact hr j u y (by simpa using hu) (by simpa using hy)
theorem ofConst_rep {st:Stab} {w:World} {v:Value} {x:AV} (h:ofConst v=some x):Rep st w x v:=by
 unfold ofConst at h
 split at h
 ·rename_i cs
  cases h1:ofCells cs.toList with
  |none=>simp[h1]at h
  |some xs=>
   simp[h1]at h
   subst h
   obtain⟨hl,hr⟩:=ofCells_rep (st:=st) (w:=w) _ _ h1
   have:=Rep.agg (st:=st) (w:=w) xs cs.toList hl hr
   simpa using this
 ·exact ofCell_rep h
def opv (T:Tmps):Operand→Option AV
 |.tmp t=>lk T t
 |.const v=>ofConst v
 |.global _=>none
 |.func f=>some (.func (.func f) [] [])
theorem opv_rep {st:Stab} {w:World} {a:Act} (hf:FR N st w T a) {x:Operand} {v:AV} (h:opv T x=some v):Rep st w v (a.eval x):=by
 cases x with
 |tmp t=>
  obtain⟨c,h1,h2⟩:=hf.val t v h
  simpa [Act.eval,h1]using h2
 |const c=>exact ofConst_rep h
 |global g=>simp[opv]at h
 |func f=>
  simp[opv]at h
  subst h
  exact Rep.func (.func f) [] [] [] [] rfl rfl (by simp) (by simp)
theorem Rep.bool_eq {st:Stab} {w:World} {b:Bool} {c:Value} (h:Rep st w (.bool b) c):c=.bool b:=by cases h;rfl
theorem Rep.int_eq {st:Stab} {w:World} {k:IntKind} {n:Int} {c:Value} (h:Rep st w (.int k n) c):c=.int k n:=by cases h;rfl
theorem Rep.str_eq {st:Stab} {w:World} {s:List UInt8} {c:Value} (h:Rep st w (.str s) c):c=.string ⟨s.toArray⟩:=by cases h;rfl
theorem awp_cond {c:Operand} {x y:Code} {b:Bool} (hc:opv T c=some (.bool b)) (ht:b=true→AWP P N x T H Q) (hf:b=false→AWP P N y T H Q):
  AWP P N (.cond c x y) T H Q:=by
 intro E st w a r B h1 h2 h3
 have he:=(opv_rep h2 hc).bool_eq
 exact wpIn_cond_split he (fun hb=>ht hb E st w a r B h1 h2 h3) (fun hb=>hf hb E st w a r B h1 h2 h3)
theorem awp_cond_true {c:Operand} {x y:Code} (hc:opv T c=some (.bool true)) (h:AWP P N x T H Q):AWP P N (.cond c x y) T H Q:=
 awp_cond hc (fun _=>h) (fun e=>by cases e)
theorem awp_cond_false {c:Operand} {x y:Code} (hc:opv T c=some (.bool false)) (h:AWP P N y T H Q):AWP P N (.cond c x y) T H Q:=
 awp_cond hc (fun e=>by cases e) (fun _=>h)
theorem awp_weaken {c:Code} {T':Tmps} (hs:∀t v',lk T' t=some v'→∃v,lk T t=some v∧Sub v v') (h:AWP P N c T' H Q):AWP P N c T H Q:=
 fun E st w a r B h1 h2 h3=>h E st w a r B h1 (h2.weaken hs) h3
theorem awp_perm {c:Code} {H':AHeap} (p:H.Perm H') (h:AWP P N c T H' Q):AWP P N c T H Q:=
 fun E st w a r B h1 h2 h3=>h E st w a r B (h1.perm p) h2 (h3.sub fun _ ⟨e,he,hk⟩=>⟨e,p.mem_iff.2 he,hk⟩)
theorem awp_drop {c:Code} {F:AHeap} (h:AWP P N c T H Q):AWP P N c T (H++F) Q:=
 fun E st w a r B h1 h2 h3=>h E st w a r B h1.drop h2 (h3.sub fun _ ⟨e,he,hk⟩=>⟨e,List.mem_append.2 (.inl he),hk⟩)
def Turns (N:Nat) (T:Tmps) (H:AHeap) (S:Tmps→AHeap→Prop):Prop:=
 ∀E st w a,Conc E st H w→FR N st w T a→∃st' T' H',Conc E st' H' w∧FR N st' w T' a∧S T' H'
theorem awp_turn {c:Code} {S:Tmps→AHeap→Prop} (h:Turns N T H S) (hk:∀T' H',S T' H'→AWP P N c T' H' Q):AWP P N c T H Q:=by
 intro E st w a r B h1 h2 h3
 obtain⟨st',T',H',g1,g2,g3⟩:=h (Env0.of w st H) st w a h1.start h2
 exact hk T' H' g3 E st' w a r B (h1.trans g1) g2 (h3.keep g1)
theorem wpIn_loop_ix {F:Fence} {n:Nat} {c:Code} {Q:Exit→Act→World→Prop} {a:Act} {w:World} {ι:Type} (I:ι→Act→World→Prop) (μ:ι→Nat) (i0:ι) (h₀:I i0 a w)
  (round:∀i a w,I i a w→c.wpIn F n P (Exit.then (fun a' w'=>∃i',I i' a' w'∧μ i'<μ i) Q) a w):(Code.loop c).wpIn F n P Q a w:=by
 intro b k cs hro hb hr
 have key:∀j i a w,μ i=j→I i a w→
   ∃e a' w',Q e a' w'∧ArrivesIn (Machine.fenced P F) P (lone (b.atR a (.code c::.inLoop c::k)) cs w) b k cs e a' w':=by
  intro j
  induction j using Nat.strongRecOn with
  |_ j ih=>
   intro i a w hn hI
   obtain⟨e,a₁,w₁,hq,harr⟩:=round i a w hI b (.inLoop c::k) cs hro hb hr
   cases e with
   |normal=>
    obtain⟨i',hI₁,hlt⟩:=hq
    obtain⟨e₂,a₂,w₂,hq₂,harr₂⟩:=ih (μ i') (hn▸hlt) i' a₁ w₁ rfl hI₁
    exact⟨e₂,a₂,w₂,hq₂,.of_steps (StepsIn.trans harr (.one (fenced_calm hb hr rfl) stepR_inLoop)) harr₂⟩
   |exit id=>exact⟨_,a₁,w₁,hq,.pass (x:=.inLoop c) rfl (fun _ _=>.inl (by simp)) harr⟩
   |goto l=>exact⟨_,a₁,w₁,hq,.pass (x:=.inLoop c) rfl (fun _ _=>.inl (by simp)) harr⟩
   |ret=>exact⟨_,a₁,w₁,hq,.pass (x:=.inLoop c) rfl (fun _ _=>.inl (by simp)) harr⟩
   |panic ch=>exact⟨_,a₁,w₁,hq,.pass (x:=.inLoop c) rfl (fun _ _=>.inl (by simp)) harr⟩
   |outgrown=>exact⟨_,a₁,w₁,hq,.pass (x:=.inLoop c) rfl (fun _ _=>.inl (by simp)) harr⟩
 obtain⟨e,a',w',hq,harr⟩:=key _ i0 a w rfl h₀
 exact⟨e,a',w',hq,.of_steps (.one (fenced_calm hb hr rfl) stepR_loop) harr⟩
theorem awp_loop {c:Code} (ι:Type) (I:ι→Tmps) (J:ι→AHeap) (μ:ι→Nat)
  (h0:Turns N T H fun T' H'=>∃i,T'=I i∧H'=J i)
  (round:∀i,AWP P N c (I i) (J i) (thenQ (fun T' H'=>Turns N T' H' fun T'' H''=>∃i',T''=I i'∧H''=J i'∧μ i'<μ i) Q)):
  AWP P N (.loop c) T H Q:=by
 intro E st w a r B h1 h2 h3
 obtain⟨st0,T0,H0,g1,g2,i0,rfl,rfl⟩:=h0 (Env0.of w st H) st w a h1.start h2
 refine wpIn_loop_ix (fun i a' w'=>∃st',Conc E st' (J i) w'∧FR N st' w' (I i) a'∧Fr r B (J i) w' a'.defers) μ i0 ⟨st0,h1.trans g1,g2,h3.keep g1⟩ ?_
 rintro i a' w' ⟨st',k1,k2,k3⟩
 refine wpIn_mono (round i E st' w' a' r B k1 k2 k3) ?_
 intro e a2 w2 hp
 cases e with
 |outgrown=>exact hp.elim
 |normal=>
  obtain⟨s2,T2,H2,x,l1,l2,l3,l4,l5⟩:=hp
  cases x<;>first|exact l4.elim|skip
  obtain⟨s3,T3,H3,n1,n2,i',rfl,rfl,hlt⟩:=l5 (Env0.of w2 s2 H2) s2 w2 a2 l1.start l2
  exact⟨i',⟨s3,l1.trans n1,n2,l3.keep n1⟩,hlt⟩
 |_=>
  obtain⟨s2,T2,H2,x,l1,l2,l3,l4,l5⟩:=hp
  cases x<;>first|exact l4.elim|exact⟨s2,T2,H2,_,l1,l2,l3,l4,l5⟩
end
end Go.Ab
namespace Go.Ab
inductive TyK where
 |int (k:IntKind)
 |bool
 |str
 |ptr (e:TypeId)
 |iface
 |func
 |map (k e:TypeId)
 |slice (e:TypeId)
 |struct (fs:List (Nat×TypeId))
 |array (n:Nat) (e:TypeId)
 |other
structure TyI where
 k:TyK
 size:Nat
 bytes:Nat
 zero:AV
def TyK.fits:TyK→TypeDesc→Prop
 |.int k,d=>d=.int k
 |.bool,d=>d=.bool
 |.str,d=>d=.string
 |.ptr e,d=>d=.pointer e
 |.iface,d=>∃m,d=.interface m
 |.func,d=>∃a b c,d=.func a b c
 |.map k e,d=>d=.map k e
 |.slice e,d=>d=.slice e
 |.struct fs,d=>∃a:Array Field,d=.struct a∧a.toList.map (fun f=>(f.offset,f.type))=fs
 |.array n e,d=>d=.array n e
 |.other,_=>True
def TyOk (P:Program) (ty:TypeId→Option TyI):Prop:=∀t i,ty t=some i→
 (∃d,P.underlying t=some d∧i.k.fits d)∧
 ∃inf z,P.info? t=some inf∧inf.size=i.size∧inf.bytes=i.bytes∧inf.zero=some z∧z.cells.size=i.size∧(∀st w,Rep st w i.zero z)∧∀x∈z.cells.toList,x.oneCell'=true
def TyK.isAgg:TyK→Bool
 |.struct _|.array _ _=>true
 |_=>false
def inK:IntKind→Int→Prop
 |.i8,n=> -128≤n∧n≤127
 |.i16,n=> -32768≤n∧n≤32767
 |.i32,n=> -2147483648≤n∧n≤2147483647
 |.i64,n=> -9223372036854775808≤n∧n≤9223372036854775807
 |.u8,n=>0≤n∧n≤255
 |.u16,n=>0≤n∧n≤65535
 |.u32,n=>0≤n∧n≤4294967295
 |.u64,n=>0≤n∧n≤18446744073709551615
theorem wrap_inK {k:IntKind} {n:Int} (h:inK k n):k.wrap n=n:=by
 cases k<;>simp only[inK]at h
 ·exact IntWalk.i8_in n h
 ·exact IntWalk.i16_in n h
 ·exact IntWalk.i32_in n h
 ·exact IntWalk.i64_in n h
 ·exact IntWalk.u8_in n h
 ·exact IntWalk.u16_in n h
 ·exact IntWalk.u32_in n h
 ·exact IntWalk.u64_in n h
def arith (k:IntKind) (n:Int):Option (Prop×AV):=
 match k with
 |.i64=>some (inK .i64 n,.int .i64 n)
 |k=>some (True,.int k (k.wrap n))
def bits (op:BinOp) (k:IntKind) (x y:Int):Int:=
 let a:=BitVec.ofInt k.bits x
 let b:=BitVec.ofInt k.bits y
 match op with
 |.and=>k.wrap (a&&& b).toNat
 |.or=>k.wrap (a |||b).toNat
 |.xor=>k.wrap (a^^^b).toNat
 |.andNot=>k.wrap (a&&& ~~~b).toNat
 |_=>0
def aint (op:BinOp) (k:IntKind) (a b:Int):Option (Prop×AV):=
 match op with
 |.add=>arith k (a+b)
 |.sub=>arith k (a-b)
 |.mul=>arith k (a*b)
 |.quo=>some (0≤a∧0<b∧inK k a,.int k (a/b))
 |.rem=>some (0≤a∧0<b,.int k (a%b))
 |.and=>some (True,.int k (bits .and k a b))
 |.or=>some (True,.int k (bits .or k a b))
 |.xor=>some (True,.int k (bits .xor k a b))
 |.andNot=>some (True,.int k (bits .andNot k a b))
 |.eql=>some (True,.bool (a==b))
 |.neq=>some (True,.bool (a !=b))
 |.lss=>some (True,.bool (decide (a<b)))
 |.leq=>some (True,.bool (decide (a≤b)))
 |.gtr=>some (True,.bool (decide (a>b)))
 |.geq=>some (True,.bool (decide (a≥b)))
 |_=>none
def astr (op:BinOp) (a b:List UInt8):Option (Prop×AV):=
 match op with
 |.add=>some (a.length+b.length≤9223372036854775807,.str (a++b))
 |.eql=>some (True,.bool (a==b))
 |.neq=>some (True,.bool (!(a==b)))
 |.lss=>some (True,.bool (Op.bytesLess a b))
 |.leq=>some (True,.bool (Op.bytesLess a b || a==b))
 |.gtr=>some (True,.bool (!(Op.bytesLess a b || a==b)))
 |.geq=>some (True,.bool (!(Op.bytesLess a b)))
 |_=>none
def abin (op:BinOp) (x y:AV):Option (Prop×AV):=
 match x with
 |.int k a=>match y with
  |.int k' b=>match op with
   |.shl=>some (0≤b,.int k (k.wrap (a*2^(min b.toNat k.bits))))
   |.shr=>some (0≤b,.int k (a.fdiv (2^(min b.toNat k.bits))))
   |op=>if k=k' then aint op k a b else none
  |_=>none
 |.str a=>match y with
  |.str b=>astr op a b
  |_=>none
 |_=>none
def abool (op:BinOp) (x y:AV):Option (Prop×AV):=
 match x with
 |.bool a=>match y with
  |.bool b=>match op with
   |.eql=>some (True,.bool (a==b))
   |.neq=>some (True,.bool (!(a==b)))
   |_=>none
  |_=>none
 |_=>none
def aun (op:UnOp) (x:AV):Option (Prop×AV):=
 match op with
 |.not=>match x with
  |.bool b=>some (True,.bool (!b))
  |_=>none
 |.neg=>match x with
  |.int k n=>arith k (0-n)
  |_=>none
 |_=>none
def TyK.isOther:TyK→Bool
 |.other=>true
 |_=>false
def partOf' (i:TyI) (cells:List AV):Option AV:=
 match i.k.isAgg with
 |true=>cond (Nat.ble i.size cells.length) (some (.agg (cells.take i.size))) none
 |false=>cells.head?
def partOf (i:TyI) (cells:List AV):Option AV:=cond i.k.isOther none (partOf' i cells)
theorem partOf_not {i:TyI} {cells:List AV} {v:AV} (h:partOf i cells=some v):(i.k=.other→False)∧partOf' i cells=some v:=by
 unfold partOf at h
 cases hk:i.k.isOther with
 |true=>simp[hk]at h
 |false=>
  refine⟨fun e=>?_,by simpa [hk]using h⟩
  rw[e]at hk
  cases hk
def afaddr (fs:List (Nat×TypeId)) (fsz:TypeId→Option Nat) (x:AV) (f:Nat):Option (Prop×AV):=
 match fs[f]? with
 |some (off,ft)=>match fsz ft with
  |some (_+1)=>match x with
   |.ptr b o=>some (True,.ptr b (o+off))
   |.rptr cells=>some (True,.rptr (cells.drop off))
   |_=>none
  |_=>none
 |none=>none
def afield (fs:List (Nat×TypeId)) (ti:TypeId→Option TyI) (x:AV) (f:Nat):Option (Prop×AV):=
 match fs[f]? with
 |some (off,ft)=>match ti ft with
  |some i=>match x with
   |.agg cells=>match partOf i (cells.drop off)with
    |some v=>some (True,v)
    |none=>none
   |_=>none
  |none=>none
 |none=>none
def aidxaddr (k:TyK) (ti:TypeId→Option TyI) (x:AV) (ix:AV):Option (Prop×AV):=
 match ix with
 |.int _ i=>match k with
  |.slice e=>match ti e with
   |some ei=>match x with
    |.slice sz n el _=>cond (Nat.beq sz ei.size) (some (0≤i∧i<(n:Int),.rptr (el i.toNat))) none
    |.mslice b off len _=>cond (Nat.beq ei.size 1) (some (0≤i∧i<(len:Int),.ptr b (off+i.toNat))) none
    |_=>none
   |none=>none
  |.array n e=>match ti e with
   |some ei=>match x with
    |.ptr b off=>cond (Nat.beq ei.size 1) (some (0≤i∧i<(n:Int),.ptr b (off+i.toNat))) none
    |_=>none
   |none=>none
  |_=>none
 |_=>none
def aindex (k:TyK) (ti:TypeId→Option TyI) (x:AV) (ix:AV):Option (Prop×AV):=
 match ix with
 |.int _ i=>match k with
  |.str=>match x with
   |.str s=>some (0≤i∧i<(s.length:Int),.int .u8 (s.getD i.toNat 0).toNat)
   |_=>none
  |.array n e=>match ti e with
   |some ei=>match x with
    |.vec n' el=>cond (Nat.beq n n'&& !ei.k.isAgg&& !ei.k.isOther&&Nat.beq ei.size 1) (some (0≤i∧i<(n:Int),el i.toNat)) none
    |_=>none
   |none=>none
  |_=>none
 |_=>none
def aslice (k:TyK) (ti:TypeId→Option TyI) (x:AV) (lo hi:Option AV):Option (Prop×AV):=
 match k with
 |.str=>match x with
  |.str s=>match lo with
   |none=>match hi with
    |none=>some (True,.str s)
    |some (.int _ h)=>some (0≤h∧h≤(s.length:Int),.str (s.take h.toNat))
    |_=>none
   |some (.int _ l)=>match hi with
    |none=>some (0≤l∧l≤(s.length:Int),.str (s.drop l.toNat))
    |some (.int _ h)=>some (0≤l∧l≤h∧h≤(s.length:Int),.str ((s.take h.toNat).drop l.toNat))
    |_=>none
   |_=>none
  |_=>none
 |.slice e=>match ti e with
  |none=>none
  |some ei=>match x with
   |.slice sz n el _=>cond (Nat.beq sz ei.size) (match lo with
    |none=>match hi with
     |none=>some (True,.slice sz n el .view)
     |some (.int _ h)=>some (0≤h∧h≤(n:Int),.slice sz h.toNat el .view)
     |_=>none
    |some (.int _ l)=>match hi with
     |none=>some (0≤l∧l≤(n:Int),.slice sz (n-l.toNat) (fun i=>el (l.toNat+i)) .view)
     |some (.int _ h)=>some (0≤l∧l≤h∧h≤(n:Int),.slice sz (h.toNat-l.toNat) (fun i=>el (l.toNat+i)) .view)
     |_=>none
    |_=>none) none
   |_=>none
 |_=>none
def alenS (x:AV):Option (Prop×AV):=
 match x with
 |.str s=>some (True,.int .i64 s.length)
 |_=>none
def alen (x:AV):Option (Prop×AV):=
 match x with
 |.slice _ n _ _=>some (True,.int .i64 n)
 |.mslice _ _ n _=>some (True,.int .i64 n)
 |.nils=>some (True,.int .i64 0)
 |_=>none
def cellsOf:AV→Option (List AV)
 |.agg cs=>some cs
 |.vec _ _=>none
 |.tuple _=>none
 |.opt _ _ _=>none
 |.any=>none
 |.conc _=>none
 |v=>some [v]
def setAt {α:Type}:List α→Nat→List α→List α
 |l,_,[]=>l
 |l,off,v::vs=>setAt (l.set off v) (off+1) vs
def abuild (fs:List (Nat×TypeId)) (ti:TypeId→Option TyI):List AV→List (Nat×AV)→Option (List AV)
 |cells,[]=>some cells
 |cells,(f,v)::rest=>match fs[f]? with
  |some (off,ft)=>match ti ft with
   |some i=>match cellsOf v with
    |some vs=>cond (Nat.beq vs.length i.size&&Nat.ble (off+vs.length) cells.length) (abuild fs ti (setAt cells off vs) rest) none
    |none=>none
   |none=>none
  |none=>none
def mapF (F:Operand→Option AV):List Operand→Option (List AV)
 |[]=>some []
 |x::xs=>match F x with
  |some v=>match mapF F xs with
   |some vs=>some (v::vs)
   |none=>none
  |none=>none
def mapP (F:Operand→Option AV):List (Nat×Operand)→Option (List (Nat×AV))
 |[]=>some []
 |(i,x)::xs=>match F x with
  |some v=>match mapP F xs with
   |some vs=>some ((i,v)::vs)
   |none=>none
  |none=>none
def optF (F:Operand→Option AV):Option Operand→Option (Option AV)
 |none=>some none
 |some x=>match F x with
  |some v=>some (some v)
  |none=>none
def just (x:Option AV):Option (Prop×AV):=match x with|some v=>some (True,v)|none=>none
def aconv (ks kd:TyK) (x:AV):Option (Prop×AV):=
 match kd with
 |.int k=>match x with
  |.int _ n=>some (True,.int k (k.wrap n))
  |_=>none
 |.str=>match ks with
  |.str=>match x with
   |.str s=>some (True,.str s)
   |_=>none
  |_=>none
 |_=>none
def amm (b:Builtin) (x y:AV):Option (Prop×AV):=
 match x with
 |.int k a=>match y with
  |.int _ c=>match b with
   |.min=>some (True,.int k (if c<a then c else a))
   |.max=>some (True,.int k (if c>a then c else a))
   |_=>none
  |_=>none
 |_=>none
def aeval (ty:TypeId→Option TyI) (F:Operand→Option AV):Op→Option (Prop×AV)
 |.move x=>just (F x)
 |.assign x=>just (F x)
 |.pick c a b=>match F c with
  |some (.bool true)=>just (F a)
  |some (.bool false)=>just (F b)
  |_=>none
 |.binOp op t x y _=>match F x with
  |some vx=>match F y with
   |some vy=>match ty t with
    |some i=>match i.k with
     |.bool=>abool op vx vy
     |.int _=>abin op vx vy
     |.str=>abin op vx vy
     |_=>none
    |none=>none
   |none=>none
  |none=>none
 |.unOp op _ x=>match F x with
  |some v=>aun op v
  |none=>none
 |.convert s d x=>match F x with
  |some v=>match ty s with
   |some is=>match ty d with
    |some id=>aconv is.k id.k v
    |none=>none
   |none=>none
  |none=>none
 |.fieldAddr s x f=>match F x with
  |some v=>match ty s with
   |some i=>match i.k with
    |.struct fs=>afaddr fs (fun t=>(ty t).map (·.size)) v f
    |_=>none
   |none=>none
  |none=>none
 |.field s x f=>match F x with
  |some v=>match ty s with
   |some i=>match i.k with
    |.struct fs=>afield fs ty v f
    |_=>none
   |none=>none
  |none=>none
 |.indexAddr t x ix=>match F x with
  |some v=>match F ix with
   |some vi=>match ty t with
    |some i=>aidxaddr i.k ty v vi
    |none=>none
   |none=>none
  |none=>none
 |.index t x ix=>match F x with
  |some v=>match F ix with
   |some vi=>match ty t with
    |some i=>aindex i.k ty v vi
    |none=>none
   |none=>none
  |none=>none
 |.load t a=>match F a with
  |some (.rptr cells)=>match ty t with
   |some i=>just (partOf i cells)
   |none=>none
  |_=>none
 |.slice t x lo hi none=>match F x with
  |some v=>match optF F lo with
   |some vlo=>match optF F hi with
    |some vhi=>match ty t with
     |some i=>aslice i.k ty v vlo vhi
     |none=>none
    |none=>none
   |none=>none
  |none=>none
 |.build t ps=>match ty t with
  |some i=>match i.k with
   |.struct fs=>match i.zero with
    |.agg z=>match mapP F ps.toList with
     |some vs=>match abuild fs ty z vs with
      |some cells=>cond (fs.all fun q=>(ty q.2).isSome) (some (True,.agg cells)) none
      |none=>none
     |none=>none
    |_=>none
   |_=>none
  |none=>none
 |.makeFunc fn first captured=>match mapF F first.toList with
  |some f=>match mapF F captured.toList with
   |some c=>some (True,.func fn f c)
   |none=>none
  |none=>none
 |.makeInterface t x=>match F x with
  |some v=>match ty t with
   |some i=>match i.k with
    |.iface=>none
    |.other=>none
    |_=>some (True,.iface t v)
   |none=>none
  |none=>none
 |.extract x ix=>match F x with
  |some (.tuple vs)=>just vs[ix]?
  |_=>none
 |.nilCheck x=>match F x with
  |some (.ptr b o)=>some (True,.ptr b o)
  |some (.rptr c)=>some (True,.rptr c)
  |some (.func (.func f) a c)=>some (True,.func (.func f) a c)
  |_=>none
 |.call {callee:=.builtin b,args:=args,argTypes:=ats}=>match b with
  |.len=>match args.toList with
   |[x]=>match F x with
    |some v=>match ats.toList with
     |[t]=>match ty t with
      |some i=>match i.k with
       |.str=>alenS v
       |.slice _=>alen v
       |_=>none
      |none=>none
     |_=>none
    |none=>none
   |_=>none
  |.min=>match args.toList with
   |[x,y]=>match F x with
    |some v=>match F y with
     |some u=>amm .min v u
     |none=>none
    |none=>none
   |_=>none
  |.max=>match args.toList with
   |[x,y]=>match F x with
    |some v=>match F y with
     |some u=>amm .max v u
     |none=>none
    |none=>none
   |_=>none
  |_=>none
 |_=>none
end Go.Ab
namespace Go.Ab
section
variable {P:Program} {st:Stab} {w:World} {ty:TypeId→Option TyI}
theorem exec_v {s:Sem Value} {c:Value} (h:s.run P w=.ok c w):((do pure (.value (←s))):Sem Next).run P w=.ok (.value c) w:=by
 simp[h]
def plainPair:Value→Value→Bool
 |.nilIface,.nilIface=>false
 |.agg _,.agg _=>false
 |_,_=>true
theorem run_eqGuard_plain {op:BinOp} {t:TypeId} {x y:Operand} {a b:Value}
  (h:plainPair a b=true):(eqGuard op t x y a b).run P w=.ok () w:=by
 unfold eqGuard
 cases op<;>simp
 all_goals (split<;>first|(simp[plainPair]at h;done)|rfl)
theorem run_int {op:BinOp} {k:IntKind} {a b:Int} {p:Prop} {v:AV} {t:TypeId} (h:aint op k a b=some (p,v)) (hp:p):
  ∃c,(binOp op t (.int k a) (.int k b)).run P w=.ok c w∧Rep st w v c:=by
 have ar:∀n:Int,arith k n=some (p,v)→(∃c,Result.ok (Value.int k (k.wrap n)) w=.ok c w∧Rep st w v c):=by
  intro n hn
  unfold arith at hn
  split at hn
  ·simp only[Option.some.injEq,Prod.mk.injEq]at hn
   obtain⟨rfl,rfl⟩:=hn
   rw[wrap_inK hp]
   exact⟨_,rfl,.int _ _⟩
  ·simp only[Option.some.injEq,Prod.mk.injEq]at hn
   obtain⟨_,rfl⟩:=hn
   exact⟨_,rfl,.int _ _⟩
 cases op<;>simp only[aint,Option.some.injEq,Prod.mk.injEq,reduceCtorEq]at h
 case add=>simpa [binOp,Op.intArith]using ar _ h
 case sub=>simpa [binOp,Op.intArith]using ar _ h
 case mul=>simpa [binOp,Op.intArith]using ar _ h
 case quo=>
  obtain⟨rfl,rfl⟩:=h
  obtain⟨h0,h1,h2⟩:=hp
  have e:a.tdiv b=a/b:=Int.tdiv_eq_ediv_of_nonneg h0
  have hne:b≠0:=by omega
  have hin:inK k (a/b):=by
   have h3:0≤a/b:=Int.ediv_nonneg h0 (by omega)
   have h4:a/b≤a:=Int.ediv_le_self _ h0
   cases k<;>simp only[inK]at h2 ⊢ <;>omega
  refine⟨.int k (a/b),?_,.int _ _⟩
  simp[binOp,Op.intDiv,hne,e,wrap_inK hin]
 case rem=>
  obtain⟨rfl,rfl⟩:=h
  obtain⟨h0,h1⟩:=hp
  have e:a.tmod b=a%b:=Int.tmod_eq_emod_of_nonneg h0
  have hne:b≠0:=by omega
  exact⟨.int k (a%b),by simp[binOp,Op.intDiv,hne,e],.int _ _⟩
 case and|or|xor|andNot=>
  obtain⟨_,rfl⟩:=h
  refine⟨.int k (bits _ k a b),?_,.int _ _⟩
  simp[binOp,Op.intBits,bits]
 all_goals
  obtain⟨_,rfl⟩:=h
  refine⟨.bool _,?_,.bool _⟩
  simp[binOp,Op.intCmp]
theorem run_str {op:BinOp} {a b:List UInt8} {p:Prop} {v:AV} {t:TypeId} (h:astr op a b=some (p,v)) (hp:p):
  ∃c,(binOp op t (.string ⟨a.toArray⟩) (.string ⟨b.toArray⟩)).run P w=.ok c w∧Rep st w v c:=by
 have ha:(ByteArray.mk a.toArray).toList=a:=by rw[Lib.toList_data]
 have hb:(ByteArray.mk b.toArray).toList=b:=by rw[Lib.toList_data]
 cases op<;>simp only[astr,Option.some.injEq,Prod.mk.injEq,reduceCtorEq]at h
 all_goals
  obtain⟨hpp,rfl⟩:=h
 case add=>
  subst hpp
  refine⟨.string ⟨(a++b).toArray⟩,?_,.str _⟩
  have e:(ByteArray.mk a.toArray++ByteArray.mk b.toArray)=⟨(a++b).toArray⟩:=by
   apply ByteArray.ext
   simp[ByteArray.data_append]
  have hs:(ByteArray.mk a.toArray).size=a.length:=by simp[ByteArray.size]
  have hs2:(ByteArray.mk b.toArray).size=b.length:=by simp[ByteArray.size]
  have hm:IntKind.i64.max=9223372036854775807:=by decide
  have hn:¬((((ByteArray.mk a.toArray).size+(ByteArray.mk b.toArray).size:Nat):Int)>IntKind.i64.max):=by
   rw[hs,hs2,hm];omega
  simp only[binOp,Op.stringOp,if_neg hn,e]
  rfl
 all_goals
  exact⟨_,by simp only[binOp,Op.stringOp,ha,hb];rfl,.bool _⟩
theorem abin_sound {op:BinOp} {vx vy v:AV} {x y:Value} {p:Prop} {t:TypeId} (hx:Rep st w vx x) (hy:Rep st w vy y) (h:abin op vx vy=some (p,v)) (hp:p):
  (∃c,(binOp op t x y).run P w=.ok c w∧Rep st w v c)∧plainPair x y=true:=by
 unfold abin at h
 split at h
 ·rename_i k a
  obtain rfl:=hx.int_eq
  split at h
  ·rename_i k' b
   obtain rfl:=hy.int_eq
   refine⟨?_,rfl⟩
   split at h
   ·simp only[Option.some.injEq,Prod.mk.injEq]at h
    obtain⟨rfl,rfl⟩:=h
    have:¬b<0:=by omega
    exact⟨_,by simp[binOp,Op.shift,this],.int _ _⟩
   ·simp only[Option.some.injEq,Prod.mk.injEq]at h
    obtain⟨rfl,rfl⟩:=h
    have:¬b<0:=by omega
    exact⟨_,by simp[binOp,Op.shift,this],.int _ _⟩
   ·split at h
    ·rename_i e
     subst e
     exact run_int h hp
    ·cases h
  ·cases h
 ·rename_i a
  obtain rfl:=hx.str_eq
  split at h
  ·rename_i b
   obtain rfl:=hy.str_eq
   exact⟨run_str h hp,rfl⟩
  ·cases h
 ·cases h
theorem abool_sound {op:BinOp} {vx vy v:AV} {x y:Value} {p:Prop} {t:TypeId} (ht:P.underlying t=some .bool) (hx:Rep st w vx x) (hy:Rep st w vy y) (h:abool op vx vy=some (p,v)):
  (∃c,(binOp op t x y).run P w=.ok c w∧Rep st w v c)∧plainPair x y=true:=by
 unfold abool at h
 split at h
 ·rename_i a
  obtain rfl:=hx.bool_eq
  split at h
  ·rename_i b
   obtain rfl:=hy.bool_eq
   refine⟨?_,rfl⟩
   have he:(Op.equal t (.bool a) (.bool b)).run P w=.ok (a==b) w:=by
    unfold Op.equal Op.maxDepth
    rw[Op.equalIn,Sem.run_bind,run_underlying ht]
    rfl
   split at h
   ·simp only[Option.some.injEq,Prod.mk.injEq]at h
    obtain⟨_,rfl⟩:=h
    refine⟨.bool (a==b),?_,.bool _⟩
    show Sem.run P (do pure (Value.bool (←Op.equal t _ _))) w=_
    rw[Sem.run_bind,he]
    rfl
   ·simp only[Option.some.injEq,Prod.mk.injEq]at h
    obtain⟨_,rfl⟩:=h
    refine⟨.bool (!(a==b)),?_,.bool _⟩
    show Sem.run P (do pure (Value.bool (!(←Op.equal t _ _)))) w=_
    rw[Sem.run_bind,he]
    rfl
   ·cases h
  ·cases h
 ·cases h
theorem aun_sound {op:UnOp} {vx v:AV} {x:Value} {p:Prop} (hx:Rep st w vx x) (h:aun op vx=some (p,v)) (hp:p):
  ∃c,(Op.unary op x).run P w=.ok c w∧Rep st w v c:=by
 unfold aun at h
 split at h
 ·split at h
  ·rename_i b
   obtain rfl:=hx.bool_eq
   simp only[Option.some.injEq,Prod.mk.injEq]at h
   obtain⟨_,rfl⟩:=h
   exact⟨.bool !b,rfl,.bool _⟩
  ·cases h
 ·split at h
  ·rename_i k n
   obtain rfl:=hx.int_eq
   unfold arith at h
   split at h
   ·simp only[Option.some.injEq,Prod.mk.injEq]at h
    obtain⟨rfl,rfl⟩:=h
    refine⟨.int .i64 (0-n),?_,.int _ _⟩
    simp only[Op.unary,Op.intArith,wrap_inK hp]
    rfl
   ·simp only[Option.some.injEq,Prod.mk.injEq]at h
    obtain⟨_,rfl⟩:=h
    exact⟨_,rfl,.int _ _⟩
  ·cases h
 ·cases h
theorem list_take_rep {cells:List AV} {cs:List Value} {n:Nat} (hl:cs.length=cells.length)
  (h:∀(j:Nat) (v:AV) (x:Value),cells[j]?=some v→cs[j]?=some x→Rep st w v x):
  Rep st w (.agg (cells.take n)) (.agg ⟨cs.take n⟩):=by
 refine .agg _ _ (by simp[hl]) fun j v x hv hx=>?_
 rw[List.getElem?_take]at hv hx
 split at hv
 ·rename_i hj;rw[if_pos hj]at hx;exact h j v x hv hx
 ·cases hv
theorem run_isAgg {t:TypeId} {d:TypeDesc} {k:TyK} (hd:P.underlying t=some d) (hk:k.fits d) (ho:∀(_:k=.other),False):
  (isAgg t).run P w=.ok k.isAgg w:=by
 unfold isAgg
 rw[Sem.run_bind,run_underlying hd w]
 cases k<;>simp only[TyK.fits,TyK.isAgg]at hk ⊢
 case other=>exact absurd rfl ho
 case iface=>obtain⟨m,rfl⟩:=hk;rfl
 case func=>obtain⟨x,y,z,rfl⟩:=hk;rfl
 case struct=>obtain⟨x,rfl,_⟩:=hk;rfl
 all_goals (subst hk;rfl)
theorem run_sizeOf {t:TypeId} {inf:TypeInfo} (h:P.info? t=some inf):(sizeOf t).run P w=.ok inf.size w:=by
 simp[sizeOf,typeInfo,h]
theorem run_zeroValue {t:TypeId} {inf:TypeInfo} {z:Value} (h:P.info? t=some inf) (hz:inf.zero=some z):(zeroValue t).run P w=.ok z w:=by
 simp[zeroValue,typeInfo,h,hz]
theorem part_sound (hty:TyOk P ty) {t:TypeId} {i:TyI} (hi:ty t=some i) {cells:List AV} {cs:List Value} (hl:cs.length=cells.length)
  (h:∀(j:Nat) (v:AV) (x:Value),cells[j]?=some v→cs[j]?=some x→Rep st w v x) {off:Nat} {v:AV} (hp:partOf i (cells.drop off)=some v):
  ∃c,(part t ⟨cs⟩ off).run P w=.ok c w∧Rep st w v c:=by
 obtain⟨⟨d,hd,hk⟩,inf,z,hinf,hsz,hby,hz,hzs,hzr⟩:=hty t i hi
 obtain⟨ho,hp⟩:=partOf_not hp
 have ha:=run_isAgg (w:=w) hd hk ho
 unfold part
 rw[Sem.run_bind,ha]
 unfold partOf' at hp
 have hd':∀(j:Nat) (v:AV) (x:Value),(cells.drop off)[j]?=some v→(cs.drop off)[j]?=some x→Rep st w v x:=fun j v x hv hx=>h (off+j) v x (by simpa using hv) (by simpa using hx)
 cases hag:i.k.isAgg with
 |true=>
  rw[hag]at hp
  cases hle:Nat.ble i.size (cells.drop off).length with
  |false=>simp only[hle,cond_false,reduceCtorEq]at hp
  |true=>
   simp only[hle,cond_true,Option.some.injEq]at hp
   subst hp
   have hle':i.size≤cells.length-off:=by simpa using Nat.le_of_ble_eq_true hle
   refine⟨.agg ⟨(cs.drop off).take i.size⟩,?_,list_take_rep (by simp[hl]) hd'⟩
   have e:(Array.mk cs).extract off (off+i.size)=⟨(cs.drop off).take i.size⟩:=by
    apply Array.ext'
    simp
   simp[Result.andThen,run_sizeOf hinf,hsz]
 |false=>
  rw[hag]at hp
  simp only at hp
  rw[List.head?_drop]at hp
  have hlt:off<cs.length:=by
   have:=(List.getElem?_eq_some_iff.1 hp).1
   omega
  have hx:cs[off]?=some cs[off]:=by simp[hlt]
  refine⟨cs[off],?_,h off v cs[off] hp hx⟩
  simp[Result.andThen,hx]
theorem addr_add (b off n:Nat):(⟨b,off,none⟩:Addr).add n=⟨b,off+n,none⟩:=by
 unfold Addr.add
 split
 ·rename_i h;subst h;rfl
 ·rfl
theorem rptr_load_sound (hty:TyOk P ty) {t:TypeId} {i:TyI} (hi:ty t=some i) {cells:List AV} {x:Value} (hx:Rep st w (.rptr cells) x)
  {v:AV} (hp:partOf i cells=some v):∃c,(Instr.loadAt t x).run P w=.ok c w∧Rep st w v c:=by
 obtain⟨⟨d,hd,hk⟩,inf,z,hinf,hsz,hby,hz,hzs,hzr⟩:=hty t i hi
 obtain⟨ho,hp⟩:=partOf_not hp
 have ha:=run_isAgg (w:=w) hd hk ho
 cases hx with
 |rptr _ b off c hcell hrep=>
  unfold Instr.loadAt
  simp only[Instr.sureAddr,Sem.run_bind,Sem.run_pure,Result.andThen_ok]
  unfold loadVar
  rw[Sem.run_bind,ha]
  unfold partOf' at hp
  cases hag:i.k.isAgg with
  |true=>
   rw[hag]at hp
   cases hle:Nat.ble i.size cells.length with
   |false=>simp[hle]at hp
   |true=>
    simp[hle]at hp
    subst hp
    have hle':=Nat.le_of_ble_eq_true hle
    have hl:=run_loadCells (P:=P) w ⟨b,off,none⟩ i.size c (fun j hj=>by rw[addr_add];exact(hcell j (by omega)).2)
    refine⟨.agg ⟨(List.range i.size).map c⟩,?_,?_⟩
    ·simp[Result.andThen,run_sizeOf hinf,hsz,hl]
    ·refine .agg _ _ (by simp;omega) fun j v x hv hx=>?_
     have hj:j<i.size:=by
      have:=(List.getElem?_eq_some_iff.1 hx).1
      simpa using this
     simp[hj]at hx
     subst hx
     rw[List.getElem?_take,if_pos hj]at hv
     exact hrep j v hv
  |false=>
   rw[hag]at hp
   simp only at hp
   have hne:0<cells.length:=by cases cells<;>simp at hp ⊢
   have h0:=(hcell 0 hne).2
   refine⟨c 0,?_,hrep 0 v (by rw[←List.head?_eq_getElem?];exact hp)⟩
   simp only[Nat.add_zero]at h0
   simp[Result.andThen,h0]
theorem afaddr_sound (hty:TyOk P ty) {s:TypeId} {i:TyI} {fs:List (Nat×TypeId)} (hi:ty s=some i) (hk:i.k=.struct fs) {vx v:AV} {x:Value} {f:Nat} {p:Prop}
  (hx:Rep st w vx x) (h:afaddr fs (fun t=>(ty t).map (·.size)) vx f=some (p,v)):∃c,(Instr.fieldAt s x f).run P w=.ok c w∧Rep st w v c:=by
 obtain⟨⟨d,hd,hkf⟩,-⟩:=hty s i hi
 rw[hk]at hkf
 obtain⟨a,rfl,ha⟩:=hkf
 unfold afaddr at h
 cases hf:fs[f]? with
 |none=>simp[hf]at h
 |some q=>
  obtain⟨off,ft⟩:=q
  simp only[hf]at h
  cases hft:ty ft with
  |none=>simp[hft]at h
  |some fi=>
   obtain⟨-,inf,z,hinf,hsz,-⟩:=hty ft fi hft
   simp only[hft,Option.map_some]at h
   have hfa:∃fl,a[f]?=some fl∧fl.offset=off∧fl.type=ft:=by
    rw[←ha]at hf
    simp only[List.getElem?_map,Array.getElem?_toList]at hf
    cases hq:a[f]? with
    |none=>simp[hq]at hf
    |some fl=>
     simp[hq]at hf
     exact⟨fl,rfl,hf.1,hf.2⟩
   obtain⟨fl,hfl,rfl,rfl⟩:=hfa
   cases hn:fi.size with
   |zero=>simp[hn]at h
   |succ n=>
    simp only[hn]at h
    have hne:¬inf.size=0:=by omega
    have hplace:∀ad:Addr,(fieldPlace ad fl).run P w=.ok (ad.add fl.offset) w:=by
     intro ad
     simp[fieldPlace,sizeOf,typeInfo,hinf,hne]
    cases hx with
    |ptr b o=>
     simp only[Option.some.injEq,Prod.mk.injEq]at h
     obtain⟨-,rfl⟩:=h
     refine⟨.pointer (some ⟨b,o+fl.offset,none⟩),?_,.ptr _ _⟩
     unfold Instr.fieldAt
     simp[run_underlying hd,hfl,Instr.sureAddr,hplace,addr_add]
    |rptr cells b o c hcell hrep=>
     simp only[Option.some.injEq,Prod.mk.injEq]at h
     obtain⟨-,rfl⟩:=h
     refine⟨.pointer (some ⟨b,o+fl.offset,none⟩),?_,?_⟩
     ·unfold Instr.fieldAt
      simp[run_underlying hd,hfl,Instr.sureAddr,hplace,addr_add]
     ·refine .rptr _ b (o+fl.offset) (fun j=>c (fl.offset+j)) (fun j hj=>?_) (fun j v hv=>?_)
      ·have:=hcell (fl.offset+j) (by simp at hj;omega)
       simpa [Nat.add_assoc]using this
      ·exact hrep (fl.offset+j) v (by simpa using hv)
    |_=>simp at h
theorem afield_sound (hty:TyOk P ty) {s:TypeId} {i:TyI} {fs:List (Nat×TypeId)} (hi:ty s=some i) (hk:i.k=.struct fs) {vx v:AV} {x:Value} {f:Nat} {p:Prop}
  (hx:Rep st w vx x) (h:afield fs ty vx f=some (p,v)):∃c,(Instr.field s x f).run P w=.ok c w∧Rep st w v c:=by
 obtain⟨⟨d,hd,hkf⟩,-⟩:=hty s i hi
 rw[hk]at hkf
 obtain⟨a,rfl,ha⟩:=hkf
 unfold afield at h
 cases hf:fs[f]? with
 |none=>simp[hf]at h
 |some q=>
  obtain⟨off,ft⟩:=q
  simp only[hf]at h
  cases hft:ty ft with
  |none=>simp[hft]at h
  |some fi=>
   simp only[hft]at h
   have hfa:∃fl,a[f]?=some fl∧fl.offset=off∧fl.type=ft:=by
    rw[←ha]at hf
    simp only[List.getElem?_map,Array.getElem?_toList]at hf
    cases hq:a[f]? with
    |none=>simp[hq]at hf
    |some fl=>
     simp[hq]at hf
     exact⟨fl,rfl,hf.1,hf.2⟩
   obtain⟨fl,hfl,rfl,rfl⟩:=hfa
   cases hx with
   |agg cells cs hl hr=>
    simp only at h
    cases hp:partOf fi (cells.drop fl.offset)with
    |none=>simp[hp]at h
    |some u=>
     simp[hp]at h
     obtain⟨-,rfl⟩:=h
     obtain⟨c,h1,h2⟩:=part_sound (P:=P) hty hft hl hr hp
     refine⟨c,?_,h2⟩
     unfold Instr.field
     simp[run_underlying hd,hfl,asAgg,h1]
   |_=>simp at h
theorem aidxaddr_sound (hty:TyOk P ty) {t:TypeId} {i:TyI} (hi:ty t=some i) {vx vi v:AV} {x ix:Value} {p:Prop}
  (hx:Rep st w vx x) (hix:Rep st w vi ix) (h:aidxaddr i.k ty vx vi=some (p,v)) (hp:p):∃c,(Instr.indexAt t x ix).run P w=.ok c w∧Rep st w v c:=by
 obtain⟨⟨d,hd,hkf⟩,-⟩:=hty t i hi
 unfold aidxaddr at h
 split at h
 ·rename_i k n
  obtain rfl:=hix.int_eq
  split at h
  ·rename_i e hk
   rw[hk]at hkf
   obtain rfl:d=.slice e:=hkf
   cases he:ty e with
   |none=>simp[he]at h
   |some ei=>
    obtain⟨-,inf,z,hinf,hsz,-⟩:=hty e ei he
    simp only[he]at h
    cases hx with
    |slice sz m el o a cap b off c hn hbase hlen hcell hrep hown hone=>
     simp only at h
     cases hb:Nat.beq sz ei.size with
     |false=>simp[hb]at h
     |true=>
      simp only[hb,cond_true,Option.some.injEq,Prod.mk.injEq]at h
      obtain⟨rfl,rfl⟩:=h
      obtain rfl:=Nat.eq_of_beq_eq_true hb
      have hm:n.toNat<m:=by omega
      rcases hbase with hz|rfl
      ·omega
      ·refine⟨.pointer (some ⟨b,off+n.toNat*ei.size,none⟩),?_,?_⟩
       ·unfold Instr.indexAt
        simp[asIntOf,run_underlying hd,run_sizeOf hinf,hsz,hp.1,hp.2,addr_add]
       ·refine .rptr _ b _ (fun j=>c n.toNat j) (fun j hj=>?_) (fun j v hv=>hrep _ j v hm hv)
        rw[hlen _ hm]at hj
        have:=hcell n.toNat j hm hj
        simpa [Nat.add_assoc]using this
    |mslice b off len cap=>
     simp only at h
     cases hb:Nat.beq ei.size 1 with
     |false=>simp[hb]at h
     |true=>
      simp only[hb,cond_true,Option.some.injEq,Prod.mk.injEq]at h
      obtain⟨rfl,rfl⟩:=h
      have h1:ei.size=1:=Nat.eq_of_beq_eq_true hb
      refine⟨.pointer (some ⟨b,off+n.toNat,none⟩),?_,.ptr _ _⟩
      unfold Instr.indexAt
      simp[asIntOf,run_underlying hd,run_sizeOf hinf,hsz,h1,hp.1,hp.2,addr_add]
    |_=>simp at h
  ·rename_i m e hk
   rw[hk]at hkf
   obtain rfl:d=.array m e:=hkf
   cases he:ty e with
   |none=>simp[he]at h
   |some ei=>
    obtain⟨-,inf,z,hinf,hsz,-⟩:=hty e ei he
    simp only[he]at h
    cases hx with
    |ptr b off=>
     simp only at h
     cases hb:Nat.beq ei.size 1 with
     |false=>simp[hb]at h
     |true=>
      simp only[hb,cond_true,Option.some.injEq,Prod.mk.injEq]at h
      obtain⟨rfl,rfl⟩:=h
      have h1:ei.size=1:=Nat.eq_of_beq_eq_true hb
      refine⟨.pointer (some ⟨b,off+n.toNat,none⟩),?_,.ptr _ _⟩
      unfold Instr.indexAt
      simp[asIntOf,run_underlying hd,run_sizeOf hinf,hsz,h1,hp.1,hp.2,addr_add,Instr.sureAddr]
    |_=>simp at h
  ·cases h
 ·cases h
theorem getD_toArray (s:List UInt8) (n:Nat) (h:n<s.length):(ByteArray.mk s.toArray)[n]?=some (s.getD n 0):=by
 have hs:n<(ByteArray.mk s.toArray).size:=by simp[ByteArray.size,h]
 rw[getElem?_pos (ByteArray.mk s.toArray) n hs]
 congr 1
 simp[ByteArray.getElem_eq_getElem_data,List.getD,h]
theorem aindex_sound (hty:TyOk P ty) {t:TypeId} {i:TyI} (hi:ty t=some i) {vx vi v:AV} {x ix:Value} {p:Prop}
  (hx:Rep st w vx x) (hix:Rep st w vi ix) (h:aindex i.k ty vx vi=some (p,v)) (hp:p):∃c,(Instr.index t x ix).run P w=.ok c w∧Rep st w v c:=by
 obtain⟨⟨d,hd,hkf⟩,-⟩:=hty t i hi
 unfold aindex at h
 split at h
 ·rename_i k n
  obtain rfl:=hix.int_eq
  split at h
  ·rename_i hk
   rw[hk]at hkf
   obtain rfl:d=.string:=hkf
   split at h
   ·rename_i s
    obtain rfl:=hx.str_eq
    simp only[Option.some.injEq,Prod.mk.injEq]at h
    obtain⟨rfl,rfl⟩:=h
    have hm:n.toNat<s.length:=by omega
    refine⟨_,?_,.int _ _⟩
    unfold Instr.index
    simp only[asIntOf,Sem.run_bind,Sem.run_pure,Result.andThen_ok,run_underlying hd,hp.1,if_true,getD_toArray s _ hm]
   ·cases h
  ·rename_i m e hk
   rw[hk]at hkf
   obtain rfl:d=.array m e:=hkf
   cases he:ty e with
   |none=>simp[he]at h
   |some ei=>
    obtain⟨⟨de,hde,hke⟩,inf,z,hinf,hsz,-⟩:=hty e ei he
    simp only[he]at h
    cases hx with
    |vec m' el cs hl hr _=>
     simp only at h
     cases hb:(Nat.beq m m'&& !ei.k.isAgg&& !ei.k.isOther&&Nat.beq ei.size 1)with
     |false=>simp[hb]at h
     |true=>
      simp only[hb,cond_true,Option.some.injEq,Prod.mk.injEq]at h
      obtain⟨rfl,rfl⟩:=h
      simp only[Bool.and_eq_true,Bool.not_eq_true']at hb
      obtain⟨⟨⟨hmm,hna⟩,hno⟩,hs1⟩:=hb
      have hs1:ei.size=1:=Nat.eq_of_beq_eq_true hs1
      obtain rfl:=Nat.eq_of_beq_eq_true hmm
      have hm:n.toNat<cs.length:=by omega
      have hx:cs[n.toNat]?=some cs[n.toNat]:=by simp[hm]
      refine⟨cs[n.toNat],?_,hr _ _ hx⟩
      have ho:ei.k=.other→False:=by
       intro e'
       rw[e']at hno
       cases hno
      unfold Instr.index
      have hpart:(part e ⟨cs⟩ n.toNat).run P w=.ok cs[n.toNat] w:=by
       unfold part
       rw[Sem.run_bind,run_isAgg hde hke ho,hna]
       simp[Result.andThen,hx]
      simp only[asIntOf,Sem.run_bind,Sem.run_pure,Result.andThen_ok,run_underlying hd,hp.1,hp.2,if_true,and_self,run_sizeOf hinf,hsz,hs1,Nat.mul_one,hpart]
    |_=>simp at h
  ·cases h
 ·cases h
theorem slice_rep {sz n:Nat} {el:Nat→List AV} {o:Own} {a:Option Addr} {cap l h:Nat} (hx:Rep st w (.slice sz n el o) (.slice a n cap)) (hl:l≤h) (hh:h≤n):
  Rep st w (.slice sz (h-l) (fun i=>el (l+i)) .view) (.slice (if cap=l then a else a.map (·.add (l*sz))) (h-l) (cap-l)):=by
 cases hx with
 |slice _ _ _ _ _ _ b off c hn hbase hlen hcell hrep hown hone=>
  refine .slice sz (h-l) _ .view _ _ b (off+l*sz) (fun i j=>c (l+i) j) (by omega) ?_ (fun i hi=>hlen _ (by omega)) (fun i j hi hj=>?_) (fun i j v hi hv=>hrep _ j v (by omega) hv) trivial (fun i j hi hj=>hone _ j (by omega) hj)
  ·by_cases e:h-l=0
   ·exact .inl e
   ·refine .inr ?_
    rw[if_neg (by omega)]
    rcases hbase with hz|rfl
    ·omega
    ·simp[addr_add]
  ·have:=hcell (l+i) j (by omega) hj
   rw[Nat.add_mul]at this
   simpa [Nat.add_assoc]using this
theorem slice_len {sz n:Nat} {el:Nat→List AV} {o:Own} {x:Value} (hx:Rep st w (.slice sz n el o) x):∃a cap,x=.slice a n cap∧n≤cap:=by
 cases hx with
 |slice _ _ _ _ a cap b off c hn=>exact⟨a,cap,rfl,hn⟩
theorem str_extract (s:List UInt8) (l h:Nat):(ByteArray.mk s.toArray).extract l h=⟨((s.take h).drop l).toArray⟩:=by
 rw[Lib.extract_eq]
 congr 2
 rw[List.drop_take]
def optRep (st:Stab) (w:World):Option AV→Option Value→Prop
 |none,none=>True
 |some v,some x=>Rep st w v x
 |_,_=>False
theorem aslice_sound (hty:TyOk P ty) {t:TypeId} {i:TyI} (hti:ty t=some i) {vx v:AV} {vlo vhi:Option AV} {x:Value} {lo hi:Option Value} {p:Prop}
  (hx:Rep st w vx x) (hlo:optRep st w vlo lo) (hhi:optRep st w vhi hi) (h:aslice i.k ty vx vlo vhi=some (p,v)) (hp:p):
  ∃c,(Instr.sliceAt t x lo hi none).run P w=.ok c w∧Rep st w v c:=by
 obtain⟨⟨d,hd,hkf⟩,-⟩:=hty t i hti
 unfold aslice at h
 split at h
 ·rename_i hk
  rw[hk]at hkf
  obtain rfl:d=.string:=hkf
  split at h
  ·rename_i s
   obtain rfl:=hx.str_eq
   have hsz:(ByteArray.mk s.toArray).size=s.length:=by simp[ByteArray.size]
   split at h
   ·split at h
    ·simp only[Option.some.injEq,Prod.mk.injEq]at h
     obtain⟨rfl,rfl⟩:=h
     cases lo<;>cases hi<;>simp only[optRep]at hlo hhi
     refine⟨.string ⟨s.toArray⟩,?_,.str _⟩
     simp[Instr.sliceAt,Instr.slice,run_underlying hd,Instr.sliceBounds]
    ·rename_i kh hh
     simp only[Option.some.injEq,Prod.mk.injEq]at h
     obtain⟨rfl,rfl⟩:=h
     cases lo<;>cases hi<;>simp only[optRep]at hlo hhi
     obtain rfl:=hhi.int_eq
     refine⟨.string ⟨(s.take hh.toNat).toArray⟩,?_,.str _⟩
     simp[Instr.sliceAt,Instr.slice,run_underlying hd,Instr.sliceBounds,Instr.sliceBound,asIntOf,hsz,hp.1,hp.2,str_extract]
    ·cases h
   ·rename_i kl ll
    split at h
    ·simp only[Option.some.injEq,Prod.mk.injEq]at h
     obtain⟨rfl,rfl⟩:=h
     cases lo<;>cases hi<;>simp only[optRep]at hlo hhi
     obtain rfl:=hlo.int_eq
     refine⟨.string ⟨(s.drop ll.toNat).toArray⟩,?_,.str _⟩
     simp[Instr.sliceAt,Instr.slice,run_underlying hd,Instr.sliceBounds,Instr.sliceBound,asIntOf,hsz,hp.1,hp.2,str_extract]
    ·rename_i kh hh
     simp only[Option.some.injEq,Prod.mk.injEq]at h
     obtain⟨rfl,rfl⟩:=h
     cases lo<;>cases hi<;>simp only[optRep]at hlo hhi
     obtain rfl:=hlo.int_eq
     obtain rfl:=hhi.int_eq
     have h0:0≤hh:=by omega
     have h1:ll≤max hh 0:=by omega
     refine⟨.string ⟨((s.take hh.toNat).drop ll.toNat).toArray⟩,?_,.str _⟩
     simp[Instr.sliceAt,Instr.slice,run_underlying hd,Instr.sliceBounds,Instr.sliceBound,asIntOf,hsz,hp.1,hp.2.2,h0,h1,str_extract]
    ·cases h
   ·cases h
  ·cases h
 ·rename_i e hk
  rw[hk]at hkf
  obtain rfl:d=.slice e:=hkf
  cases he:ty e with
  |none=>simp[he]at h
  |some ei=>
   obtain⟨-,inf,z,hinf,hsz,-⟩:=hty e ei he
   simp only[he]at h
   split at h
   ·rename_i sz n el o
    obtain⟨a,cap,rfl,hcap⟩:=slice_len hx
    cases hb:Nat.beq sz ei.size with
    |false=>simp[hb]at h
    |true=>
     simp only[hb,cond_true]at h
     obtain rfl:=Nat.eq_of_beq_eq_true hb
     split at h
     ·split at h
      ·simp only[Option.some.injEq,Prod.mk.injEq]at h
       obtain⟨rfl,rfl⟩:=h
       cases lo<;>cases hi<;>simp only[optRep]at hlo hhi
       have:=slice_rep hx (Nat.zero_le n) (Nat.le_refl n)
       simp only[Nat.zero_add,Nat.sub_zero]at this
       refine⟨_,?_,this⟩
       simp[Instr.sliceAt,Instr.slice,run_underlying hd,Instr.sliceBounds,run_sizeOf hinf,hsz]
      ·rename_i kh hh
       simp only[Option.some.injEq,Prod.mk.injEq]at h
       obtain⟨rfl,rfl⟩:=h
       cases lo<;>cases hi<;>simp only[optRep]at hlo hhi
       obtain rfl:=hhi.int_eq
       have:=slice_rep hx (Nat.zero_le hh.toNat) (by omega)
       simp only[Nat.zero_add,Nat.sub_zero]at this
       refine⟨_,?_,this⟩
       have h1:hh≤(cap:Int):=by omega
       simp[Instr.sliceAt,Instr.slice,run_underlying hd,Instr.sliceBounds,Instr.sliceBound,asIntOf,run_sizeOf hinf,hsz,hp.1,h1]
      ·cases h
     ·rename_i kl ll
      split at h
      ·simp only[Option.some.injEq,Prod.mk.injEq]at h
       obtain⟨rfl,rfl⟩:=h
       cases lo<;>cases hi<;>simp only[optRep]at hlo hhi
       obtain rfl:=hlo.int_eq
       have:=slice_rep hx (l:=ll.toNat) (h:=n) (by omega) (Nat.le_refl n)
       refine⟨_,?_,this⟩
       simp[Instr.sliceAt,Instr.slice,run_underlying hd,Instr.sliceBounds,Instr.sliceBound,asIntOf,run_sizeOf hinf,hsz,hp.1,hp.2]
      ·rename_i kh hh
       simp only[Option.some.injEq,Prod.mk.injEq]at h
       obtain⟨rfl,rfl⟩:=h
       cases lo<;>cases hi<;>simp only[optRep]at hlo hhi
       obtain rfl:=hlo.int_eq
       obtain rfl:=hhi.int_eq
       have:=slice_rep hx (l:=ll.toNat) (h:=hh.toNat) (by omega) (by omega)
       refine⟨_,?_,this⟩
       have h0:0≤hh:=by omega
       have h1:hh≤(cap:Int):=by omega
       have h2:ll≤max hh 0:=by omega
       simp[Instr.sliceAt,Instr.slice,run_underlying hd,Instr.sliceBounds,Instr.sliceBound,asIntOf,run_sizeOf hinf,hsz,hp.1,h0,h1,h2]
      ·cases h
     ·cases h
   ·cases h
 ·cases h
theorem alen_sound (hty:TyOk P ty) {t tt:TypeId} {i:TyI} {e:TypeId} (hti:ty t=some i) (hk:i.k=.slice e) {vx v:AV} {x:Value} {p:Prop}
  (hx:Rep st w vx x) (h:alen vx=some (p,v)):∃c,(Builtin.len_ #[t] tt #[x]).run P w=.ok c w∧Rep st w v c:=by
 obtain⟨⟨d,hd,hkf⟩,-⟩:=hty t i hti
 rw[hk]at hkf
 obtain rfl:d=.slice e:=hkf
 unfold alen at h
 split at h<;>simp only[Option.some.injEq,Prod.mk.injEq,reduceCtorEq]at h
 ·obtain⟨-,rfl⟩:=h
  obtain⟨a,cap,rfl,-⟩:=slice_len hx
  exact⟨_,by simp[Builtin.len_,run_underlying hd,goInt],.int _ _⟩
 ·obtain⟨-,rfl⟩:=h
  cases hx
  exact⟨_,by simp[Builtin.len_,run_underlying hd,goInt],.int _ _⟩
 ·obtain⟨-,rfl⟩:=h
  cases hx
  exact⟨_,by simp[Builtin.len_,run_underlying hd,goInt],.int _ _⟩
theorem alenS_sound (hty:TyOk P ty) {t tt:TypeId} {i:TyI} (hti:ty t=some i) (hk:i.k=.str) {vx v:AV} {x:Value} {p:Prop}
  (hx:Rep st w vx x) (h:alenS vx=some (p,v)):∃c,(Builtin.len_ #[t] tt #[x]).run P w=.ok c w∧Rep st w v c:=by
 obtain⟨⟨d,hd,hkf⟩,-⟩:=hty t i hti
 rw[hk]at hkf
 obtain rfl:d=.string:=hkf
 unfold alenS at h
 split at h<;>simp only[Option.some.injEq,Prod.mk.injEq,reduceCtorEq]at h
 rename_i s
 obtain⟨-,rfl⟩:=h
 obtain rfl:=hx.str_eq
 have hsz:(ByteArray.mk s.toArray).size=s.length:=by simp[ByteArray.size]
 refine⟨_,?_,.int _ _⟩
 simp[Builtin.len_,run_underlying hd,goInt,hsz]
theorem aconv_sound (hty:TyOk P ty) {ts td:TypeId} {is id:TyI} (hs:ty ts=some is) (hd:ty td=some id) {vx v:AV} {x:Value} {p:Prop}
  (hx:Rep st w vx x) (h:aconv is.k id.k vx=some (p,v)):∃c,(convert ts td x).run P w=.ok c w∧Rep st w v c:=by
 obtain⟨⟨ds,hds,hks⟩,-⟩:=hty ts is hs
 obtain⟨⟨dd,hdd,hkd⟩,-⟩:=hty td id hd
 unfold aconv at h
 split at h
 ·rename_i k hk
  rw[hk]at hkd
  obtain rfl:dd=.int k:=hkd
  split at h<;>simp only[Option.some.injEq,Prod.mk.injEq,reduceCtorEq]at h
  rename_i kx n
  obtain⟨-,rfl⟩:=h
  obtain rfl:=hx.int_eq
  refine⟨_,?_,.int _ _⟩
  unfold convert
  rw[Sem.run_bind,run_underlying hds,Result.andThen_ok,Sem.run_bind,run_underlying hdd,Result.andThen_ok]
  cases ds<;>rfl
 ·rename_i hk
  rw[hk]at hkd
  obtain rfl:dd=.string:=hkd
  split at h
  ·rename_i hk2
   rw[hk2]at hks
   obtain rfl:ds=.string:=hks
   split at h<;>simp only[Option.some.injEq,Prod.mk.injEq,reduceCtorEq]at h
   obtain⟨-,rfl⟩:=h
   obtain rfl:=hx.str_eq
   refine⟨_,?_,.str _⟩
   unfold convert
   rw[Sem.run_bind,run_underlying hds,Result.andThen_ok,Sem.run_bind,run_underlying hdd,Result.andThen_ok]
   rfl
  ·cases h
 ·cases h
theorem mapF_sound {F:Operand→Option AV} {ρ:Operand→Value} (hF:∀x v,F x=some v→Rep st w v (ρ x)):∀(xs:List Operand) (vs:List AV),mapF F xs=some vs→
  (xs.map ρ).length=vs.length∧∀(j:Nat) (v:AV) (x:Value),vs[j]?=some v→(xs.map ρ)[j]?=some x→Rep st w v x
 |[],vs,h=>by simp[mapF]at h;subst h;simp
 |x::xs,vs,h=>by
  simp only[mapF]at h
  cases h1:F x with
  |none=>simp[h1]at h
  |some v=>
   cases h2:mapF F xs with
   |none=>simp[h1,h2]at h
   |some us=>
    simp[h1,h2]at h
    subst h
    obtain⟨hl,hr⟩:=mapF_sound hF xs us h2
    refine⟨by simp at hl;simp[hl],fun j u y hu hy=>?_⟩
    match j,hu,hy with
    |0,hu,hy=>simp at hu hy;subst hu;subst hy;exact hF x v h1
    |j+1,hu,hy=>exact hr j u y (by simpa using hu) (by simpa using hy)
theorem amm_sound {b:Builtin} {vx vy v:AV} {x y:Value} {p:Prop} {ts:Array TypeId} {tt:TypeId} (hx:Rep st w vx x) (hy:Rep st w vy y) (h:amm b vx vy=some (p,v)):
  (b=.min→∃c,(Builtin.min_ ts tt #[x,y]).run P w=.ok c w∧Rep st w v c)∧(b=.max→∃c,(Builtin.max_ ts tt #[x,y]).run P w=.ok c w∧Rep st w v c):=by
 unfold amm at h
 split at h
 ·rename_i k a
  obtain rfl:=hx.int_eq
  split at h
  ·rename_i k' c
   obtain rfl:=hy.int_eq
   split at h<;>simp only[Option.some.injEq,Prod.mk.injEq,reduceCtorEq]at h
   ·obtain⟨-,rfl⟩:=h
    refine⟨fun _=>⟨_,?_,.int _ _⟩,fun e=>(by cases e)⟩
    simp[Builtin.min_,Builtin.min2]
   ·obtain⟨-,rfl⟩:=h
    refine⟨fun e=>(by cases e),fun _=>⟨_,?_,.int _ _⟩⟩
    simp[Builtin.max_,Builtin.max2]
  ·cases h
 ·cases h
theorem cellsOf_rep {v:AV} {x:Value} {vs:List AV} (h:Rep st w v x) (hc:cellsOf v=some vs):
  x.cells.toList.length=vs.length∧∀(j:Nat) (u:AV) (y:Value),vs[j]?=some u→x.cells.toList[j]?=some y→Rep st w u y:=by
 have one:∀(v:AV) (x:Value),Rep st w v x→x.cells= #[x]→x.cells.toList.length=[v].length∧∀(j:Nat) (u:AV) (y:Value),[v][j]?=some u→x.cells.toList[j]?=some y→Rep st w u y:=by
  intro v x h hx
  rw[hx]
  refine⟨rfl,fun j u y hu hy=>?_⟩
  match j,hu,hy with
  |0,hu,hy=>simp at hu hy;subst hu;subst hy;exact h
  |j+1,hu,hy=>simp at hu
 cases h with
 |agg cells cs hl hr=>
  simp[cellsOf]at hc
  subst hc
  exact⟨hl,hr⟩
 |vec n el cs hl hr _=>simp[cellsOf]at hc
 |tuple vs xs hl hr=>simp[cellsOf]at hc
 |opt=>simp[cellsOf]at hc
 |any=>simp[cellsOf]at hc
 |conc=>simp[cellsOf]at hc
 |bool b=>simp[cellsOf]at hc;subst hc;exact one _ _ (.bool b) rfl
 |int k n=>simp[cellsOf]at hc;subst hc;exact one _ _ (.int k n) rfl
 |str s=>simp[cellsOf]at hc;subst hc;exact one _ _ (.str s) rfl
 |nilptr=>simp[cellsOf]at hc;subst hc;exact one _ _ .nilptr rfl
 |ptr b o=>simp[cellsOf]at hc;subst hc;exact one _ _ (.ptr b o) rfl
 |rptr cells b o c h1 h2=>simp[cellsOf]at hc;subst hc;exact one _ _ (.rptr cells b o c h1 h2) rfl
 |nils=>simp[cellsOf]at hc;subst hc;exact one _ _ .nils rfl
 |slice sz n el o a cap b off c h1 h2 h3 h4 h5 h6 h7=>simp[cellsOf]at hc;subst hc;exact one _ _ (.slice sz n el o a cap b off c h1 h2 h3 h4 h5 h6 h7) rfl
 |mslice b o l c=>simp[cellsOf]at hc;subst hc;exact one _ _ (.mslice b o l c) rfl
 |nilFunc=>simp[cellsOf]at hc;subst hc;exact one _ _ .nilFunc rfl
 |func fn f c f' c' h1 h2 h3 h4=>simp[cellsOf]at hc;subst hc;exact one _ _ (.func fn f c f' c' h1 h2 h3 h4) rfl
 |nilIface=>simp[cellsOf]at hc;subst hc;exact one _ _ .nilIface rfl
 |iface t v x h=>simp[cellsOf]at hc;subst hc;exact one _ _ (.iface t v x h) rfl
 |mapv r=>simp[cellsOf]at hc;subst hc;exact one _ _ (.mapv r) rfl
theorem length_setAt {α:Type}:∀(l:List α) (off:Nat) (vs:List α),(setAt l off vs).length=l.length
 |l,off,[]=>rfl
 |l,off,v::vs=>by rw[setAt,length_setAt];simp
theorem setAt_rep:∀(vs:List AV) (xs:List Value) (cells:List AV) (cs:List Value) (off:Nat),xs.length=vs.length→cs.length=cells.length→
  (∀(j:Nat) (v:AV) (x:Value),vs[j]?=some v→xs[j]?=some x→Rep st w v x)→
  (∀(j:Nat) (v:AV) (x:Value),cells[j]?=some v→cs[j]?=some x→Rep st w v x)→
  ∀(j:Nat) (v:AV) (x:Value),(setAt cells off vs)[j]?=some v→(setAt cs off xs)[j]?=some x→Rep st w v x
 |[],xs,cells,cs,off,hl,_,_,hc=>by
  have:xs=[]:=List.eq_nil_of_length_eq_zero (by simpa using hl)
  subst this
  exact hc
 |v::vs,x::xs,cells,cs,off,hl,hl2,hv,hc=>by
  refine setAt_rep vs xs (cells.set off v) (cs.set off x) (off+1) (by simpa using hl) (by simp[hl2]) (fun j u y hu hy=>hv (j+1) u y (by simpa using hu) (by simpa using hy)) ?_
  intro j u y hu hy
  rw[List.getElem?_set]at hu hy
  by_cases e:off=j
  ·subst e
   by_cases hlt:off<cells.length
   ·rw[if_pos rfl,if_pos hlt]at hu
    rw[if_pos rfl,if_pos (by omega)]at hy
    simp at hu hy
    subst hu;subst hy
    exact hv 0 v x (by simp) (by simp)
   ·rw[if_pos rfl,if_neg hlt]at hu
    cases hu
  ·rw[if_neg e]at hu hy
   exact hc j u y hu hy
 |v::vs,[],cells,cs,off,hl,_,_,_=>by simp at hl
theorem foldl_setAt:∀(l:List Value) (k off:Nat) (cs:List Value),(l.zipIdx k).foldl (fun(cs:Array Value) (p:Value×Nat)=>cs.setIfInBounds (off+p.2) p.1) ⟨cs⟩=⟨setAt cs (off+k) l⟩
 |[],k,off,cs=>by simp[setAt]
 |x::l,k,off,cs=>by
  simp only[List.zipIdx_cons,List.foldl_cons,setAt]
  have:(Array.mk cs).setIfInBounds (off+k) x=⟨cs.set (off+k) x⟩:=by simp
  rw[this,foldl_setAt l (k+1) off]
  rfl
theorem abuild_sound {fs:List (Nat×TypeId)} {place:Nat→Option (Nat×Nat)} (hpl:∀f off ft i,fs[f]?=some (off,ft)→ty ft=some i→place f=some (off,i.size)):
  ∀(ps:List (Nat×AV)) (xs:List (Nat×Value)) (cells cells':List AV) (cs:List Value),abuild fs ty cells ps=some cells'→cs.length=cells.length→
  (∀(j:Nat) (v:AV) (x:Value),cells[j]?=some v→cs[j]?=some x→Rep st w v x)→
  xs.length=ps.length→(∀(j:Nat) p x,ps[j]?=some p→xs[j]?=some x→p.1=x.1∧Rep st w p.2 x.2)→
  ∃cs',Instr.fill place ⟨cs⟩ xs=some ⟨cs'⟩∧cs'.length=cells'.length∧∀(j:Nat) (v:AV) (x:Value),cells'[j]?=some v→cs'[j]?=some x→Rep st w v x
 |[],xs,cells,cells',cs,h,hl,hc,hxl,_=>by
  have:xs=[]:=List.eq_nil_of_length_eq_zero (by simpa using hxl)
  subst this
  simp[abuild]at h
  subst h
  exact⟨cs,rfl,hl,hc⟩
 |(f,v)::ps,[],cells,cells',cs,h,hl,hc,hxl,_=>by simp at hxl
 |(f,v)::ps,(f',x)::xs,cells,cells',cs,h,hl,hc,hxl,hx=>by
  obtain⟨hff,hvx⟩:=hx 0 (f,v) (f',x) (by simp) (by simp)
  simp only at hff hvx
  subst hff
  simp only[abuild]at h
  cases hf:fs[f]? with
  |none=>simp[hf]at h
  |some q=>
   obtain⟨off,ft⟩:=q
   simp only[hf]at h
   cases hft:ty ft with
   |none=>simp[hft]at h
   |some i=>
    simp only[hft]at h
    cases hcv:cellsOf v with
    |none=>simp[hcv]at h
    |some vs=>
     simp only[hcv]at h
     cases hb:(Nat.beq vs.length i.size&&Nat.ble (off+vs.length) cells.length)with
     |false=>simp[hb]at h
     |true=>
      simp only[hb,cond_true]at h
      simp only[Bool.and_eq_true]at hb
      have hb1:vs.length=i.size:=Nat.eq_of_beq_eq_true hb.1
      have hb2:=Nat.le_of_ble_eq_true hb.2
      obtain⟨hcl,hcr⟩:=cellsOf_rep hvx hcv
      have hsz:x.cells.size=i.size:=by rw[←hb1,←hcl];simp
      obtain⟨cs',h1,h2,h3⟩:=abuild_sound hpl ps xs (setAt cells off vs) cells' (setAt cs off x.cells.toList) h (by rw[length_setAt,length_setAt,hl])
       (setAt_rep vs x.cells.toList cells cs off hcl hl hcr hc) (by simpa using hxl) (fun j p y hp hy=>hx (j+1) p y (by simpa using hp) (by simpa using hy))
      refine⟨cs',?_,h2,h3⟩
      rw[Instr.fill,hpl f off ft i hf hft]
      have hn1:¬(x.cells.size≠i.size):=by simpa using hsz
      have hn2:¬(off+x.cells.size>(Array.mk cs).size):=by
       simp only[List.size_toArray,hl,hsz];omega
      simp only[hn1,hn2,decide_false,Bool.or_self,Bool.false_eq_true,if_false]
      have e:x.cells.zipIdx.foldl (fun(cs:Array Value) (p:Value×Nat)=>cs.setIfInBounds (off+p.2) p.1) (Array.mk cs)=⟨setAt cs off x.cells.toList⟩:=by
       rw[←Array.foldl_toList,Array.toList_zipIdx]
       exact foldl_setAt _ 0 off cs
      have e2:x.cells.zipIdx.foldl (fun(cs:Array Value) (x:Value×Nat)=>match x with|(c,j)=>cs.setIfInBounds (off+j) c) (Array.mk cs)=⟨setAt cs off x.cells.toList⟩:=e
      rw[e2]
      exact h1
theorem mapP_sound {F:Operand→Option AV} {ρ:Operand→Value} (hF:∀x v,F x=some v→Rep st w v (ρ x)):∀(xs:List (Nat×Operand)) (vs:List (Nat×AV)),mapP F xs=some vs→
  (xs.map fun p=>(p.1,ρ p.2)).length=vs.length∧∀(j:Nat) v x,vs[j]?=some v→(xs.map fun p=>(p.1,ρ p.2))[j]?=some x→v.1=x.1∧Rep st w v.2 x.2
 |[],vs,h=>by simp[mapP]at h;subst h;simp
 |(i,x)::xs,vs,h=>by
  simp only[mapP]at h
  cases h1:F x with
  |none=>simp[h1]at h
  |some v=>
   cases h2:mapP F xs with
   |none=>simp[h1,h2]at h
   |some us=>
    simp[h1,h2]at h
    subst h
    obtain⟨hl,hr⟩:=mapP_sound hF xs us h2
    refine⟨by simp at hl;simp[hl],fun j u y hu hy=>?_⟩
    match j,hu,hy with
    |0,hu,hy=>simp at hu hy;subst hu;subst hy;exact⟨rfl,hF x v h1⟩
    |j+1,hu,hy=>exact hr j u y (by simpa using hu) (by simpa using hy)
theorem run_mapM_list {α β:Type} {f:α→Sem β} {g:α→β}:∀(l:List α),(∀x∈l,(f x).run P w=.ok (g x) w)→(l.mapM f).run P w=.ok (l.map g) w
 |[],_=>by simp
 |x::l,h=>by
  simp only[List.mapM_cons,Sem.run_bind,h x (by simp),Result.andThen_ok,run_mapM_list l (fun y hy=>h y (by simp[hy])),Sem.run_pure,List.map_cons]
theorem run_build (hty:TyOk P ty) {t:TypeId} {i:TyI} {fs:List (Nat×TypeId)} {z cells:List AV} (hti:ty t=some i) (hk:i.k=.struct fs) (hz:i.zero=.agg z)
  {ps:List (Nat×AV)} {xs:List (Nat×Value)} (hall:(fs.all fun q=>(ty q.2).isSome)=true) (hb:abuild fs ty z ps=some cells)
  (hxl:xs.length=ps.length) (hx:∀(j:Nat) p x,ps[j]?=some p→xs[j]?=some x→p.1=x.1∧Rep st w p.2 x.2):
  ∃c,(Instr.build t ⟨xs⟩).run P w=.ok c w∧Rep st w (.agg cells) c:=by
 obtain⟨⟨d,hd,hkf⟩,inf,zv,hinf,hsz,hby,hzz,hzs,hzr⟩:=hty t i hti
 rw[hk]at hkf
 obtain⟨a,rfl,ha⟩:=hkf
 have hzr':=hzr.1 st w
 rw[hz]at hzr'
 cases hzr' with
 |agg _ zc hzl hzc=>
  have hinfo:∀f∈a.toList,∃fi finf,ty f.type=some fi∧P.info? f.type=some finf∧finf.size=fi.size:=by
   intro f hf
   have hm:(f.offset,f.type)∈fs:=by rw[←ha];exact List.mem_map.2 ⟨f,hf,rfl⟩
   have:=List.all_eq_true.1 hall _ hm
   cases hq:ty f.type with
   |none=>simp[hq]at this
   |some fi=>
    obtain⟨-,finf,_,h1,h2,-⟩:=hty _ _ hq
    exact⟨fi,finf,rfl,h1,h2⟩
  have hmap:(a.toList.mapM fun f=>(do pure (f.offset,←sizeOf f.type):Sem (Nat×Nat))).run P w=.ok (a.toList.map fun f=>(f.offset,P.cellsOf f.type)) w:=by
   refine run_mapM_list _ fun f hf=>?_
   obtain⟨fi,finf,_,h1,h2⟩:=hinfo f hf
   simp[run_sizeOf h1,Program.cellsOf,h1]
  have hmapA:(a.mapM fun f=>(do pure (f.offset,←sizeOf f.type):Sem (Nat×Nat))).run P w=.ok (a.toList.map fun f=>(f.offset,P.cellsOf f.type)).toArray w:=by
   rw[Array.mapM_eq_mapM_toList,Sem.run_map,hmap]
   rfl
  have hpl:∀(f off:Nat) (ft:TypeId) (i:TyI),fs[f]?=some (off,ft)→ty ft=some i→((a.toList.map fun f=>(f.offset,P.cellsOf f.type)).toArray)[f]?=some (off,i.size):=by
   intro f off ft i hf hi
   rw[←ha]at hf
   simp only[List.getElem?_map,Array.getElem?_toList]at hf
   cases hq:a[f]? with
   |none=>simp[hq]at hf
   |some fl=>
    simp[hq]at hf
    obtain⟨rfl,rfl⟩:=hf
    obtain⟨-,finf,_,h1,h2,-⟩:=hty _ _ hi
    simp[hq,Program.cellsOf,h1,h2]
  obtain⟨cs',h1,h2,h3⟩:=abuild_sound (place:=fun k=>((a.toList.map fun f=>(f.offset,P.cellsOf f.type)).toArray)[k]?) hpl ps xs z cells zc hb hzl hzc hxl hx
  refine⟨.agg ⟨cs'⟩,?_,.agg cells cs' h2 h3⟩
  unfold Instr.build
  have hzv:(zeroValue t).run P w=.ok (.agg ⟨zc⟩) w:=by rw[run_zeroValue hinf hzz]
  rw[Sem.run_bind,hzv,Result.andThen_ok,Sem.run_bind,run_underlying hd,Result.andThen_ok]
  simp only[Sem.run_bind]
  rw[hmapA,Result.andThen_ok]
  have h1':Instr.fill (fun k=>((a.toList.map fun f=>(f.offset,P.cellsOf f.type)).toArray)[k]?) (Value.agg ⟨zc⟩).cells xs=some ⟨cs'⟩:=h1
  simp only[h1']
  rfl
theorem just_some {x:Option AV} {p:Prop} {v:AV} (h:just x=some (p,v)):x=some v:=by
 unfold just at h
 split at h
 ·simp at h;rw[h.2]
 ·cases h
theorem optF_sound {F:Operand→Option AV} {ρ:Operand→Value} (hF:∀x v,F x=some v→Rep st w v (ρ x)) {x:Option Operand} {v:Option AV} (h:optF F x=some v):optRep st w v (x.map ρ):=by
 cases x with
 |none=>simp[optF]at h;subst h;trivial
 |some x=>
  simp only[optF]at h
  cases h1:F x with
  |none=>simp[h1]at h
  |some u=>simp[h1]at h;subst h;exact hF x u h1
theorem aeval_sound (hty:TyOk P ty) {F:Operand→Option AV} {ρ:Operand→Value} (hF:∀x v,F x=some v→Rep st w v (ρ x)) {o:Oper} {p:Prop} {v:AV}
  (h:aeval ty F o.op=some (p,v)) (hp:p):∃c,(execOp ρ o).run P w=.ok (.value c) w∧Rep st w v c:=by
 obtain⟨dst,op,type,pos,after,guard⟩:=o
 simp only at h
 unfold aeval at h
 split at h
 ·exact⟨_,rfl,hF _ _ (just_some h)⟩
 ·exact⟨_,rfl,hF _ _ (just_some h)⟩
 ·rename_i c a b
  split at h
  ·rename_i hc
   have:=(hF _ _ hc).bool_eq
   refine⟨ρ a,?_,hF _ _ (just_some h)⟩
   simp[execOp,this,asBool]
  ·rename_i hc
   have:=(hF _ _ hc).bool_eq
   refine⟨ρ b,?_,hF _ _ (just_some h)⟩
   simp[execOp,this,asBool]
  ·cases h
 ·rename_i op t x y yt
  cases hx:F x with
  |none=>simp[hx]at h
  |some vx=>
   cases hy:F y with
   |none=>simp[hx,hy]at h
   |some vy=>
    simp only[hx,hy]at h
    cases ht:ty t with
    |none=>simp[ht]at h
    |some i=>
     simp only[ht]at h
     have fin:(∃c,(binOp op t (ρ x) (ρ y)).run P w=.ok c w∧Rep st w v c)∧plainPair (ρ x) (ρ y)=true:=by
      obtain⟨⟨d,hd,hk⟩,-⟩:=hty t i ht
      split at h
      ·rename_i hik
       rw[hik]at hk
       obtain rfl:d=.bool:=hk
       exact abool_sound hd (hF _ _ hx) (hF _ _ hy) h
      ·exact abin_sound (hF _ _ hx) (hF _ _ hy) h hp
      ·exact abin_sound (hF _ _ hx) (hF _ _ hy) h hp
      ·cases h
     obtain⟨⟨c,h1,h2⟩,h3⟩:=fin
     refine⟨c,?_,h2⟩
     simp only[execOp,Sem.run_bind,run_eqGuard_plain h3,Result.andThen_ok,h1]
     rfl
 ·rename_i op t x
  cases hx:F x with
  |none=>simp[hx]at h
  |some vx=>
   simp only[hx]at h
   obtain⟨c,h1,h2⟩:=aun_sound (P:=P) (hF _ _ hx) h hp
   exact⟨c,exec_v h1,h2⟩
 ·rename_i s d x
  cases hx:F x with
  |none=>simp[hx]at h
  |some vx=>
   simp only[hx]at h
   cases hs:ty s with
   |none=>simp[hs]at h
   |some is=>
    cases hd:ty d with
    |none=>simp[hs,hd]at h
    |some id=>
     simp only[hs,hd]at h
     obtain⟨c,h1,h2⟩:=aconv_sound hty hs hd (hF _ _ hx) h
     exact⟨c,exec_v h1,h2⟩
 ·rename_i s x f
  cases hx:F x with
  |none=>simp[hx]at h
  |some vx=>
   simp only[hx]at h
   cases hs:ty s with
   |none=>simp[hs]at h
   |some i=>
    simp only[hs]at h
    split at h
    ·rename_i hk
     obtain⟨c,h1,h2⟩:=afaddr_sound hty hs hk (hF _ _ hx) h
     exact⟨c,exec_v h1,h2⟩
    ·cases h
 ·rename_i s x f
  cases hx:F x with
  |none=>simp[hx]at h
  |some vx=>
   simp only[hx]at h
   cases hs:ty s with
   |none=>simp[hs]at h
   |some i=>
    simp only[hs]at h
    split at h
    ·rename_i hk
     obtain⟨c,h1,h2⟩:=afield_sound hty hs hk (hF _ _ hx) h
     exact⟨c,exec_v h1,h2⟩
    ·cases h
 ·rename_i t x ix
  cases hx:F x with
  |none=>simp[hx]at h
  |some vx=>
   cases hix:F ix with
   |none=>simp[hx,hix]at h
   |some vi=>
    simp only[hx,hix]at h
    cases ht:ty t with
    |none=>simp[ht]at h
    |some i=>
     simp only[ht]at h
     obtain⟨c,h1,h2⟩:=aidxaddr_sound hty ht (hF _ _ hx) (hF _ _ hix) h hp
     exact⟨c,exec_v h1,h2⟩
 ·rename_i t x ix
  cases hx:F x with
  |none=>simp[hx]at h
  |some vx=>
   cases hix:F ix with
   |none=>simp[hx,hix]at h
   |some vi=>
    simp only[hx,hix]at h
    cases ht:ty t with
    |none=>simp[ht]at h
    |some i=>
     simp only[ht]at h
     obtain⟨c,h1,h2⟩:=aindex_sound hty ht (hF _ _ hx) (hF _ _ hix) h hp
     exact⟨c,exec_v h1,h2⟩
 ·rename_i t a
  split at h
  ·rename_i cells hx
   cases ht:ty t with
   |none=>simp[ht]at h
   |some i=>
    simp only[ht]at h
    obtain⟨c,h1,h2⟩:=rptr_load_sound (P:=P) hty ht (hF _ _ hx) (just_some h)
    exact⟨c,exec_v h1,h2⟩
  ·cases h
 ·rename_i t x lo hi
  cases hx:F x with
  |none=>simp[hx]at h
  |some vx=>
   simp only[hx]at h
   cases hlo:optF F lo with
   |none=>simp[hlo]at h
   |some vlo=>
    simp only[hlo]at h
    cases hhi:optF F hi with
    |none=>simp[hhi]at h
    |some vhi=>
     simp only[hhi]at h
     cases ht:ty t with
     |none=>simp[ht]at h
     |some i=>
      simp only[ht]at h
      obtain⟨c,h1,h2⟩:=aslice_sound hty ht (hF _ _ hx) (optF_sound hF hlo) (optF_sound hF hhi) h hp
      exact⟨c,exec_v h1,h2⟩
 ·rename_i t ps
  cases ht:ty t with
  |none=>simp[ht]at h
  |some i=>
   simp only[ht]at h
   split at h
   ·rename_i fs hk
    split at h
    ·rename_i z hz
     cases hm:mapP F ps.toList with
     |none=>simp[hm]at h
     |some vs=>
      simp only[hm]at h
      cases hb:abuild fs ty z vs with
      |none=>simp[hb]at h
      |some cells=>
       simp only[hb]at h
       cases hall:(fs.all fun q=>(ty q.2).isSome)with
       |false=>simp[hall]at h
       |true=>
        simp[hall]at h
        obtain⟨-,rfl⟩:=h
        obtain⟨hl,hr⟩:=mapP_sound hF _ _ hm
        obtain⟨c,h1,h2⟩:=run_build hty ht hk hz hall hb hl hr
        refine⟨c,?_,h2⟩
        have e:(ps.map fun(x:Nat×Operand)=>(x.1,ρ x.2))=⟨ps.toList.map fun p=>(p.1,ρ p.2)⟩:=by
         apply Array.ext'
         simp
        show((do pure (.value (←Instr.build t (ps.map fun(x:Nat×Operand)=>(x.1,ρ x.2))))):Sem Next).run P w=_
        rw[e]
        exact exec_v h1
    ·cases h
   ·cases h
 ·rename_i fn first captured
  cases hm:mapF F first.toList with
  |none=>simp[hm]at h
  |some f=>
   simp only[hm]at h
   cases hm2:mapF F captured.toList with
   |none=>simp[hm2]at h
   |some c=>
    simp[hm2]at h
    obtain⟨-,rfl⟩:=h
    obtain⟨hl,hr⟩:=mapF_sound hF _ _ hm
    obtain⟨hl2,hr2⟩:=mapF_sound hF _ _ hm2
    refine⟨.func fn (first.map ρ) (captured.map ρ),rfl,?_⟩
    have:=Rep.func (st:=st) (w:=w) fn f c _ _ hl hl2 hr hr2
    have e1:first.map ρ=⟨first.toList.map ρ⟩:=by apply Array.ext';simp
    have e2:captured.map ρ=⟨captured.toList.map ρ⟩:=by apply Array.ext';simp
    rw[e1,e2]
    exact this
 ·rename_i t x
  cases hx:F x with
  |none=>simp[hx]at h
  |some vx=>
   simp only[hx]at h
   cases ht:ty t with
   |none=>simp[ht]at h
   |some i=>
    simp only[ht]at h
    obtain⟨⟨d,hd,hk⟩,-⟩:=hty t i ht
    have hfin:v=.iface t vx∧P.concrete t=true:=by
     unfold Program.concrete
     rw[hd]
     cases hik:i.k<;>rw[hik]at h hk<;>simp only[Option.some.injEq,Prod.mk.injEq,reduceCtorEq]at h<;>simp only[TyK.fits]at hk
     case func=>obtain⟨a,b,c,rfl⟩:=hk;exact⟨h.2.symm,rfl⟩
     case struct=>obtain⟨a,rfl,_⟩:=hk;exact⟨h.2.symm,rfl⟩
     all_goals (subst hk;exact⟨h.2.symm,rfl⟩)
    obtain⟨rfl,hcon⟩:=hfin
    exact⟨.iface t (ρ x),exec_v (run_makeInterface w t (ρ x) hcon),.iface _ _ _ (hF _ _ hx)⟩
 ·rename_i x ix
  split at h
  ·rename_i vs hx
   have hr:=hF _ _ hx
   generalize hρ:ρ x=c at hr
   cases hr with
   |tuple _ xs hl hr=>
    have hv:=just_some h
    have hlt:ix<xs.length:=by
     have:=(List.getElem?_eq_some_iff.1 hv).1
     omega
    have hxs:xs[ix]?=some xs[ix]:=by simp[hlt]
    refine⟨xs[ix],?_,hr _ _ _ hv hxs⟩
    apply exec_v
    simp[Instr.extract,hρ,hlt]
  ·cases h
 ·rename_i x
  split at h
  ·rename_i b o hx
   simp at h
   obtain⟨-,rfl⟩:=h
   have hr:=hF _ _ hx
   generalize hρ:ρ x=c at hr
   cases hr
   exact⟨_,by simp[execOp,hρ],.ptr _ _⟩
  ·rename_i cs hx
   simp at h
   obtain⟨-,rfl⟩:=h
   have hr:=hF _ _ hx
   generalize hρ:ρ x=c at hr
   have hr':=hr
   cases hr with
   |rptr _ b o c h1 h2=>exact⟨_,by simp[execOp,hρ],hr'⟩
  ·rename_i f a cc hx
   simp at h
   obtain⟨-,rfl⟩:=h
   have hr:=hF _ _ hx
   generalize hρ:ρ x=c at hr
   have hr':=hr
   cases hr with
   |func _ _ _ f' c' h1 h2 h3 h4=>exact⟨_,by simp[execOp,hρ],hr'⟩
  ·cases h
 ·rename_i b args ats
  split at h
  ·split at h
   ·rename_i x hargs
    cases hx:F x with
    |none=>simp[hx]at h
    |some vx=>
     simp only[hx]at h
     split at h
     ·rename_i t hats
      cases ht:ty t with
      |none=>simp[ht]at h
      |some i=>
       simp only[ht]at h
       have hA:args= #[x]:=by apply Array.ext';simpa using hargs
       have hB:ats= #[t]:=by apply Array.ext';simpa using hats
       subst hA
       subst hB
       split at h
       ·rename_i hk
        obtain⟨c,h1,h2⟩:=alenS_sound (tt:=type) hty ht hk (hF _ _ hx) h
        refine⟨c,?_,h2⟩
        simp[execOp,resolve,invoke,builtin,h1]
       ·rename_i e hk
        obtain⟨c,h1,h2⟩:=alen_sound (tt:=type) hty ht hk (hF _ _ hx) h
        refine⟨c,?_,h2⟩
        simp[execOp,resolve,invoke,builtin,h1]
       ·cases h
     ·cases h
   ·cases h
  ·split at h
   ·rename_i x y hargs
    cases hx:F x with
    |none=>simp[hx]at h
    |some vx=>
     cases hy:F y with
     |none=>simp[hx,hy]at h
     |some vy=>
      simp only[hx,hy]at h
      have hA:args= #[x,y]:=by apply Array.ext';simpa using hargs
      subst hA
      obtain⟨c,h1,h2⟩:=(amm_sound (P:=P) (ts:=ats) (tt:=type) (hF _ _ hx) (hF _ _ hy) h).1 rfl
      refine⟨c,?_,h2⟩
      simp[execOp,resolve,invoke,builtin,h1]
   ·cases h
  ·split at h
   ·rename_i x y hargs
    cases hx:F x with
    |none=>simp[hx]at h
    |some vx=>
     cases hy:F y with
     |none=>simp[hx,hy]at h
     |some vy=>
      simp only[hx,hy]at h
      have hA:args= #[x,y]:=by apply Array.ext';simpa using hargs
      subst hA
      obtain⟨c,h1,h2⟩:=(amm_sound (P:=P) (ts:=ats) (tt:=type) (hF _ _ hx) (hF _ _ hy) h).2 rfl
      refine⟨c,?_,h2⟩
      simp[execOp,resolve,invoke,builtin,h1]
   ·cases h
  ·cases h
 ·cases h
end
end Go.Ab
namespace Go.Ab
def tmpsOf (op:Op):List Nat:=op.operands.toList.filterMap fun|.tmp t=>some t|_=>none
def opvL (L:List Nat) (T:Tmps):Operand→Option AV
 |.tmp t=>cond (L.contains t) (match lk T t with
  |some (.opt _ _ v)=>some v
  |r=>r) none
 |.const v=>ofConst v
 |.global _=>none
 |.func f=>some (.func (.func f) [] [])
def optN (c:Prop) (T:Tmps):List Nat→Prop
 |[]=>True
 |t::L=>match lk T t with
  |some (.opt x b _)=>(c→x=b)∧optN c T L
  |_=>optN c T L
theorem optN_spec {c:Prop} {T:Tmps}:∀{L:List Nat},optN c T L→∀t∈L,∀x b v,lk T t=some (.opt x b v)→c→x=b
 |t::L,h,u,hu,x,b,v,hl,hc=>by
  unfold optN at h
  rcases List.mem_cons.1 hu with rfl|hu
  ·rw[hl]at h
   exact h.1 hc
  ·split at h
   ·exact optN_spec h.2 u hu x b v hl hc
   ·exact optN_spec h u hu x b v hl hc
theorem opvL_rep {N:Nat} {st:Stab} {w:World} {T:Tmps} {a:Act} {L:List Nat} {c:Prop} (hf:∀t∈L,∀v,lk T t=some v→∃x,a.tmps[t]?=some x∧Rep st w v x) (ho:optN c T L) (hc:c)
  (_hs:a.tmps.size=N) {x:Operand} {v:AV} (h:opvL L T x=some v):Rep st w v (a.eval x):=by
 cases x with
 |tmp t=>
  simp only[opvL]at h
  cases hL:L.contains t with
  |false=>simp only[hL,cond_false,reduceCtorEq]at h
  |true=>
   simp only[hL,cond_true]at h
   have hm:t∈L:=by simpa using hL
   split at h
   ·rename_i x b u hl
    obtain⟨y,h1,h2⟩:=hf t hm _ hl
    simp at h
    subst h
    have hxb:=optN_spec ho t hm x b u hl hc
    cases h2 with
    |opt _ _ _ _ h3 _=>simpa [Act.eval,h1]using h3 hxb
   ·obtain⟨y,h1,h2⟩:=hf t hm v h
    simpa [Act.eval,h1]using h2
 |const c=>exact ofConst_rep h
 |global g=>simp[opvL]at h
 |func f=>
  simp[opvL]at h
  subst h
  exact Rep.func (.func f) [] [] [] [] rfl rfl (by simp) (by simp)
def putO (d:Option Tmp) (v:AV) (T:Tmps):Tmps:=
 match d with
 |some d=>(d,v)::T
 |none=>T
def dstOk (d:Option Tmp) (N:Nat):Bool:=
 match d with
 |some d=>Nat.ble (d+1) N
 |none=>true
theorem FR.putO {N:Nat} {st:Stab} {w:World} {T:Tmps} {a:Act} (h:FR N st w T a) {d:Option Tmp} (hd:dstOk d N=true) {v:AV} {c:Value} (hr:Rep st w v c):
  FR N st w (putO d v T) (a.put d c):=by
 cases d with
 |none=>exact h
 |some d=>exact h.put hd hr
inductive ARes where
 |ret (v:AV)
 |panic (v:AV)
def AHard (P:Program) (o:Oper) (F:Operand→Option AV) (H:AHeap) (K:ARes→AHeap→Prop):Prop:=
 ∀E st w a r next Q,Conc E st H w→(∀x v,F x=some v→Rep st w v (a.eval x))→Gl H w→
  (∀st' w' v c H',Conc E st' H' w'→Keeps st st' w w'→Rep st' w' v c→K (.ret v) H'→next (a.put o.dst c) w')→
  (∀st' w' v c H',Conc E st' H' w'→Keeps st st' w w'→Rep st' w' v c→K (.panic v) H'→Q (.panic [{v:=c,recovered:=false}]) a w')→
  o.wpIn (fen r) 0 P a w next Q
theorem AHard.mono {P:Program} {o:Oper} {F:Operand→Option AV} {H:AHeap} {K K':ARes→AHeap→Prop} (h:AHard P o F H K) (hk:∀r H',K r H'→K' r H'):AHard P o F H K':=
 fun E st w a r next Q hc hf ho hr hp=>h E st w a r next Q hc hf ho (fun st' w' v c H' h1 h2 h3 h4=>hr st' w' v c H' h1 h2 h3 (hk _ _ h4)) (fun st' w' v c H' h1 h2 h3 h4=>hp st' w' v c H' h1 h2 h3 (hk _ _ h4))
def boxAt (i:TyI) (u:AV) (off:Nat):Option (Prop×AV):=
 match u with
 |.agg cells=>just (partOf i (cells.drop off))
 |.vec n el=>match i.k with
  |.array m _=>cond (Nat.beq m n&&Nat.beq i.size n&&Nat.beq off 0) (some (True,.vec n el)) none
  |.struct _=>some (off+i.size≤n,.agg ((List.range i.size).map fun j=>el (off+j)))
  |.other=>none
  |_=>some (off<n,el off)
 |.tuple _=>none
 |.opt _ _ _=>none
 |.any=>none
 |.conc _=>none
 |v=>match i.k with
  |.array _ _=>none
  |.struct _=>none
  |.other=>none
  |_=>cond (Nat.beq off 0) (some (True,v)) none
def apick (x:Bool) (va vb:AV):Option (Prop×AV):=
 match va with
 |.bool true=>match vb with
  |.bool z=>some (True,.bool (x || z))
  |.opt x' b' (.bool z)=>some ((x=false→x'=b'),.bool (x || z))
  |_=>none
 |.opt x' b' (.bool y)=>match vb with
  |.bool false=>some ((x=true→x'=b'),.bool (x&&y))
  |_=>none
 |_=>none
theorem apick_sound {st:Stab} {w:World} {x:Bool} {va vb v:AV} {ca cb:Value} {p:Prop} (ha:Rep st w va ca) (hb:Rep st w vb cb) (h:apick x va vb=some (p,v)) (hp:p):
  Rep st w v (if x then ca else cb):=by
 unfold apick at h
 split at h
 ·have hca:=ha.bool_eq
  subst hca
  split at h
  ·simp only[Option.some.injEq,Prod.mk.injEq]at h
   obtain⟨-,rfl⟩:=h
   have hcb:=hb.bool_eq
   subst hcb
   cases x
   ·exact .bool _
   ·exact .bool _
  ·simp only[Option.some.injEq,Prod.mk.injEq]at h
   obtain⟨rfl,rfl⟩:=h
   cases x
   ·cases hb with
    |opt _ _ _ _ h _=>
     have hcb:=(h (hp rfl)).bool_eq
     subst hcb
     exact .bool _
   ·exact .bool _
  ·cases h
 ·split at h
  ·simp only[Option.some.injEq,Prod.mk.injEq]at h
   obtain⟨rfl,rfl⟩:=h
   have hcb:=hb.bool_eq
   subst hcb
   cases x
   ·exact .bool _
   ·cases ha with
    |opt _ _ _ _ h _=>
     have hca:=(h (hp rfl)).bool_eq
     subst hca
     exact .bool _
  ·cases h
 ·cases h
def gdst (l0:List Oper) (j:Nat):Option Nat:=(l0[j]?).bind (·.dst)
def hardOp:Op→Bool
 |.move _=>false
 |.pick _ _ _=>false
 |.binOp _ _ _ _ _=>false
 |.unOp _ _ _=>false
 |.convert _ _ _=>false
 |.fieldAddr _ _ _=>false
 |.field _ _ _=>false
 |.indexAddr _ _ _=>false
 |.index _ _ _=>false
 |.load _ _=>false
 |.slice _ _ _ _ _=>false
 |.build _ _=>false
 |.makeFunc _ _ _=>false
 |.makeInterface _ _=>false
 |.extract _ _=>false
 |.nilCheck _=>false
 |.call {callee:=.builtin .len,..}=>false
 |.call {callee:=.builtin .min,..}=>false
 |.call {callee:=.builtin .max,..}=>false
 |_=>true
def keepOp:Op→Bool
 |.alloc _=>true
 |.box _ _=>true
 |.buildSlice _ _ _=>true
 |.makeSlice _ _ _=>true
 |.assign _=>true
 |.store _ _ _=>true
 |.call {callee:=.builtin .append,..}=>true
 |.call {callee:=.value _,..}=>true
 |_=>false
structure LDs where
 ld:Nat→Nat→Bool
 kp:Nat→Nat→Bool
 sc:Nat→Bool
def LDs.text:LDs:=⟨fun _ _=>true,fun _ _=>false,fun _=>false⟩
def isCallV:Op→Bool
 |.call {callee:=.value _,..}=>true
 |_=>false
def KeepB (LD:LDs) (i:Nat) (H H':AHeap):Prop:=∀b t u,LD.kp i t=true→Ent.box b t u∈H→Ent.box b t u∈H'
theorem KeepB.refl {LD:LDs} {n:Nat} (H:AHeap):KeepB LD n H H:=fun _ _ _ _ h=>h
theorem KeepB.cons {LD:LDs} {n:Nat} (H:AHeap) (e:Ent):KeepB LD n H (e::H):=fun _ _ _ _ h=>List.mem_cons_of_mem _ h
theorem KeepB.setNe {LD:LDs} {n:Nat} {H:AHeap} {i:Nat} {e:Ent} (hi:H[i]?=some e) (hne:∀b t u,LD.kp n t=true→e≠.box b t u) (x:Ent):KeepB LD n H (H.set i x):=by
 intro b t u ht h
 obtain⟨j,hj⟩:=List.getElem?_of_mem h
 refine List.mem_of_getElem? (i:=j) ?_
 rw[List.getElem?_set_ne]
 ·exact hj
 ·rintro rfl
  rw[hi]at hj
  cases hj
  exact hne b t u ht rfl
theorem KeepB.setTok {LD:LDs} {n:Nat} {H:AHeap} {i:Nat} {a:Option Addr} {cap m sz:Nat} {e:TypeId} (hi:H[i]?=some (.tok a cap m sz e)) (x:Ent):KeepB LD n H (H.set i x):=
 KeepB.setNe hi (fun _ _ _ _ h=>by cases h) x
theorem KeepB.setBox {LD:LDs} {n:Nat} {H:AHeap} {i b:Nat} {ty0:TypeId} {u:AV} (hi:H[i]?=some (.box b ty0 u)) (ht:LD.kp n ty0=false) (x:Ent):KeepB LD n H (H.set i x):=
 KeepB.setNe hi (fun _ _ _ h e=>by cases e;rw[h]at ht;cases ht) x
def isOff:AV→Bool→Bool
 |.bool x,b=>cond x (!b) b
 |.tuple [],_=>true
 |_,_=>false
theorem isOff_rep {st:Stab} {w:World} {u:AV} {b:Bool} {c:Value} (h:isOff u b=true) (hr:Rep st w u c):((match some c with|some (.bool x)=>some x|_=>none)==some b)=false:=by
 unfold isOff at h
 split at h
 ·obtain rfl:=hr.bool_eq
  rename_i x _
  cases x<;>cases b<;>simp_all
 ·cases hr with
  |tuple _ xs hl _=>
   rfl
 ·cases h
theorem undef_rep (st:Stab) (w:World):Rep st w (.tuple []) undef:=.tuple [] [] rfl (by simp)
def gcond (u:Option AV) (g:Bool):Option (Bool×Bool):=
 match u with
 |some (.bool x)=>some (x,g)
 |some (.opt x b (.bool y))=>some ((x==b)&&(y==g),true)
 |_=>none
theorem gcond_rep {st:Stab} {w:World} {u:AV} {g x b:Bool} {c:Value} (h:gcond (some u) g=some (x,b)) (hr:Rep st w u c):((match some c with|some (.bool x)=>some x|_=>none)==some g)=decide (x=b):=by
 unfold gcond at h
 split at h
 ·rename_i u' x' e
  cases e
  cases h
  obtain rfl:=hr.bool_eq
  cases x<;>cases g<;>rfl
 ·rename_i u' x' b' y e
  cases e
  cases h
  cases hr with
  |opt _ _ _ _ h1 h2=>
   by_cases e:x'=b'
   ·obtain rfl:=(h1 e).bool_eq
    subst e
    cases x'<;>cases y<;>cases g<;>rfl
   ·obtain rfl:=h2 e
    cases x'<;>cases b'<;>first|exact absurd rfl e|rfl
 ·cases h
def copd (u:Option AV):Option (Prop×Bool):=
 match u with
 |some (.bool y)=>some (True,y)
 |some (.opt x b (.bool y))=>some (x=b,y)
 |_=>none
theorem copd_rep {st:Stab} {w:World} {u:AV} {p:Prop} {y:Bool} {c:Value} (h:copd (some u)=some (p,y)) (hp:p) (hr:Rep st w u c):c=.bool y:=by
 unfold copd at h
 split at h
 ·rename_i y' e
  cases e
  cases h
  exact hr.bool_eq
 ·rename_i x b y' e
  cases e
  cases h
  cases hr with
  |opt _ _ _ _ h1 _=>exact(h1 hp).bool_eq
 ·cases h
def ASem (P:Program) (o:Oper) (F:Operand→Option AV) (v:AV):Prop:=
 ∀(st:Stab) (w:World) (ρ:Operand→Value),(∀x u,F x=some u→Rep st w u (ρ x))→∃c,(execOp ρ o).run P w=.ok (.value c) w∧Rep st w v c
inductive TR (P:Program) (N:Nat) (ty:TypeId→Option TyI) (l0:List Oper) (LD:LDs) (W:Bool) (Q:APost):List (Nat×Oper)→Tmps→AHeap→Prop
 |nil {T H} (h:Q .normal T H):TR P N ty l0 LD W Q [] T H
 |pure {i o l T H} (p:Prop) (v:AV) (d:Nat) (hg:o.guard=none) (hd:o.dst=some d) (hN:Nat.ble (d+1) N=true) (hv:aeval ty (opvL (tmpsOf o.op) T) o.op=some (p,v))
   (ho:optN True T (tmpsOf o.op)) (hp:p) (k:TR P N ty l0 LD W Q l ((d,v)::T) H):TR P N ty l0 LD W Q ((i,o)::l) T H
 |sem {i o l T H} (v:AV) (d:Nat) (hg:o.guard=none) (hd:o.dst=some d) (hN:Nat.ble (d+1) N=true) (ho:optN True T (tmpsOf o.op)) (hv:ASem P o (opvL (tmpsOf o.op) T) v)
   (k:TR P N ty l0 LD W Q l ((d,v)::T) H):TR P N ty l0 LD W Q ((i,o)::l) T H
 |on {i o l T H} (j:Nat) (b:Bool) (dj:Nat) (hg:o.guard=some (j,b)) (hj:gdst l0 j=some dj) (hb:lk T dj=some (.bool b))
   (k:TR P N ty l0 LD W Q ((i,{o with guard:=none})::l) T H):TR P N ty l0 LD W Q ((i,o)::l) T H
 |off {i o l T H} (j:Nat) (b:Bool) (u:AV) (dj d:Nat) (hg:o.guard=some (j,b)) (hj:gdst l0 j=some dj) (hb:lk T dj=some u) (hx:isOff u b=true)
   (hd:o.dst=some d) (hN:Nat.ble (d+1) N=true) (k:TR P N ty l0 LD W Q l ((d,.tuple [])::T) H):TR P N ty l0 LD W Q ((i,o)::l) T H
 |opt {i o l T H} (p:Prop) (v:AV) (d:Nat) (j:Nat) (g b x:Bool) (dj:Nat) (hg:o.guard=some (j,g)) (hj:gdst l0 j=some dj) (hb:gcond (lk T dj) g=some (x,b))
   (hd:o.dst=some d) (hN:Nat.ble (d+1) N=true) (hv:aeval ty (opvL (tmpsOf o.op) T) o.op=some (p,v)) (ho:optN (x=b) T (tmpsOf o.op)) (hp:x=b→p)
   (k:TR P N ty l0 LD W Q l ((d,.opt x b v)::T) H):TR P N ty l0 LD W Q ((i,o)::l) T H
 |hard {i o l T H} (K:ARes→AHeap→Prop) (hh:W=true∨hardOp o.op=true) (hg:o.guard=none) (hN:dstOk o.dst N=true) (ho:optN True T (tmpsOf o.op)) (h:AHard P o (opvL (tmpsOf o.op) T) H K)
   (k:∀v H',K (.ret v) H'→TR P N ty l0 LD W Q l (putO o.dst v T) H') (kp:∀v H',K (.panic v) H'→Q (.panic v) T H') (hkb:keepOp o.op=true→∀v H',K (.ret v) H'→KeepB LD i H H') (hsc:isCallV o.op=true→LD.sc i=false):TR P N ty l0 LD W Q ((i,o)::l) T H
 |pcl {i o l T H} (u:AV) (d:Nat) (hg:o.guard=none) (hd:o.dst=some d) (hN:dstOk o.dst N=true) (ho:optN True T (tmpsOf o.op)) (hc:isCallV o.op=true)
   (h:∀H',AHard P o (opvL (tmpsOf o.op) T) H' fun r H2=>r=.ret u∧H2=H') (k:TR P N ty l0 LD W Q l ((d,u)::T) H):TR P N ty l0 LD W Q ((i,o)::l) T H
 |hload {i o l T H} (t:TypeId) (x:Operand) (ti:TyI) (b off:Nat) (ty0:TypeId) (u:AV) (p:Prop) (v:AV) (d:Nat) (hg:o.guard=none) (ho:o.op=.load t x)
   (hd:o.dst=some d) (hN:Nat.ble (d+1) N=true) (hx:opvL (tmpsOf o.op) T x=some (.ptr b off)) (hon:optN True T (tmpsOf o.op)) (ht:ty t=some ti)
   (hm:Ent.box b ty0 u∈H) (hv:boxAt ti u off=some (p,v)) (hp:p) (hl:LD.ld i ty0=true) (k:TR P N ty l0 LD W Q l ((d,v)::T) H):TR P N ty l0 LD W Q ((i,o)::l) T H
 |hopt {i o l T H} (t:TypeId) (y:Operand) (ti:TyI) (bb off:Nat) (ty0:TypeId) (u:AV) (p:Prop) (v:AV) (d j:Nat) (g b x:Bool) (dj:Nat) (hg:o.guard=some (j,g)) (hj:gdst l0 j=some dj)
   (hb:gcond (lk T dj) g=some (x,b)) (ho:o.op=.load t y) (hd:o.dst=some d) (hN:Nat.ble (d+1) N=true) (hx:opvL (tmpsOf o.op) T y=some (.ptr bb off)) (hon:optN (x=b) T (tmpsOf o.op))
   (ht:ty t=some ti) (hm:Ent.box bb ty0 u∈H) (hv:boxAt ti u off=some (p,v)) (hp:x=b→p) (hl:LD.ld i ty0=true) (k:TR P N ty l0 LD W Q l ((d,.opt x b v)::T) H):
   TR P N ty l0 LD W Q ((i,o)::l) T H
 |pick {i o l T H} (c a b:Operand) (x:Bool) (va vb v:AV) (p:Prop) (d:Nat) (hg:o.guard=none) (ho:o.op=.pick c a b) (hd:o.dst=some d) (hN:Nat.ble (d+1) N=true)
   (hc:opv T c=some (.bool x)) (ha:opv T a=some va) (hb:opv T b=some vb) (hv:apick x va vb=some (p,v)) (hp:p) (k:TR P N ty l0 LD W Q l ((d,v)::T) H):
   TR P N ty l0 LD W Q ((i,o)::l) T H
 |copt {i o l T H} (u:AV) (d j:Nat) (g b x:Bool) (dj:Nat) (hh:W=true∨hardOp o.op=true) (hg:o.guard=some (j,g)) (hj:gdst l0 j=some dj) (hb:gcond (lk T dj) g=some (x,b)) (hd:o.dst=some d)
   (hN:Nat.ble (d+1) N=true) (ho:optN (x=b) T (tmpsOf o.op)) (h:x=b→AHard P o (opvL (tmpsOf o.op) T) H fun r H'=>r=.ret u∧H'=H) (k:TR P N ty l0 LD W Q l ((d,.opt x b u)::T) H) (hsc:isCallV o.op=true→LD.sc i=false):
   TR P N ty l0 LD W Q ((i,o)::l) T H
 |sopt {i o l T H} (v:AV) (d j:Nat) (g b x:Bool) (dj:Nat) (hg:o.guard=some (j,g)) (hj:gdst l0 j=some dj) (hb:gcond (lk T dj) g=some (x,b)) (hd:o.dst=some d)
   (hN:Nat.ble (d+1) N=true) (ho:optN (x=b) T (tmpsOf o.op)) (hv:x=b→ASem P o (opvL (tmpsOf o.op) T) v) (k:TR P N ty l0 LD W Q l ((d,.opt x b v)::T) H):
   TR P N ty l0 LD W Q ((i,o)::l) T H
 |gpick {i o l T H} (c a b':Operand) (y:Bool) (va vb v:AV) (pc p:Prop) (d j:Nat) (g b x:Bool) (dj:Nat) (hg:o.guard=some (j,g)) (hj:gdst l0 j=some dj) (hb:gcond (lk T dj) g=some (x,b)) (ho:o.op=.pick c a b')
   (hd:o.dst=some d) (hN:Nat.ble (d+1) N=true) (hc:copd (opv T c)=some (pc,y)) (hpc:x=b→pc) (ha:opv T a=some va) (hb':opv T b'=some vb) (hv:apick y va vb=some (p,v)) (hp:x=b→p)
   (k:TR P N ty l0 LD W Q l ((d,.opt x b v)::T) H):TR P N ty l0 LD W Q ((i,o)::l) T H
 |know {l T H} (t:Nat) (x b:Bool) (hW:W=true) (hx:x=b) (hl:lk T t=some (.bool x)) (k:TR P N ty l0 LD W Q l ((t,.bool b)::T) H):TR P N ty l0 LD W Q l T H
theorem FR.at {N:Nat} {st:Stab} {w:World} {T:Tmps} {a:Act} (h:FR N st w T a) (L:List Nat):∀t∈L,∀v,lk T t=some v→∃x,a.tmps[t]?=some x∧Rep st w v x:=
 fun t _ v hv=>h.val t v hv
section
variable {P:Program} {N:Nat} {ty:TypeId→Option TyI}
theorem not_defer_of_value {ρ:Operand→Value} {o:Oper} {w w':World} {c:Value} (h:(execOp ρ o).run P w=.ok (.value c) w'):∀c,o.op≠.defer c:=by
 intro d hd
 unfold execOp at h
 rw[hd]at h
 simp only[Sem.run_bind]at h
 cases hr:(resolve ρ d o.type).run P w with
 |ok x w2=>simp[hr,Result.andThen]at h
 |halt x w2=>simp[hr,Result.andThen]at h
theorem not_defer_of_skip {ρ:Operand→Value} {o:Oper} {w w':World} (h:(execOp ρ o).run P w=.ok .skip w'):∀c,o.op≠.defer c:=by
 intro d hd
 unfold execOp at h
 rw[hd]at h
 simp only[Sem.run_bind]at h
 cases hr:(resolve ρ d o.type).run P w with
 |ok x w2=>simp[hr,Result.andThen]at h
 |halt x w2=>simp[hr,Result.andThen]at h
theorem wp_of_value {r:Option Nat} {o:Oper} {a:Act} {w:World} {next:Act→World→Prop} {Q:Exit→Act→World→Prop} {c:Value} (h:(execOp a.eval o).run P w=.ok (.value c) w)
  (k:next (a.put o.dst c) w):o.wpIn (fen r) 0 P a w next Q:=by
 refine⟨fun _ _=>trivial,?_⟩
 rw[Oper.semAt_eq _ _ _ (not_defer_of_value h),h]
 exact k
def _root_.Go.Ab.AV.one:AV→Bool
 |.agg _=>false
 |.vec _ _=>false
 |.tuple _=>false
 |.opt _ _ _=>false
 |.any=>false
 |.conc (.slice _ _ _)=>true
 |.conc _=>false
 |_=>true
theorem one_cells {st:Stab} {w:World} {v:AV} {c:Value} (ho:v.one=true) (h:Rep st w v c):c.cells= #[c]∧c.oneCell'=true:=by
 cases h<;>first|(simp[AV.one]at ho;done)|exact⟨rfl,rfl⟩|(cases c<;>first|(simp[AV.one]at ho;done)|exact⟨rfl,rfl⟩)
theorem cells_load_sound (hty:TyOk P ty) {st:Stab} {w:World} {t:TypeId} {i:TyI} (hi:ty t=some i) {cells:List AV} {b off:Nat} {c:Nat→Value}
  (hcell:∀j,j<cells.length→w.cell? ⟨b,off+j,none⟩=some (c j)) (hrep:∀j v,cells[j]?=some v→Rep st w v (c j))
  {v:AV} (hp:partOf i cells=some v):∃x,(Instr.loadAt t (.pointer (some ⟨b,off,none⟩))).run P w=.ok x w∧Rep st w v x:=by
 obtain⟨⟨d,hd,hk⟩,inf,z,hinf,hsz,hby,hz,hzs,hzr⟩:=hty t i hi
 obtain⟨ho,hp⟩:=partOf_not hp
 have ha:=run_isAgg (w:=w) hd hk ho
 unfold Instr.loadAt
 simp only[Instr.sureAddr,Sem.run_bind,Sem.run_pure,Result.andThen_ok]
 unfold loadVar
 rw[Sem.run_bind,ha]
 unfold partOf' at hp
 cases hag:i.k.isAgg with
 |true=>
  rw[hag]at hp
  cases hle:Nat.ble i.size cells.length with
  |false=>simp[hle]at hp
  |true=>
   simp[hle]at hp
   subst hp
   have hle':=Nat.le_of_ble_eq_true hle
   have hl:=run_loadCells (P:=P) w ⟨b,off,none⟩ i.size c (fun j hj=>by rw[addr_add];exact hcell j (by omega))
   refine⟨.agg ⟨(List.range i.size).map c⟩,?_,?_⟩
   ·simp[Result.andThen,run_sizeOf hinf,hsz,hl]
   ·refine .agg _ _ (by simp;omega) fun j v x hv hx=>?_
    have hj:j<i.size:=by
     have:=(List.getElem?_eq_some_iff.1 hx).1
     simpa using this
    simp[hj]at hx
    subst hx
    rw[List.getElem?_take,if_pos hj]at hv
    exact hrep j v hv
 |false=>
  rw[hag]at hp
  simp only at hp
  have hne:0<cells.length:=by cases cells<;>simp at hp ⊢
  have h0:=hcell 0 hne
  refine⟨c 0,?_,hrep 0 v (by rw[←List.head?_eq_getElem?];exact hp)⟩
  simp only[Nat.add_zero]at h0
  simp[Result.andThen,h0]
theorem getD_some {α:Type} [Inhabited α] {l:List α} {j:Nat} (h:j<l.length):l[j]?=some (l.getD j default):=by simp[h,List.getD]
theorem boxAt_sound (hty:TyOk P ty) {st:Stab} {w:World} {t:TypeId} {ti:TyI} (hti:ty t=some ti) {b off:Nat} {ty0:TypeId} {u v:AV} {p:Prop}
  (hh:(Ent.box b ty0 u).holds st w) (h:boxAt ti u off=some (p,v)) (hp:p):∃c,(Instr.loadAt t (.pointer (some ⟨b,off,none⟩))).run P w=.ok c w∧Rep st w v c:=by
 obtain⟨arr,cv,hblk,hrep,hcells,hone,-⟩:=hh
 obtain⟨⟨d,hd,hk⟩,inf,z,hinf,hsz,hby,hz,hzs,hzr⟩:=hty t ti hti
 have hcell:∀j,w.cell? ⟨b,j,none⟩=arr[j]?:=fun j=>cell_of_row w b j arr ty0 (0,0) hblk
 have scal:∀(u:AV),u.one=true→Rep st w u cv→(match ti.k with
  |.array _ _=>none
  |.struct _=>none
  |.other=>none
  |_=>cond (Nat.beq off 0) (some (True,u)) none)=some (p,v)→∃c,(Instr.loadAt t (.pointer (some ⟨b,off,none⟩))).run P w=.ok c w∧Rep st w v c:=by
  intro u ho hr hm
  obtain⟨h1,-⟩:=one_cells ho hr
  rw[h1]at hcells
  subst hcells
  have hfin:off=0∧v=u∧ti.k.isAgg=false∧(ti.k=.other→False):=by
   cases hik:ti.k<;>rw[hik]at hm<;>simp only[reduceCtorEq]at hm<;>(cases hb:Nat.beq off 0<;>simp[hb]at hm)<;>
    exact⟨Nat.eq_of_beq_eq_true hb,hm.2.symm,rfl,fun e=>by cases e⟩
  obtain⟨rfl,rfl,hag,hno⟩:=hfin
  have ha:=run_isAgg (w:=w) hd hk hno
  refine⟨cv,?_,hr⟩
  have h0:=hcell 0
  unfold Instr.loadAt
  simp only[Instr.sureAddr,Sem.run_bind,Sem.run_pure,Result.andThen_ok]
  unfold loadVar
  rw[Sem.run_bind,ha,hag]
  simp[Result.andThen,h0]
 cases u with
 |agg cells=>
  cases hrep with
  |agg _ cs hl hr=>
   obtain rfl:arr=⟨cs⟩:=hcells.symm
   refine cells_load_sound hty hti (cells:=cells.drop off) (c:=fun j=>cs.getD (off+j) default) (fun j hj=>?_) (fun j u hu=>?_) (just_some h)
   ·rw[hcell]
    have:off+j<cs.length:=by simp at hj;omega
    simpa using getD_some this
   ·have hj:off+j<cells.length:=by
     have:=(List.getElem?_eq_some_iff.1 hu).1
     simp at this;omega
    exact hr (off+j) u _ (by simpa using hu) (getD_some (by omega))
 |vec n el=>
  cases hrep with
  |vec _ _ cs hl hr hvo=>
   obtain rfl:arr=⟨cs⟩:=hcells.symm
   have elem:ti.k.isAgg=false→(ti.k=.other→False)→(p,v)=(off<n,el off)→∃c,(Instr.loadAt t (.pointer (some ⟨b,off,none⟩))).run P w=.ok c w∧Rep st w v c:=by
    intro hag hno he
    simp only[Prod.mk.injEq]at he
    obtain⟨rfl,rfl⟩:=he
    have hlt:off<cs.length:=by omega
    have ha:=run_isAgg (w:=w) hd hk hno
    have h0:=hcell off
    refine⟨cs.getD off default,?_,hr off _ (getD_some hlt)⟩
    unfold Instr.loadAt
    simp only[Instr.sureAddr,Sem.run_bind,Sem.run_pure,Result.andThen_ok]
    unfold loadVar
    rw[Sem.run_bind,ha,hag]
    have h0':w.cell? ⟨b,off,none⟩=some (cs.getD off default):=by rw[h0];simpa using getD_some hlt
    simp[Result.andThen,h0']
   unfold boxAt at h
   simp only at h
   cases hik:ti.k<;>rw[hik]at h<;>simp only[Option.some.injEq,reduceCtorEq]at h
   case array m e=>
    cases hb:(Nat.beq m n&&Nat.beq ti.size n&&Nat.beq off 0)with
    |false=>simp[hb]at h
    |true=>
     simp[hb]at h
     obtain⟨-,rfl⟩:=h
     simp only[Bool.and_eq_true]at hb
     obtain⟨⟨_,h1⟩,h2⟩:=hb
     have h1:=Nat.eq_of_beq_eq_true h1
     obtain rfl:=Nat.eq_of_beq_eq_true h2
     have ha:=run_isAgg (w:=w) hd hk (fun e=>by rw[hik]at e;cases e)
     have hlc:=run_loadCells_list (P:=P) w ⟨b,0,none⟩ cs (fun j y hy=>by rw[addr_add,Nat.zero_add,hcell];simpa using hy)
     refine⟨.agg ⟨cs⟩,?_,.vec n el cs hl hr hvo⟩
     unfold Instr.loadAt
     simp only[Instr.sureAddr,Sem.run_bind,Sem.run_pure,Result.andThen_ok]
     unfold loadVar
     rw[Sem.run_bind,ha,hik]
     have hsz':inf.size=cs.length:=by omega
     simp[Result.andThen,TyK.isAgg,run_sizeOf hinf,hsz',hlc]
   case struct fs=>
    simp only[Prod.mk.injEq]at h
    obtain⟨rfl,rfl⟩:=h
    have hle:off+ti.size≤n:=hp
    refine cells_load_sound hty hti (cells:=(List.range ti.size).map fun j=>el (off+j)) (c:=fun j=>cs.getD (off+j) default) (fun j hj=>?_) (fun j u hu=>?_) ?_
    ·rw[hcell]
     have:off+j<cs.length:=by simp at hj;omega
     simpa using getD_some this
    ·have hj:j<ti.size:=by
      have:=(List.getElem?_eq_some_iff.1 hu).1
      simpa using this
     simp[hj]at hu
     subst hu
     exact hr (off+j) _ (getD_some (by omega))
    ·unfold partOf partOf'
     rw[hik]
     simp[TyK.isOther,TyK.isAgg,List.take_of_length_le,Nat.ble_eq_true_of_le (Nat.le_refl ti.size)]
   all_goals exact elem (by rw[hik];rfl) (fun e=>by rw[hik]at e;cases e) h.symm
 |tuple vs=>simp[boxAt]at h
 |opt x b v=>simp[boxAt]at h
 |any=>simp[boxAt]at h
 |conc v=>simp[boxAt]at h
 |_=>exact scal _ rfl hrep h
theorem wanted_none {o:Oper} {y:Nat→Option Bool} (h:o.guard=none):Region.wanted o y=true:=by simp[Region.wanted,h]
theorem yielded_lk {st:Stab} {w:World} {T:Tmps} {a:Act} {l0:List Oper} {j dj:Nat} {x:Bool} (hf:FR N st w T a) (hj:gdst l0 j=some dj) (hb:lk T dj=some (.bool x)):
  yielded l0.toArray a.tmps j=some x:=by
 obtain⟨c,h1,h2⟩:=hf.val dj _ hb
 obtain rfl:=h2.bool_eq
 unfold gdst at hj
 simp[yielded,hj,h1]
theorem wanted_lk {st:Stab} {w:World} {T:Tmps} {a:Act} {l0:List Oper} {o:Oper} {j dj:Nat} {g x b:Bool} (hf:FR N st w T a) (hg:o.guard=some (j,g)) (hj:gdst l0 j=some dj)
  (hb:gcond (lk T dj) g=some (x,b)):Region.wanted o (yielded l0.toArray a.tmps)=decide (x=b):=by
 cases hl:lk T dj with
 |none=>rw[hl]at hb;cases hb
 |some u=>
  rw[hl]at hb
  obtain⟨c,h1,h2⟩:=hf.val dj _ hl
  have:=gcond_rep hb h2
  unfold gdst at hj
  simp only[Region.wanted,hg,yielded,List.getElem?_toArray,hj,Option.bind_some,h1]
  exact this
theorem wp_hard {o:Oper} {F:Operand→Option AV} {T:Tmps} {H:AHeap} {K:ARes→AHeap→Prop} {Q:APost} {E:Env0} {st:Stab} {w:World} {a:Act} {r:Option Nat} {B:Bs} {next:Act→World→Prop}
  (hN:dstOk o.dst N=true) (h:AHard P o F H K) (hc:Conc E st H w) (hf:FR N st w T a) (hd:Fr r B H w a.defers) (hF:∀x v,F x=some v→Rep st w v (a.eval x))
  (kn:∀st' w' a' v H',Conc E st' H' w'→FR N st' w' (putO o.dst v T) a'→Fr r B H' w' a'.defers→K (.ret v) H'→next a' w')
  (kp:∀v H',K (.panic v) H'→Q (.panic v) T H'):o.wpIn (fen r) 0 P a w next (Post E N r B Q):=by
 refine h (Env0.of w st H) st w a r next (Post E N r B Q) hc.start hF hd.gl ?_ ?_
 ·intro st' w' v c H' h1 h2 h3 h4
  refine kn st' w' _ v H' (hc.trans h1) ((hf.mono h2).putO hN h3) ?_ h4
  have:=hd.keep h1
  cases o.dst<;>exact this
 ·intro st' w' v c H' h1 h2 h3 h4
  exact Post.mk (hc.trans h1) (hf.mono h2) (hd.keep h1) (x:=.panic v) ⟨c,rfl,h3⟩ (kp v H' h4)
theorem TR.sound (hty:TyOk P ty) {l0:List Oper} {LD:LDs} {W:Bool} {Q:APost} {l:List (Nat×Oper)} {T:Tmps} {H:AHeap} (h:TR P N ty l0 LD W Q l T H):
  ∀E st w a r B,Conc E st H w→FR N st w T a→Fr r B H w a.defers→wpListIn (fen r) 0 P l0.toArray (Post E N r B Q) (l.map (·.2)) a w:=by
 induction h with
 |nil h=>exact fun E st w a r B hc hf hd=>Post.mk hc hf hd (x:=.normal) trivial h
 | @pure i o l T H p v d hg hdst hN hv ho hp _ ih=>
   intro E st w a r B hc hf hd
   obtain⟨c,h1,h2⟩:=aeval_sound (P:=P) hty (fun x u hx=>opvL_rep (N:=N) (hf.at _) ho trivial hf.size hx) hv hp
   unfold wpListIn
   rw[List.map_cons]
   simp only
   rw[if_pos (wanted_none hg)]
   refine(wp_of_value h1 ?_)
   rw[hdst]
   exact ih E st w _ r B hc (hf.put hN h2) hd
 | @sem i o l T H v d hg hdst hN ho hv _ ih=>
   intro E st w a r B hc hf hd
   obtain⟨c,h1,h2⟩:=hv st w a.eval (fun x u hx=>opvL_rep (N:=N) (hf.at _) ho trivial hf.size hx)
   unfold wpListIn
   rw[List.map_cons]
   simp only
   rw[if_pos (wanted_none hg)]
   refine(wp_of_value h1 ?_)
   rw[hdst]
   exact ih E st w _ r B hc (hf.put hN h2) hd
 | @on i o l T H j b dj hg hj hb _ ih=>
   intro E st w a r B hc hf hd
   have:=ih E st w a r B hc hf hd
   unfold wpListIn at this ⊢
   rw[List.map_cons]at this ⊢
   simp only at this ⊢
   rw[if_pos (wanted_none rfl)]at this
   rw[if_pos (by simp[Region.wanted,hg,yielded_lk hf hj hb])]
   exact this
 | @off i o l T H j b u dj d hg hj hb hx hdst hN _ ih=>
   intro E st w a r B hc hf hd
   unfold wpListIn
   rw[List.map_cons]
   simp only
   have hw:Region.wanted o (yielded l0.toArray a.tmps)=false:=by
    obtain⟨c,h1,h2⟩:=hf.val dj _ hb
    have:=isOff_rep hx h2
    unfold gdst at hj
    simp only[Region.wanted,hg,yielded,List.getElem?_toArray,hj,Option.bind_some,h1]
    exact this
   rw[hw,hdst]
   exact⟨fun _ _=>trivial,ih E st w _ r B hc (hf.put hN (undef_rep st w)) hd⟩
 | @opt i o l T H p v d j g b x dj hg hj hb hdst hN hv ho hp _ ih=>
   intro E st w a r B hc hf hd
   unfold wpListIn
   rw[List.map_cons]
   simp only
   by_cases hxb:x=b
   ·have hw:Region.wanted o (yielded l0.toArray a.tmps)=true:=by
     rw[wanted_lk hf hg hj hb];simp[hxb]
    rw[hw]
    obtain⟨c,h1,h2⟩:=aeval_sound (P:=P) hty (fun y u hy=>opvL_rep (N:=N) (hf.at _) ho hxb hf.size hy) hv (hp hxb)
    refine(wp_of_value h1 ?_)
    rw[hdst]
    exact ih E st w _ r B hc (hf.put hN (.opt _ _ _ _ (fun _=>h2) (fun e=>absurd hxb e))) hd
   ·have hw:Region.wanted o (yielded l0.toArray a.tmps)=false:=by
     rw[wanted_lk hf hg hj hb];simp[hxb]
    rw[hw,hdst]
    exact⟨fun _ _=>trivial,ih E st w _ r B hc (hf.put hN (.opt _ _ _ _ (fun e=>absurd e hxb) (fun _=>rfl))) hd⟩
 | @hard i o l T H K _ hg hN ho h _ kp _ _ ih=>
   intro E st w a r B hc hf hd
   unfold wpListIn
   rw[List.map_cons]
   simp only
   rw[if_pos (wanted_none hg)]
   refine(wp_hard hN h hc hf hd (fun y u hy=>opvL_rep (N:=N) (hf.at _) ho trivial hf.size hy) ?_ kp)
   intro st' w' a' v H' h1 h2 h3 h4
   exact ih v H' h4 E st' w' a' r B h1 h2 h3
 | @pcl i o l T H u d hg hd0 hN ho hcv h _ ih=>
   intro E st w a r B hc hf hd
   unfold wpListIn
   rw[List.map_cons]
   simp only
   rw[if_pos (wanted_none hg)]
   refine(wp_hard (T:=T) (Q:=Q) hN (h H) hc hf hd (fun y u hy=>opvL_rep (N:=N) (hf.at _) ho trivial hf.size hy) ?_ (fun v H' e=>by cases e.1))
   rintro st' w' a' v H' h1 h2 h3 ⟨e,rfl⟩
   cases e
   rw[hd0]at h2
   exact ih E st' w' a' r B h1 h2 h3
 | @hload i o l T H t x ti b off ty0 u p v d hg hop hdst hN hx hon ht hm hv hp _ _ ih=>
   intro E st w a r B hc hf hd
   have hr:=opvL_rep (N:=N) (hf.at _) hon trivial hf.size hx
   obtain⟨c,h1,h2⟩:=boxAt_sound (P:=P) hty ht (hc.ents _ hm) hv hp
   have he:a.eval x=.pointer (some ⟨b,off,none⟩):=by
    generalize a.eval x=y at hr
    cases hr
    rfl
   unfold wpListIn
   rw[List.map_cons]
   simp only
   rw[if_pos (wanted_none hg)]
   refine(wp_of_value (c:=c) ?_ ?_)
   ·unfold execOp
    rw[hop]
    simp only[he]
    exact exec_v h1
   ·rw[hdst]
    exact ih E st w _ r B hc (hf.put hN h2) hd
 | @hopt i o l T H t y ti bb off ty0 u p v d j g b x dj hg hj hb hop hdst hN hx hon ht hm hv hp _ _ ih=>
   intro E st w a r B hc hf hd
   unfold wpListIn
   rw[List.map_cons]
   simp only
   by_cases hxb:x=b
   ·have hw:Region.wanted o (yielded l0.toArray a.tmps)=true:=by
     rw[wanted_lk hf hg hj hb];simp[hxb]
    rw[hw]
    have hr:=opvL_rep (N:=N) (hf.at _) hon hxb hf.size hx
    obtain⟨c,h1,h2⟩:=boxAt_sound (P:=P) hty ht (hc.ents _ hm) hv (hp hxb)
    have he:a.eval y=.pointer (some ⟨bb,off,none⟩):=by
     generalize a.eval y=q at hr
     cases hr
     rfl
    refine(wp_of_value (c:=c) ?_ ?_)
    ·unfold execOp
     rw[hop]
     simp only[he]
     exact exec_v h1
    ·rw[hdst]
     exact ih E st w _ r B hc (hf.put hN (.opt _ _ _ _ (fun _=>h2) (fun e=>absurd hxb e))) hd
   ·have hw:Region.wanted o (yielded l0.toArray a.tmps)=false:=by
     rw[wanted_lk hf hg hj hb];simp[hxb]
    rw[hw,hdst]
    exact⟨fun _ _=>trivial,ih E st w _ r B hc (hf.put hN (.opt _ _ _ _ (fun e=>absurd e hxb) (fun _=>rfl))) hd⟩
 | @pick i o l T H c a' b x va vb v p d hg hop hdst hN hcc ha hb hv hp _ ih=>
   intro E st w a r B hc hf hd
   have h1:=(opv_rep hf hcc).bool_eq
   have h2:=apick_sound (opv_rep hf ha) (opv_rep hf hb) hv hp
   unfold wpListIn
   rw[List.map_cons]
   simp only
   rw[if_pos (wanted_none hg)]
   refine(wp_of_value (c:=if x then a.eval a' else a.eval b) ?_ ?_)
   ·unfold execOp
    rw[hop]
    simp[h1,asBool]
   ·rw[hdst]
    exact ih E st w _ r B hc (hf.put hN h2) hd
 | @copt i o l T H u d j g b x dj _ hg hj hb hdst hN ho h _ _ ih=>
   intro E st w a r B hc hf hd
   unfold wpListIn
   rw[List.map_cons]
   simp only
   by_cases hxb:x=b
   ·have hw:Region.wanted o (yielded l0.toArray a.tmps)=true:=by
     rw[wanted_lk hf hg hj hb];simp[hxb]
    rw[hw]
    refine(h hxb (Env0.of w st H) st w a r _ _ hc.start (fun y u hy=>opvL_rep (N:=N) (hf.at _) ho hxb hf.size hy) hd.gl ?_ ?_)
    ·rintro st' w' v c H' h1 h2 h3 ⟨e,rfl⟩
     cases e
     rw[hdst]
     exact ih E st' w' _ r B (hc.trans h1) ((hf.mono h2).put hN (.opt _ _ _ _ (fun _=>h3) (fun e=>absurd hxb e))) (hd.keep h1)
    ·rintro st' w' v c H' h1 h2 h3 ⟨e,rfl⟩
     cases e
   ·have hw:Region.wanted o (yielded l0.toArray a.tmps)=false:=by
     rw[wanted_lk hf hg hj hb];simp[hxb]
    rw[hw,hdst]
    exact⟨fun _ _=>trivial,ih E st w _ r B hc (hf.put hN (.opt _ _ _ _ (fun e=>absurd e hxb) (fun _=>rfl))) hd⟩
 | @sopt i o l T H v d j g b x dj hg hj hb hdst hN ho hv _ ih=>
   intro E st w a r B hc hf hd
   unfold wpListIn
   rw[List.map_cons]
   simp only
   by_cases hxb:x=b
   ·have hw:Region.wanted o (yielded l0.toArray a.tmps)=true:=by
     rw[wanted_lk hf hg hj hb];simp[hxb]
    rw[hw]
    obtain⟨c,h1,h2⟩:=hv hxb st w a.eval (fun y u hy=>opvL_rep (N:=N) (hf.at _) ho hxb hf.size hy)
    refine(wp_of_value h1 ?_)
    rw[hdst]
    exact ih E st w _ r B hc (hf.put hN (.opt _ _ _ _ (fun _=>h2) (fun e=>absurd hxb e))) hd
   ·have hw:Region.wanted o (yielded l0.toArray a.tmps)=false:=by
     rw[wanted_lk hf hg hj hb];simp[hxb]
    rw[hw,hdst]
    exact⟨fun _ _=>trivial,ih E st w _ r B hc (hf.put hN (.opt _ _ _ _ (fun e=>absurd e hxb) (fun _=>rfl))) hd⟩
 | @gpick i o l T H c a' b' y va vb v pc p d j g b x dj hg hj hb hop hdst hN hcc hpc ha hb' hv hp _ ih=>
   intro E st w a r B hc hf hd
   unfold wpListIn
   rw[List.map_cons]
   simp only
   by_cases hxb:x=b
   ·have hw:Region.wanted o (yielded l0.toArray a.tmps)=true:=by
     rw[wanted_lk hf hg hj hb];simp[hxb]
    rw[hw]
    have h1:a.eval c=.bool y:=by
     cases hu:opv T c with
     |none=>rw[hu]at hcc;cases hcc
     |some u=>rw[hu]at hcc;exact copd_rep hcc (hpc hxb) (opv_rep hf hu)
    have h2:=apick_sound (opv_rep hf ha) (opv_rep hf hb') hv (hp hxb)
    refine(wp_of_value (c:=if y then a.eval a' else a.eval b') ?_ ?_)
    ·unfold execOp
     rw[hop]
     simp[h1,asBool]
    ·rw[hdst]
     exact ih E st w _ r B hc (hf.put hN (.opt _ _ _ _ (fun _=>h2) (fun e=>absurd hxb e))) hd
   ·have hw:Region.wanted o (yielded l0.toArray a.tmps)=false:=by
     rw[wanted_lk hf hg hj hb];simp[hxb]
    rw[hw,hdst]
    exact⟨fun _ _=>trivial,ih E st w _ r B hc (hf.put hN (.opt _ _ _ _ (fun e=>absurd e hxb) (fun _=>rfl))) hd⟩
 | @know l T H t x b _ hx hl _ ih=>
   intro E st w a r B hc hf hd
   subst hx
   refine ih E st w a r B hc (hf.weaken fun u v' hu=>?_) hd
   by_cases e:t=u
   ·subst e
    simp[lk]at hu
    subst hu
    exact⟨_,hl,Sub.refl _⟩
   ·simp only[lk,beq_ne e,cond_false]at hu
    exact⟨v',hu,Sub.refl _⟩
def ix (k:Nat):List Oper→List (Nat×Oper)
 |[]=>[]
 |o::l=>(k,o)::ix (k+1) l
theorem ix_map (l:List Oper):∀k,(ix k l).map (·.2)=l:=by
 induction l with
 |nil=>intro k;rfl
 |cons o l ih=>intro k;simp[ix,ih]
theorem awp_region (hty:TyOk P ty) {id:Nat} {l:List Oper} {T:Tmps} {H:AHeap} {Q:APost} (h:TR P N ty l .text true Q (ix 0 l) T H):AWP P N (.region id l.toArray false) T H Q:=by
 intro E st w a r B hc hf hd
 have:=h.sound hty E st w a r B hc hf hd
 rw[ix_map]at this
 exact wpIn_region_lit this
end
end Go.Ab
namespace Go.Ab
theorem perm_eraseIdx {α:Type}:∀(l:List α) (i:Nat) (x:α),l[i]?=some x→l.Perm (x::l.eraseIdx i)
 |[],i,x,h=>by simp at h
 |y::l,0,x,h=>by simp at h;subst h;exact List.Perm.refl _
 |y::l,i+1,x,h=>by
  have:=perm_eraseIdx l i x (by simpa using h)
  rw[List.eraseIdx_cons_succ]
  exact(this.cons y).trans (List.Perm.swap x y _)
theorem perm_set {α:Type}:∀(l:List α) (i:Nat) (x y:α),l[i]?=some x→(y::l.eraseIdx i).Perm (l.set i y)
 |[],i,x,y,h=>by simp at h
 |z::l,0,x,y,h=>by simp
 |z::l,i+1,x,y,h=>by
  have:=perm_set l i x y (by simpa using h)
  rw[List.eraseIdx_cons_succ,List.set_cons_succ]
  exact(List.Perm.swap z y _).trans (this.cons z)
theorem Conc.draw {E:Env0} {st:Stab} {H:AHeap} {w:World} (h:Conc E st H w):Conc E st H w.drew:=
 ⟨h.os,h.tape,h.output,h.size,h.old,h.keep,h.stle,h.stnew,h.stlt,h.ownnew,h.ownlt,
  fun e he=>Ent.holds_keep (w:=w) (w':=w.drew) ⟨fun _ _ h=>h,fun _ _ _=>rfl⟩ (h.ents e he) (fun _ _=>rfl) (fun _ _ _ h=>h),h.sep,h.fz⟩
theorem Keeps.draw (st:Stab) (w:World):Keeps st st w w.drew:=⟨fun _ _ h=>h,fun _ _ _=>rfl⟩
theorem Conc.grow {E:Env0} {st st':Stab} {H Hn:AHeap} {w w':World} (h:Conc E st H w) (hos:w'.os=w.os) (htape:w'.tape=w.tape) (hout:w'.output=w.output)
  (hsz:w.heap.size≤w'.heap.size) (hblk:∀k,k<w.heap.size→w'.heap[k]?=w.heap[k]?) (hle:∀b o,st b o→st' b o)
  (hst:∀b o,st' b o→st b o∨(w.heap.size≤b∧b<w'.heap.size))
  (hn:∀e∈Hn,e.holds st' w') (hno:∀k,AHeap.owns Hn k→w.heap.size≤k∧k<w'.heap.size) (hns:Hn.Pairwise fun e e'=>∀k,e.owns k→¬e'.owns k)
  (hfz:∀b o,st' b o→st b o∨Unf w' b:=by exact fun _ _ h=>.inl h):
  Conc E st' (Hn++H) w'∧Keeps st st' w w':=by
 have kc:∀b o,st b o→w'.cell? ⟨b,o,none⟩=w.cell? ⟨b,o,none⟩:=fun b o hs=>World.cell?_of_block (w:=w) (hblk b (h.stlt b o hs))
 have k:Keeps st st' w w':=⟨hle,kc⟩
 refine⟨⟨hos.trans h.os,htape.trans h.tape,hout.trans h.output,Nat.le_trans h.size hsz,?_,?_,fun b o hs=>hle b o (h.stle b o hs),?_,?_,?_,?_,?_,?_,fun b o hs hk=>(hfz b o hs).elim (fun x=>(h.fz b o x hk).same (hblk b (h.stlt b o x))) id⟩,k⟩
 ·exact fun b hb hO=>(hblk b (Nat.lt_of_lt_of_le hb h.size)).trans (h.old b hb hO)
 ·exact fun b o hs=>(kc b o (h.stle b o hs)).trans (h.keep b o hs)
 ·intro b o hs
  rcases hst b o hs with x|x
  ·exact h.stnew b o x
  ·exact .inr (.inl (Nat.le_trans h.size x.1))
 ·intro b o hs
  rcases hst b o hs with x|x
  ·exact Nat.lt_of_lt_of_le (h.stlt b o x) hsz
  ·exact x.2
 ·intro b hb
  rcases(AHeap.owns_append _ _ _).1 hb with x|x
  ·exact .inr (Nat.le_trans h.size (hno b x).1)
  ·exact h.ownnew b x
 ·intro b hb
  rcases(AHeap.owns_append _ _ _).1 hb with x|x
  ·exact(hno b x).2
  ·exact Nat.lt_of_lt_of_le (h.ownlt b x) hsz
 ·intro e he
  rcases List.mem_append.1 he with x|x
  ·exact hn e x
  ·refine Ent.holds_keep k (h.ents e x) (fun b hb=>hblk b (h.ownlt b ⟨e,x,hb⟩)) ?_
   intro b o hb hs
   rcases hst b o hs with y|y
   ·exact y
   ·exact absurd (h.ownlt b ⟨e,x,hb⟩) (by omega)
 ·refine List.pairwise_append.2 ⟨hns,h.sep,fun e he e2 he2 b hb hb2=>?_⟩
  have:=(hno b ⟨e,he,hb⟩).1
  have:=h.ownlt b ⟨e2,he2,hb2⟩
  omega
theorem Conc.mod {E:Env0} {st st':Stab} {F:AHeap} {e e':Ent} {g:Nat} {w w':World} (h:Conc E st (e::F) w) (hg:e.owns g) (hos:w'.os=w.os) (htape:w'.tape=w.tape)
  (hout:w'.output=w.output) (hsz:w'.heap.size=w.heap.size) (hblk:∀k,k≠g→w'.heap[k]?=w.heap[k]?) (hkeep:∀o,st g o→w'.cell? ⟨g,o,none⟩=w.cell? ⟨g,o,none⟩)
  (hle:∀b o,st b o→st' b o) (hst:∀b o,st' b o→st b o∨b=g) (he':e'.holds st' w') (hown:∀k,e'.owns k→e.owns k) (hone:∀k,e.owns k→k=g) (hug:Unf w' g):
  Conc E st' (e'::F) w'∧Keeps st st' w w':=by
 have kc:∀b o,st b o→w'.cell? ⟨b,o,none⟩=w.cell? ⟨b,o,none⟩:=by
  intro b o hs
  by_cases e:b=g
  ·subst e;exact hkeep o hs
  ·exact World.cell?_of_block (w:=w) (hblk b e)
 have k:Keeps st st' w w':=⟨hle,kc⟩
 have hgO:AHeap.owns (e::F) g:=⟨e,by simp,hg⟩
 have hsep:=List.pairwise_cons.1 h.sep
 refine⟨⟨hos.trans h.os,htape.trans h.tape,hout.trans h.output,by rw[hsz];exact h.size,?_,?_,fun b o hs=>hle b o (h.stle b o hs),?_,?_,?_,?_,?_,?_,?_⟩,k⟩
 ·intro b hb hO
  have hne:b≠g:=by
   rintro rfl
   rcases h.ownnew b hgO with x|x
   ·exact hO x
   ·omega
  exact(hblk b hne).trans (h.old b hb hO)
 ·exact fun b o hs=>(kc b o (h.stle b o hs)).trans (h.keep b o hs)
 ·intro b o hs
  rcases hst b o hs with x|rfl
  ·exact h.stnew b o x
  ·rcases h.ownnew b hgO with x|x
   ·exact .inr (.inr x)
   ·exact .inr (.inl x)
 ·intro b o hs
  rw[hsz]
  rcases hst b o hs with x|rfl
  ·exact h.stlt b o x
  ·exact h.ownlt b hgO
 ·rintro b ⟨e2,he2,hb⟩
  rcases List.mem_cons.1 he2 with rfl|he2
  ·exact h.ownnew b ⟨e,by simp,hown b hb⟩
  ·exact h.ownnew b ⟨e2,by simp[he2],hb⟩
 ·rintro b ⟨e2,he2,hb⟩
  rw[hsz]
  rcases List.mem_cons.1 he2 with rfl|he2
  ·exact h.ownlt b ⟨e,by simp,hown b hb⟩
  ·exact h.ownlt b ⟨e2,by simp[he2],hb⟩
 ·intro e2 he2
  rcases List.mem_cons.1 he2 with rfl|he2
  ·exact he'
  ·have hng:∀b,e2.owns b→b≠g:=by
    rintro b hb rfl
    exact hsep.1 e2 he2 b hg hb
   refine Ent.holds_keep k (h.ents e2 (by simp[he2])) (fun b hb=>hblk b (hng b hb)) ?_
   intro b o hb hs
   rcases hst b o hs with y|y
   ·exact y
   ·exact absurd y (hng b hb)
 ·refine List.pairwise_cons.2 ⟨fun e2 he2 b hb hb2=>hsep.1 e2 he2 b (hown b hb) hb2,hsep.2⟩
 ·intro b o hs hk
  by_cases e:b=g
  ·subst e;exact hug
  ·exact(h.fz b o ((hst b o hs).resolve_right e) hk).same (hblk b e)
theorem Conc.newBox {E:Env0} {st:Stab} {H:AHeap} {w:World} (h:Conc E st H w) {ty:TypeId} {v:AV} {cv:Value} (hr:Rep st w v cv) (hone:∀x∈cv.cells.toList,x.oneCell'=true):
  Conc E st (.box w.heap.size ty v::H) (w.alloc (.cells cv.cells ty))∧Keeps st st w (w.alloc (.cells cv.cells ty)):=by
 have kc:Keeps st st w (w.alloc (.cells cv.cells ty)):=⟨fun _ _ h=>h,fun b o hs=>World.cell?_alloc_lt w _ _ (h.stlt b o hs)⟩
 refine Conc.grow (Hn:=[.box w.heap.size ty v]) h rfl rfl rfl (by simp) (fun k hk=>heap_alloc_old w _ hk) (fun _ _ h=>h) (fun b o hs=>.inl hs) ?_ ?_ (by simp)
 ·intro e he
  simp at he
  subst he
  exact⟨cv.cells,cv,heap_alloc_new w _,hr.mono kc,rfl,hone,fun o hs=>absurd (h.stlt _ o hs) (by omega)⟩
 ·rintro k ⟨e,he,hk⟩
  simp at he
  subst he
  simp only[Ent.owns]at hk
  subst hk
  simp
section
variable {P:Program} {ty:TypeId→Option TyI} {o:Oper} {F:Operand→Option AV} {H:AHeap}
theorem upon_skip_ok {r:Option Nat} {a:Act} {w w':World} {next:Act→World→Prop} {Q:Exit→Act→World→Prop} (h:(execOp a.eval o).run P w=.ok .skip w') (k:next (a.put o.dst undef) w'):o.wpIn (fen r) 0 P a w next Q:=by
 refine⟨fun _ _=>trivial,?_⟩
 rw[Oper.semAt_eq _ _ _ (not_defer_of_skip h),h]
 exact k
theorem upon_value_ok {r:Option Nat} {a:Act} {w w':World} {c:Value} {next:Act→World→Prop} {Q:Exit→Act→World→Prop} (h:(execOp a.eval o).run P w=.ok (.value c) w') (k:next (a.put o.dst c) w'):o.wpIn (fen r) 0 P a w next Q:=by
 refine⟨fun _ _=>trivial,?_⟩
 rw[Oper.semAt_eq _ _ _ (not_defer_of_value h),h]
 exact k
theorem hard_alloc (hty:TyOk P ty) {elem:TypeId} {i:TyI} (ho:o.op=.alloc elem) (ht:ty elem=some i):
  AHard P o F H fun r H'=>∃b,r=.ret (.ptr b 0)∧H'=.box b elem i.zero::H:=by
 intro E st w a r next Q hc _ _ hr _
 obtain⟨⟨d,hd,hk⟩,inf,z,hinf,hsz,hby,hz,hzs,hzr,hzo⟩:=hty elem i ht
 have hnb:=hc.newBox (ty:=elem) (hzr st w) hzo
 refine upon_value_ok (c:=.pointer (some ⟨w.heap.size,0,none⟩)) (w':=w.alloc (.cells z.cells elem)) ?_ (hr st _ (.ptr w.heap.size 0) _ _ hnb.1 hnb.2 (.ptr _ _) ⟨_,rfl,rfl⟩)
 simp[execOp,ho,Instr.alloc,run_zeroValue hinf hz,newVar,newRow]
theorem hard_box {elem:TypeId} {x:Operand} {v:AV} {vs:List AV} (ho:o.op=.box elem x) (hx:F x=some v) (hv:cellsOf v=some vs) (h1:vs.all AV.one=true):
  AHard P o F H fun r H'=>∃b,r=.ret (.ptr b 0)∧H'=.box b elem v::H:=by
 intro E st w a r next Q hc hF _ hr _
 have hrep:=hF x v hx
 obtain⟨hl,hcr⟩:=cellsOf_rep hrep hv
 have hone:∀y∈(a.eval x).cells.toList,y.oneCell'=true:=by
  intro y hy
  obtain⟨j,hj,rfl⟩:=List.getElem_of_mem hy
  have hj':j<vs.length:=by omega
  exact(one_cells (List.all_eq_true.1 h1 vs[j] (List.getElem_mem hj')) (hcr j vs[j] _ (by simp[hj']) (by rw[List.getElem?_eq_getElem hj]))).2
 have hnb:=hc.newBox (ty:=elem) hrep hone
 refine upon_value_ok (c:=.pointer (some ⟨w.heap.size,0,none⟩)) (w':=w.alloc (.cells (a.eval x).cells elem)) ?_ (hr st _ (.ptr w.heap.size 0) _ _ hnb.1 hnb.2 (.ptr _ _) ⟨_,rfl,rfl⟩)
 simp[execOp,ho,Instr.box,newVar,newRow]
def boxSet (i:TyI) (u:AV) (off:Nat) (v:AV):Option (Prop×AV):=
 match u with
 |.agg cells=>match cellsOf v with
  |some vs=>cond (Nat.beq vs.length i.size&&Nat.ble (off+vs.length) cells.length&&vs.all AV.one) (some (True,.agg (setAt cells off vs))) none
  |none=>none
 |.vec n el=>match v with
  |.vec m el'=>cond (Nat.beq n m&&Nat.beq i.size n&&Nat.beq off 0) (some (True,.vec n el')) none
  |.agg vs=>cond (Nat.beq vs.length i.size&&vs.all AV.one) (some (off+vs.length≤n,.vec n (fun j=>if off≤j∧j<off+vs.length then vs.getD (j-off) .any else el j))) none
  |v=>cond (Nat.beq i.size 1&&v.one) (some (off<n,.vec n (fun j=>if j=off then v else el j))) none
 |.tuple _=>none
 |.opt _ _ _=>none
 |.any=>none
 |.conc _=>none
 |_=>cond (Nat.beq i.size 1&&v.one&&Nat.beq off 0) (some (True,v)) none
theorem setAt_toList {cs vs:List Value} {off:Nat} (h:off+vs.length≤cs.length):cs.take off++vs++cs.drop (off+vs.length)=setAt cs off vs:=by
 induction vs generalizing cs off with
 |nil=>simp[setAt]
 |cons v vs ih=>
  simp only[List.length_cons]at h
  rw[setAt,←ih (by simp;omega)]
  have h1:(cs.set off v).take (off+1)=cs.take off++[v]:=by
   rw[List.take_succ_eq_append_getElem (by simp;omega),List.take_set_of_le (Nat.le_refl _)]
   simp
  have h2:(cs.set off v).drop (off+1+vs.length)=cs.drop (off+(vs.length+1)):=by
   rw[List.drop_set_of_lt (by omega)]
   congr 1
   omega
  rw[h1,h2]
  simp
theorem setRow_keep {w:World} {g:Nat} {cs:Array Value}:(w.setRow g cs).heap.size=w.heap.size:=by simp[World.setRow]
theorem Conc.store {E:Env0} {st:Stab} {F:AHeap} {b:Nat} {ty0:TypeId} {u u':AV} {w:World} {arr arr':Array Value} {cv':Value} (h:Conc E st (.box b ty0 u::F) w)
  (hb:w.heap[b]?=some (.cells arr ty0 (0,0))) (hr:Rep st w u' cv') (hc:cv'.cells=arr') (hone:∀x∈arr'.toList,x.oneCell'=true):
  Conc E st (.box b ty0 u'::F) (w.setRow b arr')∧Keeps st st w (w.setRow b arr'):=by
 have hns:∀o,¬st b o:=by
  obtain⟨_,_,_,_,_,_,h6⟩:=h.ents (.box b ty0 u) (by simp)
  exact h6
 have kc:Keeps st st w (w.setRow b arr'):=⟨fun _ _ h=>h,fun b' o hs=>cell_setRow_other w b arr' ⟨b',o,none⟩ (by rintro rfl;exact hns o hs)⟩
 refine Conc.mod (g:=b) h rfl rfl rfl rfl setRow_keep (fun k hk=>setRow_other w b k arr' hk) (fun o hs=>absurd hs (hns o)) (fun _ _ h=>h) (fun _ _ h=>.inl h) ?_ (fun _ h=>h) (fun k hk=>hk.symm) ⟨_,_,setRow_heap w b arr arr' ty0 (0,0) hb⟩
 exact⟨arr',cv',setRow_heap w b arr arr' ty0 (0,0) hb,hr.mono kc,hc,hone,hns⟩
section
variable {P:Program} {ty:TypeId→Option TyI} {o:Oper} {F:Operand→Option AV} {H:AHeap}
theorem agg_one {st:Stab} {w:World} {cells:List AV} {cs:List Value} (h1:cells.all AV.one=true) (hl:cs.length=cells.length)
  (h:∀(j:Nat) (v:AV) (x:Value),cells[j]?=some v→cs[j]?=some x→Rep st w v x):∀x∈cs,x.oneCell'=true:=by
 intro y hy
 obtain⟨j,hj,rfl⟩:=List.getElem_of_mem hy
 have hj':j<cells.length:=by omega
 exact(one_cells (List.all_eq_true.1 h1 cells[j] (List.getElem_mem hj')) (h j cells[j] _ (by simp[hj']) (by rw[List.getElem?_eq_getElem hj]))).2
theorem mem_setAt {α:Type} {vs:List α}:∀{l:List α} {off:Nat} {x:α},x∈setAt l off vs→x∈l∨x∈vs:=by
 induction vs with
 |nil=>intro l off x h;exact .inl h
 |cons v vs ih=>
  intro l off x h
  rw[setAt]at h
  rcases ih h with h|h
  ·rcases List.mem_or_eq_of_mem_set h with h|rfl
   ·exact .inl h
   ·exact .inr (by simp)
  ·exact .inr (by simp[h])
theorem run_storeAt {t:TypeId} {inf:TypeInfo} {w:World} {b off:Nat} {ty0:TypeId} {arr:Array Value} {x:Value} (hinf:P.info? t=some inf) (hs:x.cells.size=inf.size)
  (hb:w.heap[b]?=some (.cells arr ty0 (0,0))) (hl:off+x.cells.toList.length≤arr.size) (h1:∀v∈x.cells.toList,v.oneCell'=true):
  (Instr.storeAt t (.pointer (some ⟨b,off,none⟩)) x).run P w=.ok () (w.setRow b (setAt arr.toList off x.cells.toList).toArray):=by
 have hst:=run_storeCells_at P b off ty0 x.cells.toList 0 arr w hb (by simpa using hl) h1
 simp only[Nat.add_zero]at hst
 rw[setAt_toList (by simpa using hl)]at hst
 unfold Instr.storeAt storeVar
 simp[Instr.sureAddr,run_sizeOf hinf,hs,hst]
theorem hard_store (hty:TyOk P ty) {t:TypeId} {x y:Operand} {ti:TyI} {b off:Nat} {ty0:TypeId} {u u' v:AV} {p:Prop} (i:Nat) (ho:o.op=.store t x y) (hx:F x=some (.ptr b off)) (hy:F y=some v)
  (ht:ty t=some ti) (hi:H[i]?=some (.box b ty0 u)) (hs:boxSet ti u off v=some (p,u')) (hp:p):
  AHard P o F H fun r H'=>r=.ret (.tuple [])∧H'=H.set i (.box b ty0 u'):=by
 intro E st w a r next Q hc hF _ hr _
 obtain⟨-,inf,z,hinf,hsz,-⟩:=hty t ti ht
 have hpx:=hF x _ hx
 have hpy:=hF y _ hy
 have hex:a.eval x=.pointer (some ⟨b,off,none⟩):=by
  generalize a.eval x=q at hpx
  cases hpx
  rfl
 have hc1:=hc.perm (perm_eraseIdx H i _ hi)
 obtain⟨arr,cv,hblk,hrep,hcells,hone,hns⟩:=hc1.ents (.box b ty0 u) (by simp)
 have fin:∀(cv':Value) (arr':Array Value),(Instr.storeAt t (.pointer (some ⟨b,off,none⟩)) (a.eval y)).run P w=.ok () (w.setRow b arr')→Rep st w u' cv'→cv'.cells=arr'→(∀x∈arr'.toList,x.oneCell'=true)→o.wpIn (fen r) 0 P a w next Q:=by
  intro cv' arr' hrun hr1 hr2 hr3
  have hst:=hc1.store hblk hr1 hr2 hr3
  refine upon_skip_ok (w':=w.setRow b arr') ?_ (hr st _ (.tuple []) undef _ (hst.1.perm (perm_set H i _ _ hi)) hst.2 (.tuple [] [] rfl (by simp)) ⟨rfl,rfl⟩)
  simp[execOp,ho,hex,hrun]
 have scal:u.one=true→(Nat.beq ti.size 1&&v.one&&Nat.beq off 0)=true→u'=v→o.wpIn (fen r) 0 P a w next Q:=by
  intro hu hb hv
  subst hv
  simp only[Bool.and_eq_true]at hb
  obtain⟨⟨hb1,hb2⟩,hb3⟩:=hb
  have hb1:=Nat.eq_of_beq_eq_true hb1
  obtain rfl:=Nat.eq_of_beq_eq_true hb3
  obtain⟨h1,h2⟩:=one_cells hb2 hpy
  obtain⟨h3,-⟩:=one_cells hu hrep
  rw[h3]at hcells
  subst hcells
  have hrun:=run_storeAt (P:=P) (w:=w) (off:=0) (x:=a.eval y) hinf (by rw[h1];simp;omega) hblk (by rw[h1];simp) (by rw[h1];simpa using h2)
  refine fin (a.eval y) _ hrun hpy ?_ ?_
  ·rw[h1];rfl
  ·rw[h1];simpa [setAt]using h2
 cases u with
 |agg cells=>
  cases hrep with
  |agg _ cs hl hcr=>
   obtain rfl:arr=⟨cs⟩:=hcells.symm
   unfold boxSet at hs
   simp only at hs
   cases hv:cellsOf v with
   |none=>simp[hv]at hs
   |some vs=>
    simp only[hv]at hs
    cases hb:(Nat.beq vs.length ti.size&&Nat.ble (off+vs.length) cells.length&&vs.all AV.one)with
    |false=>simp only[hb,cond_false,reduceCtorEq]at hs
    |true=>
     simp only[hb,cond_true,Option.some.injEq,Prod.mk.injEq]at hs
     obtain⟨-,rfl⟩:=hs
     simp only[Bool.and_eq_true]at hb
     obtain⟨⟨hb1,hb2⟩,hb3⟩:=hb
     have hb1:=Nat.eq_of_beq_eq_true hb1
     have hb2:=Nat.le_of_ble_eq_true hb2
     obtain⟨hyl,hyr⟩:=cellsOf_rep hpy hv
     have h1:=agg_one hb3 hyl hyr
     have hrun:=run_storeAt (P:=P) (w:=w) (off:=off) (x:=a.eval y) hinf (by rw[←Array.length_toList,hyl];omega) hblk (by rw[List.size_toArray];omega) h1
     refine fin (.agg ⟨setAt cs off (a.eval y).cells.toList⟩) _ hrun ?_ rfl ?_
     ·exact .agg _ _ (by rw[length_setAt,length_setAt,hl]) (setAt_rep vs _ cells cs off hyl hl hyr hcr)
     ·intro z hz
      rcases mem_setAt (by simpa using hz)with h|h
      ·exact hone z (by simpa using h)
      ·exact h1 z h
 |vec n el=>
  cases hrep with
  |vec _ _ cs hl hcr hvo=>
   obtain rfl:arr=⟨cs⟩:=hcells.symm
   have elem:(Nat.beq ti.size 1&&v.one)=true→(p,u')=(off<n,AV.vec n (fun j=>if j=off then v else el j))→o.wpIn (fen r) 0 P a w next Q:=by
    intro hb he
    simp only[Prod.mk.injEq]at he
    obtain⟨rfl,rfl⟩:=he
    simp only[Bool.and_eq_true]at hb
    have hb1:=Nat.eq_of_beq_eq_true hb.1
    obtain⟨h1,h2⟩:=one_cells hb.2 hpy
    have hrun:=run_storeAt (P:=P) (w:=w) (off:=off) (x:=a.eval y) hinf (by rw[h1];simp;omega) hblk (by rw[h1];simp;omega) (by rw[h1];simpa using h2)
    refine fin (.agg ⟨cs.set off (a.eval y)⟩) _ hrun ?_ (by rw[h1];rfl) ?_
    ·refine .vec n _ _ (by simp[hl]) (fun j x hx=>?_) (fun z hz=>?_)
     rotate_left
     ·rcases List.mem_or_eq_of_mem_set hz with h|rfl
      ·exact hvo z h
      ·exact h2
     rw[List.getElem?_set]at hx
     by_cases e:off=j
     ·subst e
      rw[if_pos rfl,if_pos (by omega)]at hx
      simp at hx
      subst hx
      simpa using hpy
     ·rw[if_neg e]at hx
      simp only[if_neg (fun h=>e h.symm:¬j=off)]
      exact hcr j x hx
    ·intro z hz
     rw[h1]at hz
     rcases mem_setAt (by simpa using hz)with h|h
     ·exact hone z (by simpa using h)
     ·simp at h;subst h;exact h2
   unfold boxSet at hs
   simp only at hs
   cases v with
   |vec m el'=>
    simp only at hs
    cases hb:(Nat.beq n m&&Nat.beq ti.size n&&Nat.beq off 0)with
    |false=>simp only[hb,cond_false,reduceCtorEq]at hs
    |true=>
     simp only[hb,cond_true,Option.some.injEq,Prod.mk.injEq]at hs
     obtain⟨-,rfl⟩:=hs
     simp only[Bool.and_eq_true]at hb
     obtain⟨⟨hb1,hb2⟩,hb3⟩:=hb
     obtain rfl:=Nat.eq_of_beq_eq_true hb1
     have hb2:=Nat.eq_of_beq_eq_true hb2
     obtain rfl:=Nat.eq_of_beq_eq_true hb3
     generalize hya:a.eval y=ya at hpy
     cases hpy with
     |vec _ _ cs' hl' hcr' hone'=>
      have hrun:=run_storeAt (P:=P) (w:=w) (off:=0) (x:=.agg ⟨cs'⟩) hinf (by simp[Value.cells];omega) hblk (by simp[Value.cells];omega) (by simpa [Value.cells]using hone')
      have e:setAt cs 0 cs'=cs':=by
       rw[←setAt_toList (by omega)]
       simp[hl,hl']
      refine fin (.agg ⟨cs'⟩) ⟨cs'⟩ ?_ (.vec n el' cs' hl' hcr' hone') rfl (by simpa using hone')
      rw[hya,hrun]
      simp[Value.cells,e]
   |tuple vs=>simp[AV.one]at hs
   |agg vs=>
    simp only at hs
    cases hb:(Nat.beq vs.length ti.size&&vs.all AV.one)with
    |false=>simp only[hb,cond_false,reduceCtorEq]at hs
    |true=>
     simp only[hb,cond_true,Option.some.injEq,Prod.mk.injEq]at hs
     obtain⟨rfl,rfl⟩:=hs
     have hle:off+vs.length≤n:=hp
     simp only[Bool.and_eq_true]at hb
     have hb1:=Nat.eq_of_beq_eq_true hb.1
     obtain⟨hyl,hyr⟩:=cellsOf_rep hpy (show cellsOf (.agg vs)=some vs from rfl)
     have h1:=agg_one hb.2 hyl hyr
     have hrun:=run_storeAt (P:=P) (w:=w) (off:=off) (x:=a.eval y) hinf (by rw[←Array.length_toList,hyl];omega) hblk (by rw[List.size_toArray];omega) h1
     refine fin (.agg ⟨setAt cs off (a.eval y).cells.toList⟩) _ hrun ?_ rfl ?_
     ·refine .vec n _ _ (by rw[length_setAt,hl]) (fun j x hx=>?_) (fun z hz=>?_)
      rotate_left
      ·rcases mem_setAt hz with h|h
       ·exact hvo z h
       ·exact h1 z h
      rw[←setAt_toList (by omega)]at hx
      have ltk:(cs.take off).length=off:=by rw[List.length_take];omega
      by_cases c1:j<off
      ·rw[List.getElem?_append_left (by rw[List.length_append,ltk];omega),List.getElem?_append_left (by rw[ltk];exact c1),List.getElem?_take_of_lt c1]at hx
       simp only[if_neg (fun h=>by omega:¬(off≤j∧j<off+vs.length))]
       exact hcr j x hx
      by_cases c2:j<off+vs.length
      ·rw[List.getElem?_append_left (by rw[List.length_append,ltk];omega),List.getElem?_append_right (by rw[ltk];omega),ltk]at hx
       simp only[if_pos (⟨by omega,c2⟩:off≤j∧j<off+vs.length)]
       refine hyr (j-off) _ x ?_ hx
       rw[List.getD_eq_getElem?_getD,List.getElem?_eq_getElem (by omega)]
       rfl
      ·rw[List.getElem?_append_right (by rw[List.length_append,ltk];omega),List.length_append,ltk,List.getElem?_drop]at hx
       simp only[if_neg (fun h=>by omega:¬(off≤j∧j<off+vs.length))]
       refine hcr j x ?_
       rw[←hx]
       congr 1
       omega
     ·intro z hz
      rcases mem_setAt (by simpa using hz)with h|h
      ·exact hone z (by simpa using h)
      ·exact h1 z h
   |opt x b v=>simp[AV.one]at hs
   |any=>simp[AV.one]at hs
   |conc v=>
    cases v with
    |slice=>
     simp only at hs
     cases hb:Nat.beq ti.size 1 with
     |false=>simp[hb]at hs
     |true=>
      simp only[hb,AV.one,Bool.and_self,cond_true,Option.some.injEq]at hs
      exact elem (by rw[hb];rfl) hs.symm
    |_=>simp[AV.one]at hs
   |_=>
    simp only at hs
    cases hb:Nat.beq ti.size 1 with
    |false=>simp[hb]at hs
    |true=>
     simp only[hb,AV.one,Bool.and_self,cond_true,Option.some.injEq]at hs
     exact elem (by rw[hb];rfl) hs.symm
 |tuple vs=>simp[boxSet]at hs
 |opt x b v=>simp[boxSet]at hs
 |any=>simp[boxSet]at hs
 |conc v=>simp[boxSet]at hs
 |_=>
  unfold boxSet at hs
  simp only at hs
  cases hb:(Nat.beq ti.size 1&&v.one&&Nat.beq off 0)with
  |false=>simp only[hb,cond_false,reduceCtorEq]at hs
  |true=>
   simp only[hb,cond_true,Option.some.injEq,Prod.mk.injEq]at hs
   exact scal rfl hb hs.2.symm
end
end
end Go.Ab
namespace Go.Ab
def sl {α:Type} [Inhabited α] (f:α→List AV) (sz:Nat) (xs:List α) (o:Own):AV:=.slice sz xs.length (fun i=>f (xs.getD i default)) o
theorem Sub.el {sz n:Nat} {el el':Nat→List AV} {o:Own} (h:∀i,i<n→el' i=el i):Sub (.slice sz n el o) (.slice sz n el' o):=by
 intro st w c hr
 cases hr with
 |slice _ _ _ _ a cap b off c hn hbase hlen hcell hrep hown hone=>
  exact .slice sz n el' o a cap b off c hn hbase (fun i hi=>by rw[h i hi];exact hlen i hi) hcell (fun i j v hi hv=>hrep i j v hi (by rw[←h i hi];exact hv)) hown hone
structure RowOf (st:Stab) (w:World) (sz n:Nat) (el:Nat→List AV) (a:Option Addr) (b off:Nat) (C:Nat→Value):Prop where
 base:n=0∨a=some ⟨b,off,none⟩
 len:∀i,i<n→(el i).length=sz
 cell:∀k,k<n*sz→st b (off+k)∧w.cell? ⟨b,off+k,none⟩=some (C k)
 rep:∀i j v,i<n→(el i)[j]?=some v→Rep st w v (C (i*sz+j))
 one:∀k,k<n*sz→(C k).oneCell'=true
theorem row_of {st:Stab} {w:World} {sz n:Nat} {el:Nat→List AV} {o:Own} {x:Value} (h:Rep st w (.slice sz n el o) x) (hsz:0<sz):
  ∃a cap b off C,x=.slice a n cap∧n≤cap∧o.ok a n cap∧RowOf st w sz n el a b off C:=by
 cases h with
 |slice _ _ _ _ a cap b off c hn hbase hlen hcell hrep hown hone=>
  have hdm:∀k,k<n*sz→k/sz<n∧k%sz<sz:=fun k hk=>⟨Nat.div_lt_of_lt_mul (by rw[Nat.mul_comm];exact hk),Nat.mod_lt _ hsz⟩
  refine⟨a,cap,b,off,fun k=>c (k/sz) (k%sz),rfl,hn,hown,hbase,hlen,fun k hk=>?_,fun i j v hi hv=>?_,fun k hk=>hone _ _ (hdm k hk).1 (hdm k hk).2⟩
  ·have:=hcell (k/sz) (k%sz) (hdm k hk).1 (hdm k hk).2
   rwa [Nat.mul_comm,Nat.div_add_mod]at this
  ·have hj:j<sz:=by
    have:=(List.getElem?_eq_some_iff.1 hv).1
    rw[hlen i hi]at this
    exact this
   have e1:(i*sz+j)/sz=i:=by
    rw[Nat.mul_comm,Nat.mul_add_div hsz,Nat.div_eq_of_lt hj,Nat.add_zero]
   have e2:(i*sz+j)%sz=j:=by
    rw[Nat.mul_comm,Nat.mul_add_mod,Nat.mod_eq_of_lt hj]
   rw[e1,e2]
   exact hrep i j v hi hv
theorem rep_of_row {st:Stab} {w:World} {sz n:Nat} {el:Nat→List AV} {o:Own} {a:Option Addr} {cap b off:Nat} {C:Nat→Value} (hn:n≤cap) (ho:o.ok a n cap)
  (h:RowOf st w sz n el a b off C):Rep st w (.slice sz n el o) (.slice a n cap):=by
 have hb:∀i j,i<n→j<sz→i*sz+j<n*sz:=fun i j hi hj=>by
  have:(i+1)*sz≤n*sz:=Nat.mul_le_mul_right _ hi
  rw[Nat.add_mul]at this
  omega
 exact .slice sz n el o a cap b off (fun i j=>C (i*sz+j)) hn h.base h.len (fun i j hi hj=>h.cell _ (hb i j hi hj)) h.rep ho (fun i j hi hj=>h.one _ (hb i j hi hj))
theorem map_range_get {C:Nat→Value} {n:Nat}:∀(j:Nat) (u:Value),((List.range n).map C)[j]?=some u→j<n∧u=C j:=by
 intro j u h
 rw[List.getElem?_map]at h
 by_cases hj:j<n
 ·simp[hj]at h;exact⟨hj,h.symm⟩
 ·simp[List.getElem?_eq_none (l:=List.range n) (by simpa using hj)]at h
def glue (n:Nat) (el el2:Nat→List AV) (i:Nat):List AV:=if i<n then el i else el2 (i-n)
theorem RowOf.glue {st st':Stab} {w w':World} {sz n m:Nat} {el el2:Nat→List AV} {a a2 a':Option Addr} {b off b2 off2 b' off':Nat} {C C2 D:Nat→Value}
  (h1:RowOf st w sz n el a b off C) (h2:RowOf st w sz m el2 a2 b2 off2 C2) (k:Keeps st st' w w') (ha:n+m=0∨a'=some ⟨b',off',none⟩)
  (hD1:∀j,j<n*sz→D j=C j) (hD2:∀j,j<m*sz→D (n*sz+j)=C2 j) (hst:∀j,j<(n+m)*sz→st' b' (off'+j)∧w'.cell? ⟨b',off'+j,none⟩=some (D j)):
  RowOf st' w' sz (n+m) (Go.Ab.glue n el el2) a' b' off' D:=by
 have hjlt:∀(i j n:Nat),i<n→j<sz→i*sz+j<n*sz:=fun i j n hi hj=>by
  have:(i+1)*sz≤n*sz:=Nat.mul_le_mul_right _ hi
  rw[Nat.add_mul]at this
  omega
 refine⟨ha,fun i hi=>?_,hst,fun i j v hi hv=>?_,fun j hj=>?_⟩
 ·unfold Go.Ab.glue
  split
  ·rename_i h;exact h1.len i h
  ·exact h2.len _ (by omega)
 ·unfold Go.Ab.glue at hv
  split at hv
  ·rename_i h
   have hjs:j<sz:=by
    have:=(List.getElem?_eq_some_iff.1 hv).1
    rw[h1.len i h]at this
    exact this
   rw[hD1 _ (hjlt i j n h hjs)]
   exact(h1.rep i j v h hv).mono k
  ·rename_i h
   have him:i-n<m:=by omega
   have hjs:j<sz:=by
    have:=(List.getElem?_eq_some_iff.1 hv).1
    rw[h2.len _ him]at this
    exact this
   have e:i*sz+j=n*sz+((i-n)*sz+j):=by
    rw[←Nat.add_assoc,←Nat.add_mul]
    congr 2
    omega
   rw[e,hD2 _ (hjlt (i-n) j m him hjs)]
   exact(h2.rep (i-n) j v him hv).mono k
 ·by_cases h:j<n*sz
  ·rw[hD1 j h];exact h1.one j h
  ·have e:j=n*sz+(j-n*sz):=by omega
   rw[Nat.add_mul]at hj
   rw[e,hD2 _ (by omega)]
   exact h2.one _ (by omega)
theorem row_base {st:Stab} {w:World} {sz n:Nat} {el:Nat→List AV} {a:Option Addr} {b off:Nat} {C:Nat→Value} (h:RowOf st w sz n el a b off C) (hn:n≠0):a=some ⟨b,off,none⟩:=h.base.resolve_left hn
section
variable {P:Program} {ty:TypeId→Option TyI} {o:Oper} {F:Operand→Option AV} {H:AHeap}
theorem run_append_zero {w:World} {t tt e:TypeId} {inf:TypeInfo} (hd:P.underlying t=some (.slice e)) (hinf:P.info? e=some inf) {a a2:Option Addr} {n cap cap2:Nat} (hn:n≤cap):
  (Builtin.append_ #[t,t] tt #[.slice a n cap,.slice a2 0 cap2]).run P w=.ok (.slice a n cap) w:=by
 cases a<;>cases a2<;>simp[Builtin.append_,run_underlying hd,sizeOf,typeInfo,hinf,Builtin.lenOf,hn,Builtin.firstCells,loadCells,loadCellsFrom,storeCells]
theorem append_grow {E:Env0} {st:Stab} {w:World} {t tt e:TypeId} {inf:TypeInfo} {z:Value} {sz n m cap cap2:Nat} {el el2:Nat→List AV} {a a2:Option Addr} {b off b2 off2:Nat} {C C2:Nat→Value}
  (hc:Conc E st H w) (hd:P.underlying t=some (.slice e)) (hinf:P.info? e=some inf) (hz:inf.zero=some z) (hsz:inf.size=sz) (hzs:z.cells.size=sz) (_hpos:0<sz)
  (h1:RowOf st w sz n el a b off C) (h2:RowOf st w sz m el2 a2 b2 off2 C2) (hnil:a=none→cap=0) (hg:cap<n+m) (hcap:n≤cap) (hmax:n+m≤maxLen) (hb:(n+m)*inf.bytes≤140737488355328):
  ∃w' st' cap' D,(Builtin.append_ #[t,t] tt #[.slice a n cap,.slice a2 m cap2]).run P w=.ok (.slice (some ⟨w.heap.size,0,none⟩) (n+m) cap') w'∧
   Conc E st' (.tok (some ⟨w.heap.size,0,none⟩) cap' (n+m) sz e::H) w'∧Keeps st st' w w'∧n+m≤cap'∧
   RowOf st' w' sz (n+m) (glue n el el2) (some ⟨w.heap.size,0,none⟩) w.heap.size 0 D:=by
 have hm0:m≠0:=by omega
 obtain rfl:=row_base h2 hm0
 let olds:=(List.range (n*sz)).map C
 let news:=(List.range (m*sz)).map C2
 have hol:olds.length=n*inf.size:=by simp[olds,hsz]
 have hnl:news.length=m*inf.size:=by simp[news,hsz]
 have hnews:∀j v,news[j]?=some v→w.cell? ((⟨b2,off2,none⟩:Addr).add j)=some v:=by
  intro j v hv
  obtain⟨hj,rfl⟩:=map_range_get j v hv
  rw[addr_add]
  exact(h2.cell j hj).2
 obtain⟨cap',hcap',hcm,hrun⟩:∃cap',n+m≤cap'∧cap'≤maxLen∧(Builtin.append_ #[t,t] tt #[.slice a n cap,.slice (some ⟨b2,off2,none⟩) m cap2]).run P w=
   .ok (.slice (some ⟨w.heap.size,0,none⟩) (n+m) cap') (w.drew.alloc (.cells (olds.toArray++news.toArray++Builtin.zeroCells z.cells (cap'-(n+m))) e)):=by
  have h63:((n+m:Nat):Int)≤9223372036854775807:=by simp only[maxLen]at hmax;omega
  cases ha:a with
  |none=>
   have hn0:n=0:=by have:=hnil ha;omega
   have hc0:=hnil ha
   subst hn0
   subst hc0
   have ho0:olds=[]:=by simp[olds]
   refine⟨grownCap w m 0 e,by simpa using grownCap_ge w m 0 e,grownCap_le_maxLen w m 0 e (by simpa using hmax),?_⟩
   have hr:=run_append_nil (P:=P) w t tt e inf z hd hinf hz ⟨b2,off2,none⟩ m cap2 news hnl hnews (by omega) (by simpa using h63) (by simp only[Nat.zero_add]at hb;omega)
   simpa [ho0]using hr
  |some ad=>
   have holds:∃ad',(n=0∨ad'=ad)∧ad'=ad∧∀j v,olds[j]?=some v→w.cell? (ad'.add j)=some v:=by
    refine⟨ad,.inr rfl,rfl,fun j v hv=>?_⟩
    obtain⟨hj,rfl⟩:=map_range_get j v hv
    have hn0:n≠0:=by rintro rfl;simp at hj
    have:=row_base h1 hn0
    rw[ha]at this
    simp at this
    subst this
    rw[addr_add]
    exact(h1.cell j hj).2
   obtain⟨_,_,rfl,holds⟩:=holds
   refine⟨grownCap w (n+m) cap e,grownCap_ge w (n+m) cap e,grownCap_le_maxLen w (n+m) cap e hmax,?_⟩
   exact run_append_grow (P:=P) w t tt e inf z hd hinf hz _ n cap olds hol holds ⟨b2,off2,none⟩ m cap2 news hnl hnews hg h63 (growslice_fits hg hb)
 let D:Nat→Value:=fun j=>if j<n*sz then C j else C2 (j-n*sz)
 let arr:=olds.toArray++news.toArray++Builtin.zeroCells z.cells (cap'-(n+m))
 have harr:∀j,j<(n+m)*sz→arr[j]?=some (D j):=by
  intro j hj
  rw[Nat.add_mul]at hj
  have e1:arr[j]?=(olds++news)[j]?:=by
   simp only[arr]
   rw[Array.getElem?_append_left (by simp[olds,news];omega)]
   simp
  rw[e1]
  simp only[D]
  split
  ·rename_i h
   rw[List.getElem?_append_left (by simpa [olds]using h)]
   simp[olds,h]
  ·rename_i h
   have hl:olds.length=n*sz:=by simp[olds]
   rw[List.getElem?_append_right (by omega),hl]
   have:j-n*sz<m*sz:=by omega
   simp[news,this]
 have hasz:arr.size=cap'*sz:=by
  simp only[arr,Array.size_append,List.size_toArray,size_zeroCells,hzs,hol,hnl,hsz,←Nat.add_mul]
  congr 1
  omega
 let st':Stab:=fun b o=>st b o∨(b=w.heap.size∧o<(n+m)*sz)
 have hw:(w.drew.alloc (.cells arr e)).heap[w.heap.size]?=some (.cells arr e):=heap_alloc_new w.drew _
 have hgrow:=Conc.grow (st':=st') (w':=w.drew.alloc (.cells arr e)) (Hn:=[.tok (some ⟨w.heap.size,0,none⟩) cap' (n+m) sz e]) hc rfl rfl rfl (by simp) (fun k hk=>heap_alloc_old w.drew _ hk)
  (fun b o h=>.inl h) (fun b o h=>by
    rcases h with h|⟨rfl,h⟩
    ·exact .inl h
    ·exact .inr ⟨Nat.le_refl _,by simp⟩) ?_ ?_ (by simp) (fun b o h=>by
    rcases h with h|⟨rfl,_⟩
    ·exact .inl h
    ·exact .inr ⟨_,_,hw⟩)
 ·refine⟨_,st',cap',D,hrun,hgrow.1,hgrow.2,hcap',?_⟩
  refine RowOf.glue h1 h2 hgrow.2 (.inr rfl) (fun j hj=>if_pos hj) (fun j hj=>(if_neg (by omega)).trans (by rw[Nat.add_sub_cancel_left])) (fun j hj=>⟨.inr ⟨rfl,by simpa using hj⟩,?_⟩)
  rw[Nat.zero_add]
  have:=cell_of_row _ w.heap.size j arr e (0,0) hw
  rw[this]
  exact harr j hj
 ·intro e1 he1
  simp at he1
  subst he1
  by_cases h:cap'=n+m
  ·exact .inl h
  ·refine .inr ⟨by omega,w.heap.size,arr,rfl,hw,hcm,hasz,fun o ho hs=>?_⟩
   rcases hs with hs|⟨_,hs⟩
   ·exact absurd (hc.stlt _ _ hs) (by omega)
   ·omega
 ·rintro k ⟨e1,he1,hk⟩
  simp at he1
  subst he1
  obtain⟨_,ad,had,rfl⟩:=hk
  simp at had
  subst had
  simp
theorem append_room {E:Env0} {st:Stab} {w:World} {t tt e:TypeId} {inf:TypeInfo} {sz n m cap cap2:Nat} {el el2:Nat→List AV} {a a2:Option Addr} {b off b2 off2:Nat} {C C2:Nat→Value} {G:AHeap}
  (hc:Conc E st (.tok a cap n sz e::G) w) (hd:P.underlying t=some (.slice e)) (hinf:P.info? e=some inf) (hsz:inf.size=sz)
  (h1:RowOf st w sz n el a b off C) (h2:RowOf st w sz m el2 a2 b2 off2 C2) (hm:m≠0) (hroom:n+m≤cap):
  ∃w' st' D b' off',(Builtin.append_ #[t,t] tt #[.slice a n cap,.slice a2 m cap2]).run P w=.ok (.slice a (n+m) cap) w'∧
   Conc E st' (.tok a cap (n+m) sz e::G) w'∧Keeps st st' w w'∧RowOf st' w' sz (n+m) (glue n el el2) a b' off' D:=by
 obtain rfl:=row_base h2 hm
 have hown:Ent.holds st w (.tok a cap n sz e):=hc.ents _ (by simp)
 rcases hown with h|⟨hlt,g,cur,rfl,hg,hcm,hcs,hns⟩
 ·omega
 let news:=(List.range (m*sz)).map C2
 have hnl:news.length=m*inf.size:=by simp[news,hsz]
 have hnews:∀j v,news[j]?=some v→w.cell? ((⟨b2,off2,none⟩:Addr).add j)=some v:=by
  intro j v hv
  obtain⟨hj,rfl⟩:=map_range_get j v hv
  rw[addr_add]
  exact(h2.cell j hj).2
 have hone:∀u∈news,u.oneCell'=true:=by
  intro u hu
  obtain⟨j,hj,rfl⟩:=List.mem_map.1 hu
  exact h2.one j (by simpa using hj)
 have hle:(n+m)*sz≤cap*sz:=Nat.mul_le_mul_right _ hroom
 have hfit:n*inf.size+news.length≤cur.size:=by rw[hnl,hcs,hsz,←Nat.add_mul];exact hle
 have hrun:=run_append_room (P:=P) w t tt e inf hd hinf g n cap cur hg ⟨b2,off2,none⟩ m cap2 news hnl hnews hone hroom hfit
 let arr:=(cur.toList.take (n*inf.size)++news++cur.toList.drop (n*inf.size+news.length)).toArray
 have hcurC:∀j,j<n*sz→cur[j]?=some (C j):=by
  intro j hj
  have hn0:n≠0:=by rintro rfl;simp at hj
  have hb:=row_base h1 hn0
  simp at hb
  obtain⟨rfl,rfl⟩:=hb
  have:=(h1.cell j hj).2
  rw[Nat.zero_add,cell_of_row w g j cur e (0,0) hg]at this
  exact this
 let D:Nat→Value:=fun j=>if j<n*sz then C j else C2 (j-n*sz)
 have hcl:n*sz≤cur.size:=by rw[hcs];rw[Nat.add_mul]at hle;omega
 have harr:∀j,j<(n+m)*sz→arr[j]?=some (D j):=by
  intro j hj
  rw[Nat.add_mul]at hj
  simp only[arr,D,hsz]
  rw[List.getElem?_toArray,List.getElem?_append_left (by simp[news];omega)]
  split
  ·rename_i h
   rw[List.getElem?_append_left (by simp;omega),List.getElem?_take,if_pos h]
   simpa using hcurC j h
  ·rename_i h
   rw[List.getElem?_append_right (by simp;omega)]
   have e1:(cur.toList.take (n*sz)).length=n*sz:=by simp;omega
   rw[e1]
   have:j-n*sz<m*sz:=by omega
   simp[news,this]
 have hsize:arr.size=cap*sz:=by
  simp only[arr,List.size_toArray,List.length_append,List.length_take,List.length_drop,Array.length_toList]
  omega
 have hkeepC:∀o,o<n*sz→arr[o]?=cur[o]?:=by
  intro o ho
  rw[harr o (by rw[Nat.add_mul];omega),hcurC o ho]
  simp[D,ho]
 let st':Stab:=fun b o=>st b o∨(b=g∧n*sz≤o∧o<(n+m)*sz)
 have hw:(w.setRow g arr).heap[g]?=some (.cells arr e (0,0)):=setRow_heap w g cur arr e (0,0) hg
 have hmod:=Conc.mod (st':=st') (e':=.tok (some ⟨g,0,none⟩) cap (n+m) sz e) (g:=g) (w':=w.setRow g arr) hc ⟨hlt,_,rfl,rfl⟩ rfl rfl rfl setRow_keep (fun k hk=>setRow_other w g k arr hk)
  (fun o hs=>by
    have ho:o<n*sz:=by
     rcases Nat.lt_or_ge o (n*sz)with h|h
     ·exact h
     ·exact absurd hs (hns o h)
    rw[cell_of_row _ g o arr e (0,0) hw,cell_of_row _ g o cur e (0,0) hg]
    exact hkeepC o ho)
  (fun b o h=>.inl h) (fun b o h=>by
    rcases h with h|⟨h,_⟩
    ·exact .inl h
    ·exact .inr h) ?_ (fun k ⟨hk,ad,had,hb⟩=>⟨hlt,ad,had,hb⟩) (fun k ⟨_,ad,had,hb⟩=>by simp at had;subst had;exact hb.symm) ⟨_,_,hw⟩
 ·refine⟨_,st',D,g,0,hrun,hmod.1,hmod.2,?_⟩
  refine RowOf.glue h1 h2 hmod.2 (.inr rfl) (fun j hj=>if_pos hj) (fun j hj=>(if_neg (by omega)).trans (by rw[Nat.add_sub_cancel_left])) (fun j hj=>⟨?_,?_⟩)
  ·rw[Nat.zero_add]
   by_cases h:j<n*sz
   ·refine .inl ?_
    have hn0:n≠0:=by rintro rfl;simp at h
    have hb:=row_base h1 hn0
    simp at hb
    obtain⟨rfl,rfl⟩:=hb
    simpa using (h1.cell j h).1
   ·exact .inr ⟨rfl,by omega,hj⟩
  ·rw[Nat.zero_add,cell_of_row _ g j arr e (0,0) hw]
   exact harr j hj
 ·by_cases h:cap=n+m
  ·exact .inl h
  ·refine .inr ⟨by omega,g,arr,rfl,hw,hcm,hsize,fun o ho hs=>?_⟩
   rcases hs with hs|⟨_,_,hs⟩
   ·exact hns o (by have:n*sz≤(n+m)*sz:=Nat.mul_le_mul_right _ (by omega);omega) hs
   ·omega
def asSl (sz:Nat):AV→Option (Nat×(Nat→List AV)×Own)
 |.nils=>some (0,fun _=>[],.full)
 |.slice sz' n el o=>cond (Nat.beq sz sz') (some (n,el,o)) none
 |_=>none
theorem asSl_rep {st:Stab} {w:World} {sz n:Nat} {v:AV} {el:Nat→List AV} {o:Own} {x:Value} (h:asSl sz v=some (n,el,o)) (hr:Rep st w v x):Rep st w (.slice sz n el o) x:=by
 unfold asSl at h
 split at h
 ·simp at h
  obtain⟨rfl,rfl,rfl⟩:=h
  exact Sub.nils sz _ _ _ _ hr
 ·rename_i sz' n' el' o'
  cases hb:Nat.beq sz sz' with
  |false=>simp[hb]at h
  |true=>
   obtain rfl:=Nat.eq_of_beq_eq_true hb
   simp at h
   obtain⟨rfl,rfl,rfl⟩:=h
   exact hr
 ·cases h
theorem full_nil {st:Stab} {w:World} {sz n cap:Nat} {el:Nat→List AV} {a:Option Addr} {b off:Nat} {C:Nat→Value} (h:RowOf st w sz n el a b off C) (hf:cap=n):a=none→cap=0:=by
 rintro rfl
 rcases h.base with h|h
 ·omega
 ·cases h
theorem hard_append_full (hty:TyOk P ty) {s x:Operand} {t e:TypeId} {ti ei:TyI} {vs vx:AV} {sz n m:Nat} {el el2:Nat→List AV} {ow:Own} {V:Option Addr→Nat→AV}
  (ho:o.op=.call {callee:=.builtin .append,args:= #[s,x],argTypes:= #[t,t]}) (hti:ty t=some ti) (hk:ti.k=.slice e) (hei:ty e=some ei) (hsz:ei.size=sz) (hpos:Nat.ble 1 sz=true)
  (hs:F s=some vs) (hx:F x=some vx) (hvs:asSl sz vs=some (n,el,.full)) (hvx:asSl sz vx=some (m,el2,ow)) (hb:(n+m)*ei.bytes≤140737488355328∧n+m≤9223372036854775807)
  (hV:∀a cap,Sub (.slice sz (n+m) (glue n el el2) (.own a cap)) (V a cap)):
  AHard P o F H fun r H'=>∃a cap,r=.ret (V a cap)∧H'=.tok a cap (n+m) sz e::H:=by
 intro E st w act r next Q hc hF _ hr _
 obtain⟨⟨d,hd,hkf⟩,-⟩:=hty t ti hti
 rw[hk]at hkf
 obtain rfl:d=.slice e:=hkf
 obtain⟨-,inf,z,hinf,hisz,hby,hz,hzs,hzr,-⟩:=hty e ei hei
 have hp:0<sz:=Nat.le_of_ble_eq_true hpos
 obtain⟨a,cap,b,off,C,hsv,hn,hok,h1⟩:=row_of (asSl_rep hvs (hF s vs hs)) hp
 obtain⟨a2,cap2,b2,off2,C2,hxv,hn2,-,h2⟩:=row_of (asSl_rep hvx (hF x vx hx)) hp
 have hcapn:cap=n:=hok
 have hexec:∀v' w',(Builtin.append_ #[t,t] o.type #[.slice a n cap,.slice a2 m cap2]).run P w=.ok v' w'→(execOp act.eval o).run P w=.ok (.value v') w':=by
  intro v' w' h
  simp[execOp,ho,resolve,invoke,builtin,hsv,hxv,h]
 by_cases hm:m=0
 ·subst hm
  have hrun:=run_append_zero (P:=P) (w:=w) (tt:=o.type) (a:=a) (a2:=a2) (n:=n) (cap:=cap) (cap2:=cap2) hd hinf hn
  have hg:=Conc.grow (st':=st) (w':=w) (Hn:=[.tok a cap (n+0) sz e]) hc rfl rfl rfl (Nat.le_refl _) (fun _ _=>rfl) (fun _ _ h=>h) (fun _ _ h=>.inl h)
   (fun e1 he1=>by simp at he1;subst he1;exact .inl (by omega)) (fun k ⟨e1,he1,hk⟩=>by simp at he1;subst he1;exact absurd hk.1 (by omega)) (by simp)
  refine upon_value_ok (hexec _ _ hrun) (hr st w (V a cap) _ _ hg.1 hg.2 ?_ ⟨a,cap,rfl,rfl⟩)
  refine hV a cap _ _ _ (rep_of_row (b:=b) (off:=off) (C:=C) hn ⟨rfl,rfl⟩ ?_)
  exact⟨h1.base,fun i hi=>by rw[glue,if_pos (show i<n from hi)];exact h1.len i hi,h1.cell,fun i j v hi hv=>h1.rep i j v hi (by rw[glue,if_pos (show i<n from hi)]at hv;exact hv),h1.one⟩
 ·obtain⟨w',st',cap',D,hrun,hc',hkp,hcap',hrow⟩:=append_grow (P:=P) (tt:=o.type) (cap2:=cap2) hc hd hinf hz (by omega) (by omega) hp h1 h2 (full_nil h1 hcapn) (by omega) hn (by simp only[maxLen];omega) (by rw[hby];exact hb.1)
  exact upon_value_ok (hexec _ _ hrun) (hr st' w' (V _ cap') _ _ hc' hkp (hV _ cap' _ _ _ (rep_of_row hcap' ⟨rfl,rfl⟩ hrow)) ⟨_,cap',rfl,rfl⟩)
theorem hard_append_own (hty:TyOk P ty) {s x:Operand} {t e:TypeId} {ti ei:TyI} {vs vx:AV} {sz n m:Nat} {el el2:Nat→List AV} {ow:Own} {V:Option Addr→Nat→AV} {a:Option Addr} {cap:Nat} (i:Nat)
  (ho:o.op=.call {callee:=.builtin .append,args:= #[s,x],argTypes:= #[t,t]}) (hti:ty t=some ti) (hk:ti.k=.slice e) (hei:ty e=some ei) (hsz:ei.size=sz) (hpos:Nat.ble 1 sz=true)
  (hs:F s=some vs) (hx:F x=some vx) (hvs:asSl sz vs=some (n,el,.own a cap)) (hvx:asSl sz vx=some (m,el2,ow)) (hi:H[i]?=some (.tok a cap n sz e))
  (hb:(n+m)*ei.bytes≤140737488355328∧n+m≤9223372036854775807) (hV:∀a cap,Sub (.slice sz (n+m) (glue n el el2) (.own a cap)) (V a cap)):
  AHard P o F H fun r H'=>∃a cap,r=.ret (V a cap)∧H'=H.set i (.tok a cap (n+m) sz e):=by
 intro E st w act r next Q hc hF _ hr _
 obtain⟨⟨d,hd,hkf⟩,-⟩:=hty t ti hti
 rw[hk]at hkf
 obtain rfl:d=.slice e:=hkf
 obtain⟨-,inf,z,hinf,hisz,hby,hz,hzs,hzr,-⟩:=hty e ei hei
 have hp:0<sz:=Nat.le_of_ble_eq_true hpos
 obtain⟨a',cap',b,off,C,hsv,hn,hok,h1⟩:=row_of (asSl_rep hvs (hF s vs hs)) hp
 obtain⟨rfl,rfl⟩:a'=a∧cap'=cap:=hok
 obtain⟨a2,cap2,b2,off2,C2,hxv,hn2,-,h2⟩:=row_of (asSl_rep hvx (hF x vx hx)) hp
 have hexec:∀v' w',(Builtin.append_ #[t,t] o.type #[.slice a' n cap',.slice a2 m cap2]).run P w=.ok v' w'→(execOp act.eval o).run P w=.ok (.value v') w':=by
  intro v' w' h
  simp[execOp,ho,resolve,invoke,builtin,hsv,hxv,h]
 have hc1:=hc.perm (perm_eraseIdx H i _ hi)
 by_cases hm:m=0
 ·subst hm
  have hrun:=run_append_zero (P:=P) (w:=w) (tt:=o.type) (a:=a') (a2:=a2) (n:=n) (cap:=cap') (cap2:=cap2) hd hinf hn
  refine upon_value_ok (hexec _ _ hrun) (hr st w (V a' cap') _ _ (hc1.perm (perm_set H i _ _ hi)) (Keeps.refl st w) ?_ ⟨a',cap',rfl,rfl⟩)
  refine hV a' cap' _ _ _ (rep_of_row (b:=b) (off:=off) (C:=C) hn ⟨rfl,rfl⟩ ?_)
  exact⟨h1.base,fun i hi=>by rw[glue,if_pos (show i<n from hi)];exact h1.len i hi,h1.cell,fun i j v hi hv=>h1.rep i j v hi (by rw[glue,if_pos (show i<n from hi)]at hv;exact hv),h1.one⟩
 ·by_cases hroom:n+m≤cap'
  ·obtain⟨w',st',D,b',off',hrun,hc',hkp,hrow⟩:=append_room (P:=P) (tt:=o.type) (cap2:=cap2) hc1 hd hinf (by omega) h1 h2 hm hroom
   exact upon_value_ok (hexec _ _ hrun) (hr st' w' (V _ cap') _ _ (hc'.perm (perm_set H i _ _ hi)) hkp (hV _ cap' _ _ _ (rep_of_row hroom ⟨rfl,rfl⟩ hrow)) ⟨_,cap',rfl,rfl⟩)
  ·have hnil:a'=none→cap'=0:=by
    rintro rfl
    rcases hc1.ents _ (List.mem_cons_self ..)with h|⟨_,g,cur,h,_⟩
    ·rcases h1.base with h'|h'
     ·omega
     ·cases h'
    ·cases h
   have hc2:Conc E st (H.eraseIdx i) w:=Conc.drop_front (F:=[_]) hc1
   obtain⟨w',st',cap2',D,hrun,hc',hkp,hcap',hrow⟩:=append_grow (P:=P) (tt:=o.type) (cap2:=cap2) hc2 hd hinf hz (by omega) (by omega) hp h1 h2 hnil (by omega) hn (by simp only[maxLen];omega) (by rw[hby];exact hb.1)
   exact upon_value_ok (hexec _ _ hrun) (hr st' w' (V _ cap2') _ _ (hc'.perm (perm_set H i _ _ hi)) hkp (hV _ cap2' _ _ _ (rep_of_row hcap' ⟨rfl,rfl⟩ hrow)) ⟨_,cap2',rfl,rfl⟩)
theorem glue_sl1 {α:Type} [Inhabited α] (f:α→List AV) (sz:Nat) (xs:List α) (x:α) (el2:Nat→List AV) (h:el2 0=f x) (o:Own):
  Sub (.slice sz (xs.length+1) (glue xs.length (fun i=>f (xs.getD i default)) el2) o) (sl f sz (xs++[x]) o):=by
 unfold sl
 rw[List.length_append]
 refine Sub.el fun i hi=>?_
 unfold glue
 split
 ·rename_i h
  simp[List.getD,List.getElem?_append_left h]
 ·rename_i h'
  have e:i=xs.length:=by have:[x].length=1:=rfl;omega
  subst e
  simp[List.getD,h]
theorem glue_nil1 {α:Type} [Inhabited α] (f:α→List AV) (sz:Nat) (x:α) (el el2:Nat→List AV) (h:el2 0=f x) (o:Own):
  Sub (.slice sz (0+1) (glue 0 el el2) o) (sl f sz [x] o):=by
 unfold sl
 refine Sub.el fun i hi=>?_
 have:i=0:=by simp at hi;omega
 subst this
 simp[glue,h]
theorem exec_v' {w w':World} {s:Sem Value} {c:Value} (h:s.run P w=.ok c w'):((do pure (.value (←s))):Sem Next).run P w=.ok (.value c) w':=by
 simp[h]
def junk:AV:=.any
theorem junk_rep (st:Stab) (w:World) (c:Value):Rep st w junk c:=.any _
def partsFs (e:TypeId) (sz:Nat):Nat→Nat→List (Nat×TypeId)
 |_,0=>[]
 |k,n+1=>(k*sz,e)::partsFs e sz (k+1) n
theorem partsFs_get (e:TypeId) (sz:Nat):∀(n k f off:Nat) (ft:TypeId),(partsFs e sz k n)[f]?=some (off,ft)→off=(k+f)*sz∧ft=e
 |0,k,f,off,ft,h=>by simp[partsFs]at h
 |n+1,k,0,off,ft,h=>by simp[partsFs]at h;simp[h.1,h.2]
 |n+1,k,f+1,off,ft,h=>by
  have:=partsFs_get e sz n (k+1) f off ft (by simpa [partsFs]using h)
  rw[this.1,this.2]
  exact⟨by congr 1;omega,rfl⟩
def chunk (cells:List AV) (sz:Nat) (i:Nat):List AV:=(cells.drop (i*sz)).take sz
theorem hard_buildSlice (hty:TyOk P ty) {t e:TypeId} {len:Nat} {parts:Array (Nat×Operand)} {ti ei:TyI} {vs:List (Nat×AV)} {cells:List AV} {V:AV}
  (ho:o.op=.buildSlice t len parts) (hti:ty t=some ti) (hk:ti.k=.slice e) (hei:ty e=some ei) (hm:mapP F parts.toList=some vs)
  (hpos:Nat.ble 1 ei.size=true) (hlen:Nat.ble (len*ei.size) 16777216=true) (hcells:abuild (partsFs e ei.size 0 len) ty (List.replicate (len*ei.size) junk) vs=some cells) (hone:cells.all AV.one=true)
  (hV:Sub (.slice ei.size len (chunk cells ei.size) .full) V):
  AHard P o F H fun r H'=>r=.ret V∧H'=H:=by
 intro E st w a r next Q hc hF _ hr _
 obtain⟨⟨d,hd,hkf⟩,-⟩:=hty t ti hti
 rw[hk]at hkf
 obtain rfl:d=.slice e:=hkf
 obtain⟨-,inf,z,hinf,hisz,hby,hz,hzs,hzr,-⟩:=hty e ei hei
 have hp:0<ei.size:=Nat.le_of_ble_eq_true hpos
 have hl24:=Nat.le_of_ble_eq_true hlen
 obtain⟨hml,hmr⟩:=mapP_sound hF _ _ hm
 let zc:List Value:=(List.range (len*ei.size)).map fun i=>z.cells[i%z.cells.size]!
 obtain⟨cs',hf1,hf2,hf3⟩:=abuild_sound (st:=st) (w:=w) (ty:=ty) (fs:=partsFs e ei.size 0 len) (place:=fun i=>some (i*ei.size,ei.size))
  (fun f off ft i hf hi=>by
    obtain⟨rfl,rfl⟩:=partsFs_get e ei.size len 0 f off ft hf
    rw[hei]at hi
    simp at hi
    subst hi
    simp) vs (parts.toList.map fun p=>(p.1,a.eval p.2)) (List.replicate (len*ei.size) junk) cells zc hcells (by simp[zc])
  (fun j v x hv hx=>by
    rw[List.getElem?_replicate]at hv
    split at hv
    ·simp at hv;subst hv;exact junk_rep _ _ _
    ·cases hv) hml hmr
 have hcl:cells.length=len*ei.size:=by
  have:∀(ps:List (Nat×AV)) (l l':List AV),abuild (partsFs e ei.size 0 len) ty l ps=some l'→l'.length=l.length:=by
   intro ps
   induction ps with
   |nil=>intro l l' h;simp[abuild]at h;rw[h]
   |cons p ps ih=>
    intro l l' h
    obtain⟨f,v⟩:=p
    simp only[abuild]at h
    split at h
    ·split at h
     ·split at h
      ·rename_i vs' _
       generalize (Nat.beq vs'.length _&&Nat.ble _ l.length)=bb at h
       cases bb
       ·simp at h
       ·simp only[cond_true]at h
        rw[ih _ _ h,length_setAt]
      ·cases h
     ·cases h
    ·cases h
  rw[this vs _ _ hcells]
  simp
 have hcs1:=agg_one hone hf2 hf3
 let st':Stab:=fun b o=>st b o∨(b=w.heap.size∧o<len*ei.size)
 have hw:(w.alloc (.cells ⟨cs'⟩ e)).heap[w.heap.size]?=some (.cells ⟨cs'⟩ e):=heap_alloc_new w _
 have hgrow:=Conc.grow (st':=st') (w':=w.alloc (.cells ⟨cs'⟩ e)) (Hn:=[]) hc rfl rfl rfl (by simp) (fun k hk=>heap_alloc_old w _ hk) (fun b o h=>.inl h)
  (fun b o h=>by
    rcases h with h|⟨rfl,h⟩
    ·exact .inl h
    ·exact .inr ⟨Nat.le_refl _,by simp⟩) (by simp) (fun k ⟨e1,he1,_⟩=>by simp at he1) (by simp) (fun b o h=>by
    rcases h with h|⟨rfl,_⟩
    ·exact .inl h
    ·exact .inr ⟨_,_,hw⟩)
 refine upon_value_ok (c:=.slice (some ⟨w.heap.size,0,none⟩) len len) (w':=w.alloc (.cells ⟨cs'⟩ e)) ?_ (hr st' _ V _ _ hgrow.1 hgrow.2 (hV _ _ _ ?_) ⟨rfl,rfl⟩)
 ·have e1:(parts.map fun(x:Nat×Operand)=>(x.1,a.eval x.2)).toList=parts.toList.map fun p=>(p.1,a.eval p.2):=by simp
  have hnot:¬(len*ei.size>2^24):=by omega
  simp only[execOp,ho]
  refine(exec_v' ?_)
  unfold Instr.buildSlice
  have hzc:∀zz:Array Value,zz=(if len*ei.size=0 then #[] else z.cells)→(Array.range (len*ei.size)).map (fun x=>zz[x%zz.size]!)=⟨zc⟩:=by
   intro zz hzz
   apply Array.ext'
   by_cases h0:len*ei.size=0
   ·simp[zc,h0]
   ·rw[if_neg h0]at hzz
    subst hzz
    simp[zc]
  have hf1':Instr.fill (fun i=>some (i*ei.size,ei.size)) ⟨zc⟩ (parts.map fun(x:Nat×Operand)=>(x.1,a.eval x.2)).toList=some ⟨cs'⟩:=by rw[e1];exact hf1
  rw[Sem.run_bind,run_underlying hd,Result.andThen_ok]
  simp only[Sem.run_bind,run_sizeOf hinf,Result.andThen_ok,hisz,if_neg hnot]
  by_cases h0:len*ei.size=0
  ·rw[if_pos h0]
   simp only[Sem.run_bind,Sem.run_pure,Result.andThen_ok,hzc #[] (by rw[if_pos h0]),hf1']
   rfl
  ·rw[if_neg h0]
   simp only[Sem.run_bind,Sem.run_pure,Result.andThen_ok,run_zeroValue hinf hz,hzc z.cells (by rw[if_neg h0]),hf1']
   rfl
 ·refine .slice _ len _ .full (some ⟨w.heap.size,0,none⟩) len w.heap.size 0 (fun i j=>cs'.getD (i*ei.size+j) default) (Nat.le_refl _) (.inr rfl) (fun i hi=>?_) (fun i j hi hj=>?_) (fun i j v hi hv=>?_) rfl (fun i j hi hj=>?_)
  all_goals have hle:(i+1)*ei.size≤len*ei.size:=Nat.mul_le_mul_right _ hi
  all_goals rw[Nat.add_mul]at hle
  ·simp[chunk,hcl];omega
  ·refine⟨.inr ⟨rfl,by omega⟩,?_⟩
   rw[Nat.zero_add,cell_of_row _ _ _ _ _ _ hw]
   simpa using getD_some (l:=cs') (j:=i*ei.size+j) (by omega)
  ·unfold chunk at hv
   rw[List.getElem?_take]at hv
   split at hv
   ·rename_i hj
    rw[List.getElem?_drop]at hv
    exact((hf3 _ v _ hv (getD_some (by omega))).mono hgrow.2)
   ·cases hv
  ·exact hcs1 _ (by simp[List.getD,show i*ei.size+j<cs'.length by omega])
end
end Go.Ab
namespace Go.Ab
def Callable (P:Program) (f:FuncId):Prop:=∀args w,(callFunc f args).run P w=.ok (.enter f args) w
def RepL (st:Stab) (w:World) (vs:List AV) (xs:List Value):Prop:=
 xs.length=vs.length∧∀(j:Nat) (v:AV) (x:Value),vs[j]?=some v→xs[j]?=some x→Rep st w v x
theorem RepL.append {st:Stab} {w:World} {vs us:List AV} {xs ys:List Value} (h:RepL st w vs xs) (k:RepL st w us ys):RepL st w (vs++us) (xs++ys):=by
 refine⟨by simp[h.1,k.1],fun j v x hv hx=>?_⟩
 by_cases hj:j<vs.length
 ·rw[List.getElem?_append_left hj]at hv
  rw[List.getElem?_append_left (by rw[h.1];exact hj)]at hx
  exact h.2 j v x hv hx
 ·rw[List.getElem?_append_right (by omega)]at hv
  rw[List.getElem?_append_right (by rw[h.1];omega),h.1]at hx
  exact k.2 _ v x hv hx
def ERes (st:Stab) (w:World):Ending→ARes→Prop
 |.returned c,.ret v=>Rep st w v c
 |.panicked ch,.panic v=>∃c,ch=[{v:=c,recovered:=false}]∧Rep st w v c
 |_,_=>False
def FPost (E:Env0) (K:ARes→AHeap→Prop):Ending→World→Prop
 |.outgrown,_=>False
 |e,w=>∃st r H,Conc E st H w∧ERes st w e r∧K r H
def ACalls (P:Program) (f:FuncId) (vs:List AV) (H:AHeap) (K:ARes→AHeap→Prop):Prop:=
 Callable P f∧∀st w xs,Conc (Env0.of w st H) st H w→RepL st w vs xs→Gl H w→Calls P f ⟨xs⟩ w (FPost (Env0.of w st H) K)
theorem FPost.mono {E:Env0} {K K':ARes→AHeap→Prop} (h:∀r H,K r H→K' r H) {e:Ending} {w:World} (hp:FPost E K e w):FPost E K' e w:=by
 cases e with
 |outgrown=>exact hp.elim
 |returned v=>
  obtain⟨st,r,H,h1,h2,h3⟩:=hp
  exact⟨st,r,H,h1,h2,h _ _ h3⟩
 |panicked c=>
  obtain⟨st,r,H,h1,h2,h3⟩:=hp
  exact⟨st,r,H,h1,h2,h _ _ h3⟩
theorem ACalls.mono {P:Program} {f:FuncId} {vs:List AV} {H:AHeap} {K K':ARes→AHeap→Prop} (h:ACalls P f vs H K) (hk:∀r H',K r H'→K' r H'):ACalls P f vs H K':=
 ⟨h.1,fun st w xs hc hx hg=>(h.2 st w xs hc hx hg).mono fun _ _ hp=>FPost.mono hk hp⟩
section
variable {P:Program} {ty:TypeId→Option TyI} {o:Oper} {F:Operand→Option AV} {H:AHeap}
theorem calls_fen {r:Option Nat} {n:Nat} {f:FuncId} {args:Array Value} {w:World} {R:Ending→World→Prop} (h:Calls P f args w R):CallsIn (fen r) n P f args w R:=by
 cases r with
 |none=>exact callsIn_wide.2 h
 |some l=>exact(callsIn_wide.2 h:CallsIn Fence.wide n P f args w R)
theorem hard_call {cf:Operand} {args:Array Operand} {ats:Array TypeId} {f:FuncId} {first captured vs:List AV} {Hc G:AHeap} {K:ARes→AHeap→Prop}
  (ho:o.op=.call {callee:=.value cf,args:=args,argTypes:=ats}) (hf:F cf=some (.func (.func f) first captured)) (hm:mapF F args.toList=some vs) (hp:H.Perm (Hc++G))
  (h:ACalls P f (first++vs++captured) Hc K):AHard P o F H fun r H'=>∃Hc',H'=Hc'++G∧K r Hc':=by
 intro E st w a r next Q hc hF hout hr hpn
 have hrep:=hF cf _ hf
 obtain⟨hl,hmr⟩:=mapF_sound hF _ _ hm
 generalize hcv:a.eval cf=cv at hrep
 cases hrep with
 |func _ _ _ f' c' hfl hcl hff hcc=>
  have hc1:=hc.perm hp
  have hc2:Conc E st Hc w:=hc1.drop
  have hcall:=h.2 st w (f'++args.toList.map a.eval++c') hc2.start
   (RepL.append (RepL.append ⟨hfl,hff⟩ ⟨hl,hmr⟩) ⟨hcl,hcc⟩) (hout.sub fun _ ⟨e,he,hk⟩=>⟨e,hp.mem_iff.2 (List.mem_append.2 (.inl he)),hk⟩)
  have hargs:(⟨f'⟩++args.map a.eval++⟨c'⟩:Array Value)=⟨f'++args.toList.map a.eval++c'⟩:=by
   apply Array.ext'
   simp
  have hrun:(execOp a.eval o).run P w=.ok (.enter f ⟨f'++args.toList.map a.eval++c'⟩) w:=by
   have:=h.1 (⟨f'⟩++args.map a.eval++⟨c'⟩) w
   rw[hargs]at this
   simp only[execOp,ho,resolve,hcv,Deferred.ofValue,Sem.run_bind,Sem.run_pure,Result.andThen_ok,invoke,hargs,this]
  refine⟨fun _ _=>trivial,?_⟩
  rw[Oper.semAt_eq _ _ _ (by simp[ho]),hrun,Oper.uponIn_enter]
  refine⟨fun h=>by simp[fen,Fence.wide]at h,(calls_fen hcall).mono fun e w' hp'=>?_⟩
  cases e with
  |outgrown=>exact hp'.elim
  |returned v=>
   obtain⟨st',r,Hc',h1,h2,h3⟩:=hp'
   cases r with
   |panic v=>exact h2.elim
   |ret u=>
    obtain⟨k1,k2⟩:=hc1.call h1
    exact hr st' w' u v _ k1 k2 h2 ⟨Hc',rfl,h3⟩
  |panicked ch=>
   obtain⟨st',r,Hc',h1,h2,h3⟩:=hp'
   cases r with
   |ret u=>exact h2.elim
   |panic u=>
    obtain⟨c,rfl,h4⟩:=h2
    obtain⟨k1,k2⟩:=hc1.call h1
    exact hpn st' w' u c _ k1 k2 h4 ⟨Hc',rfl,h3⟩
theorem hard_panic {x:Operand} {t:TypeId} {v:AV} (ho:o.op=.panic x) (hx:F x=some (.iface t v)):AHard P o F H fun r H'=>r=.panic (.iface t v)∧H'=H:=by
 intro E st w a r next Q hc hF _ _ hpn
 have hrep:=hF x _ hx
 generalize hcv:a.eval x=cv at hrep
 cases hrep with
 |iface _ _ y hy=>
  have hrun:(execOp a.eval o).run P w=.halt (.panic (.iface t y)) w:=by
   simp[execOp,ho,hcv,Instr.panic]
  refine⟨fun _ _=>trivial,?_⟩
  rw[Oper.semAt_eq _ _ _ (by simp[ho]),hrun,Oper.uponIn_panic]
  exact hpn st w (.iface t v) (.iface t y) H hc (Keeps.refl st w) (.iface _ _ _ hy) ⟨rfl,rfl⟩
def args0:Nat→List AV→Tmps
 |_,[]=>[]
 |k,v::vs=>(k,v)::args0 (k+1) vs
theorem lk_args0:∀(vs:List AV) (k t:Nat) (v:AV),lk (args0 k vs) t=some v→k≤t∧vs[t-k]?=some v
 |[],k,t,v,h=>by simp[args0,lk]at h
 |u::vs,k,t,v,h=>by
  by_cases e:k=t
  ·subst e
   simp[args0,lk]at h
   subst h
   simp
  ·simp only[args0,lk,beq_ne e,cond_false]at h
   obtain⟨h1,h2⟩:=lk_args0 vs (k+1) t v h
   refine⟨by omega,?_⟩
   have:t-k=(t-(k+1))+1:=by omega
   rw[this]
   simpa using h2
inductive ResV (ty:TypeId→Option TyI) (T:Tmps) (H:AHeap):List ResultVar→List AV→Prop
 |nil:ResV ty T H [] []
 |tmp {t v rs vs} (h:lk T t=some v) (k:ResV ty T H rs vs):ResV ty T H (.tmp t::rs) (v::vs)
 |cell {a t b off ty0 u ti p v rs vs} (h:lk T a=some (.ptr b off)) (ht:ty t=some ti) (hm:Ent.box b ty0 u∈H) (hv:boxAt ti u off=some (p,v)) (hp:p) (k:ResV ty T H rs vs):
   ResV ty T H (.cell a t::rs) (v::vs)
def tup:List AV→AV
 |[v]=>v
 |vs=>.tuple vs
def fnQ (ty:TypeId→Option TyI) (rs:List ResultVar) (K:ARes→AHeap→Prop):APost
 |.normal,T,H=>∃k vs v,ResV ty T H rs vs∧Sub (tup vs) v∧K (.ret v) (H.drop k)
 |.ret,T,H=>∃k vs v,ResV ty T H rs vs∧Sub (tup vs) v∧K (.ret v) (H.drop k)
 |.panic v,_,H=>∃k,K (.panic v) (H.drop k)
 |_,_,_=>False
def resF (tmps:Array Value):ResultVar→Sem Value
 |.tmp t=>pure (tmps.getD t undef)
 |.cell p t=>do loadVar t (←asAddr (tmps.getD p undef))
theorem results_eq (fn:Func) (tmps:Array Value):results fn tmps=(do
  let vs←fn.results.mapM (resF tmps)
  pure (if h:vs.size=1 then vs[0] else .tuple vs)):=by
 unfold results
 congr 1
theorem run_resV (hty:TyOk P ty) {E:Env0} {N:Nat} {st:Stab} {w:World} {T:Tmps} {a:Act} (hc:Conc E st H w) (hf:FR N st w T a) {rs:List ResultVar} {vs:List AV} (h:ResV ty T H rs vs):
  ∃cs,(rs.mapM (resF a.tmps)).run P w=.ok cs w∧RepL st w vs cs:=by
 induction h with
 |nil=>exact⟨[],by simp,rfl,by simp⟩
 | @tmp t v rs vs h _ ih=>
   obtain⟨cs,h1,h2⟩:=ih
   obtain⟨c,h3,h4⟩:=hf.val t v h
   refine⟨c::cs,?_,?_⟩
   ·have h3':(resF a.tmps (.tmp t)).run P w=.ok c w:=by simp[resF,h3]
    simp only[List.mapM_cons,Sem.run_bind,h3',h1,Result.andThen_ok,Sem.run_pure]
   ·exact RepL.append (vs:=[v]) (xs:=[c]) ⟨rfl,fun j u y hu hy=>by
     match j,hu,hy with
     |0,hu,hy=>simp at hu hy;subst hu;subst hy;exact h4⟩ h2
 | @cell p t b off ty0 u ti pp v rs vs h ht hm hv hp _ ih=>
   obtain⟨cs,h1,h2⟩:=ih
   obtain⟨c,h3,h4⟩:=hf.val p _ h
   cases h4
   obtain⟨x,h5,h6⟩:=boxAt_sound (P:=P) hty ht (hc.ents _ hm) hv hp
   have h5':(loadVar t ⟨b,off,none⟩).run P w=.ok x w:=by
    simpa [Instr.loadAt,Instr.sureAddr]using h5
   refine⟨x::cs,?_,?_⟩
   ·have h3':(resF a.tmps (.cell p t)).run P w=.ok x w:=by simp[resF,h3,asAddr,h5']
    simp only[List.mapM_cons,Sem.run_bind,h3',h1,Result.andThen_ok,Sem.run_pure]
   ·exact RepL.append (vs:=[v]) (xs:=[x]) ⟨rfl,fun j u y hu hy=>by
     match j,hu,hy with
     |0,hu,hy=>simp at hu hy;subst hu;subst hy;exact h6⟩ h2
theorem tup_rep {st:Stab} {w:World} {vs:List AV} {cs:List Value} (h:RepL st w vs cs):Rep st w (tup vs) (if h:(Array.mk cs).size=1 then(Array.mk cs)[0] else .tuple ⟨cs⟩):=by
 by_cases h1:cs.length=1
 ·rw[dif_pos (by simpa using h1)]
  obtain⟨c,rfl⟩:=List.length_eq_one_iff.1 h1
  have hl:vs.length=1:=by rw[←h.1];rfl
  obtain⟨v,rfl⟩:=List.length_eq_one_iff.1 hl
  exact h.2 0 v c rfl rfl
 ·rw[dif_neg (by simpa using h1)]
  have e:tup vs=.tuple vs:=by
   have:vs.length≠1:=by rw[←h.1];exact h1
   unfold tup
   split
   ·simp at this
   ·rfl
  rw[e]
  exact .tuple vs cs h.1 h.2
theorem cell_putObj {w:World} {b:Nat} {x y:Obj} (h:w.heap[b]?=some x) (hx:∀c t f,x≠.cells c t f) (hy:∀c t f,y≠.cells c t f) (p:Addr):(w.putObj b y).cell? p=w.cell? p:=by
 unfold World.cell?
 by_cases e:p.block=b
 ·have hlt:=(Array.getElem?_eq_some_iff.1 h).1
  rw[e,World.putObj_heap_same hlt,h]
  cases x<;>cases y<;>first|rfl|exact absurd rfl (hx _ _ _)|exact absurd rfl (hy _ _ _)
 ·rw[World.putObj_heap_other e]
theorem Conc.putObj {E:Env0} {st:Stab} {H:AHeap} {w:World} (h:Conc E st H w) {b:Nat} {x y:Obj} (hb:w.heap[b]?=some x) (hx:∀c t f,x≠.cells c t f) (hy:∀c t f,y≠.cells c t f)
  (hnew:E.O b∨E.w0.heap.size≤b) (hno:¬AHeap.owns H b):Conc E st H (w.putObj b y):=by
 have hcell:=cell_putObj (y:=y) hb hx hy
 have hk:Keeps st st w (w.putObj b y):=⟨fun _ _ h=>h,fun b' o _=>hcell _⟩
 refine⟨h.os,h.tape,h.output,by simpa using h.size,?_,fun b' o hs=>(hcell _).trans (h.keep b' o hs),h.stle,h.stnew,fun b' o hs=>by simpa using h.stlt b' o hs,h.ownnew,fun k hk=>by simpa using h.ownlt k hk,?_,h.sep,fun b' o hs hk=>?_⟩
 ·intro k hlt hO
  have:k≠b:=by
   rintro rfl
   rcases hnew with h1|h1
   ·exact hO h1
   ·omega
  rw[World.putObj_heap_other this]
  exact h.old k hlt hO
 ·intro e he
  refine Ent.holds_keep hk (h.ents e he) (fun k hk'=>?_) fun _ _ _ h=>h
  have:k≠b:=by
   rintro rfl
   exact hno ⟨e,he,hk'⟩
  exact World.putObj_heap_other this
 ·have hu:=h.fz b' o hs hk
  refine hu.same (World.putObj_heap_other ?_)
  rintro rfl
  obtain⟨c,t,e⟩:=hu
  rw[hb]at e
  cases e
  exact hx _ _ _ rfl
theorem leaves_marks {E:Env0} {fn:Func} {a:Array Value} {R:Ending→World→Prop} {st:Stab} {H:AHeap} {u:FrameMode} (hu:u≠.run):
  ∀(ds:List Deferred) (w:World),Fr0 none E.w0.heap.size H w ds→Conc E st H w→
  (∀w',Conc E st H w'→(∀p,w'.cell? p=w.cell? p)→(∀k,AHeap.owns H k→w'.heap[k]?=w.heap[k]?)→LeavesIn Fence.wide 0 P fn a R [] u w')→LeavesInM Fence.wide 0 P fn a R ds u w
 |[],w,_,hc,h=>by
  unfold LeavesInM
  exact h w hc (fun _=>rfl) (fun _ _=>rfl)
 |d::ds,w,hf,hc,h=>by
  obtain⟨b,rfl,h2,h3,h4⟩:=hf.marks d (by simp)
  have hnd:=List.nodup_cons.1 hf.nodup
  unfold LeavesInM
  refine⟨hu,.inl ⟨b,_,rfl,run_takeDeferred h2,?_⟩⟩
  have hc':Conc E st H (w.putObj b (.deferred none)):=hc.putObj h2 (by simp) (by simp) (.inr h4) h3
  refine leaves_marks hu ds _ ⟨fun d hd=>?_,hnd.2,by simpa using hf.size,fun l hl=>(by cases hl),hf.gl.putObj h2 (by simp)⟩ hc' fun w' g1 g2 g3=>h w' g1 (fun p=>(g2 p).trans (cell_putObj h2 (by simp) (by simp) p)) fun k hk=>(g3 k hk).trans ?_
  ·obtain⟨b',k1,k2,k3,k4⟩:=hf.marks d (by simp[hd])
   refine⟨b',k1,?_,k3,k4⟩
   rw[World.putObj_heap_other]
   ·exact k2
   ·rintro rfl
    exact hnd.1 (k1▸hd)
  ·exact World.putObj_heap_other fun e=>h3 (e▸hk)
theorem acalls_of_awp (hty:TyOk P ty) {f:FuncId} {fn:Func} {c:Code} {vs:List AV} {K:ARes→AHeap→Prop} (hcb:Callable P f) (hf:P.funcs[f]?=some fn) (hb:fn.body=some c)
  (hl:Nat.ble vs.length fn.ntmps=true) (h:AWP P fn.ntmps c (args0 0 vs) H (fnQ ty fn.results.toList K)):ACalls P f vs H K:=by
 refine⟨hcb,fun st w xs hc hx hg=>?_⟩
 have hl':=Nat.le_of_ble_eq_true hl
 refine callsIn_wide.1 (callsIn_of_wp_marks (n:=0) hf hb trivial (wpIn_mono (h (Env0.of w st H) st w _ none ⟨w.heap.size,[]⟩ hc ⟨?_,?_⟩ (Fr.none_nil hg)) ?_))
 ·simp[hx.1];omega
 ·intro t v ht
  obtain⟨_,h2⟩:=lk_args0 vs 0 t v ht
  simp only[Nat.sub_zero]at h2
  have htl:t<xs.length:=by
   have:=(List.getElem?_eq_some_iff.1 h2).1
   rw[hx.1];exact this
  refine⟨xs[t],?_,hx.2 t v _ h2 (by simp[htl])⟩
  rw[Array.getElem?_append_left (by simpa using htl)]
  simp[htl]
 ·intro e a' w' hp
  have fin:∀w2 st' T' H',Conc (Env0.of w st H) st' H' w2→FR fn.ntmps st' w2 T' a'→(∃k vs v,ResV ty T' H' fn.results.toList vs∧Sub (tup vs) v∧K (.ret v) (H'.drop k))→
    ∃v,(results fn a'.tmps).run P w2=.ok v w2∧FPost (Env0.of w st H) K (.returned v) w2:=by
   rintro w2 st' T' H' h1 h2 ⟨k,us,v,h3,h4,h5⟩
   obtain⟨cs,h6,h7⟩:=run_resV (P:=P) hty h1 h2 h3
   refine⟨_,?_,st',.ret v,H'.drop k,?_,h4 _ _ _ (tup_rep h7),h5⟩
   ·rw[results_eq,Sem.run_bind,Array.mapM_eq_mapM_toList,Sem.run_map,h6]
    rfl
   ·have:H'.take k++H'.drop k=H':=List.take_append_drop k H'
    rw[←this]at h1
    exact h1.drop_front
  have out:∀(u:FrameMode),u≠.run→∀st' T' H',Conc (Env0.of w st H) st' H' w'→FR fn.ntmps st' w' T' a'→Fr none ⟨w.heap.size,[]⟩ H' w' a'.defers→
    (∀w2,Conc (Env0.of w st H) st' H' w2→Keeps st' st' w' w2→LeavesIn Fence.wide 0 P fn a'.tmps (FPost (Env0.of w st H) K) [] u w2)→
    LeavesInM Fence.wide 0 P fn a'.tmps (FPost (Env0.of w st H) K) a'.defers u w':=
   fun u hu st' T' H' h1 h2 ⟨ms,hms,h3⟩ h4=>by
    rw[hms,List.append_nil]
    exact leaves_marks hu _ w' h3 h1 fun w2 g1 g2 _=>h4 w2 g1 ⟨fun _ _ h=>h,fun b o _=>g2 _⟩
  cases e with
  |outgrown=>exact hp.elim
  |normal=>
   obtain⟨st',T',H',x,h1,h2,h3,h4,h5⟩:=hp
   cases x<;>first|exact h4.elim|skip
   exact out .returning (by simp) st' T' H' h1 h2 h3 fun w2 g1 g2=>by
    unfold LeavesIn
    exact fin w2 st' T' H' g1 (h2.mono g2) h5
  |ret=>
   obtain⟨st',T',H',x,h1,h2,h3,h4,h5⟩:=hp
   cases x<;>first|exact h4.elim|skip
   exact out .returning (by simp) st' T' H' h1 h2 h3 fun w2 g1 g2=>by
    unfold LeavesIn
    exact fin w2 st' T' H' g1 (h2.mono g2) h5
  |panic ch=>
   obtain⟨st',T',H',x,h1,h2,h3,h4,h5⟩:=hp
   cases x<;>first|exact h4.elim|skip
   rename_i v
   obtain⟨k,h6⟩:=h5
   refine out (.panicking ch) (by simp) st' T' H' h1 h2 h3 fun w2 g1 g2=>?_
   unfold LeavesIn
   obtain⟨c,rfl,h7⟩:=h4
   refine⟨st',.panic v,H'.drop k,?_,⟨c,rfl,h7.mono g2⟩,h6⟩
   have:H'.take k++H'.drop k=H':=List.take_append_drop k H'
   rw[←this]at g1
   exact g1.drop_front
  |exit id=>
   obtain⟨st',T',H',x,h1,h2,h3,h4,h5⟩:=hp
   cases x<;>first|exact h4.elim|exact h5.elim
  |goto l=>
   obtain⟨st',T',H',x,h1,h2,h3,h4,h5⟩:=hp
   cases x<;>first|exact h4.elim|exact h5.elim
end
end Go.Ab
namespace Go.Ab
def kChk:TyK→TypeDesc→Bool
 |.int k,.int k'=>decide (k=k')
 |.bool,.bool=>true
 |.str,.string=>true
 |.ptr e,.pointer e'=>Nat.beq e e'
 |.iface,.interface _=>true
 |.func,.func _ _ _=>true
 |.map k e,.map k' e'=>Nat.beq k k'&&Nat.beq e e'
 |.slice e,.slice e'=>Nat.beq e e'
 |.struct fs,.struct a=>decide (a.toList.map (fun f=>(f.offset,f.type))=fs)
 |.array n e,.array n' e'=>Nat.beq n n'&&Nat.beq e e'
 |.other,_=>true
 |_,_=>false
theorem kChk_fits {k:TyK} {d:TypeDesc} (h:kChk k d=true):k.fits d:=by
 cases k<;>cases d<;>simp only[kChk,Bool.false_eq_true,Bool.and_eq_true,decide_eq_true_eq]at h<;>simp only[TyK.fits]
 case int.int=>rw[h]
 case ptr.pointer=>rw[Nat.eq_of_beq_eq_true h]
 case iface.interface=>exact⟨_,rfl⟩
 case func.func=>exact⟨_,_,_,rfl⟩
 case map.map=>rw[Nat.eq_of_beq_eq_true h.1,Nat.eq_of_beq_eq_true h.2]
 case slice.slice=>rw[Nat.eq_of_beq_eq_true h]
 case struct.struct=>exact⟨_,rfl,h⟩
 case array.array=>rw[Nat.eq_of_beq_eq_true h.1,Nat.eq_of_beq_eq_true h.2]
def zCell:AV→Value→Bool
 |.bool b,.bool b'=>b==b'
 |.int k n,.int k' n'=>decide (k=k')&&decide (n=n')
 |.str s,.string b=>s==b.data.toList
 |.nilptr,.pointer none=>true
 |.nils,.slice none n m=>Nat.beq n 0&&Nat.beq m 0
 |.nilFunc,.nilFunc=>true
 |.nilIface,.nilIface=>true
 |.mapv none,.map none=>true
 |_,_=>false
def zCells:List AV→List Value→Bool
 |[],[]=>true
 |v::vs,c::cs=>zCell v c&&zCells vs cs
 |_,_=>false
def zVec (el:Nat→AV):Nat→List Value→Bool
 |_,[]=>true
 |j,c::cs=>zCell (el j) c&&zVec el (j+1) cs
def zChk:AV→Value→Bool
 |.agg vs,.agg cs=>zCells vs cs.toList
 |.vec n el,.agg cs=>Nat.beq n cs.size&&zVec el 0 cs.toList
 |v,c=>zCell v c
theorem zCell_rep {v:AV} {c:Value} (h:zCell v c=true) (st:Stab) (w:World):Rep st w v c∧c.oneCell'=true:=by
 unfold zCell at h
 split at h<;>first|(cases h;done)|skip
 ·simp at h;subst h;exact⟨.bool _,rfl⟩
 ·simp at h;obtain⟨rfl,rfl⟩:=h;exact⟨.int _ _,rfl⟩
 ·rename_i s b
  simp at h
  subst h
  exact⟨.str b.data.toList,rfl⟩
 ·exact⟨.nilptr,rfl⟩
 ·simp only[Bool.and_eq_true]at h
  obtain⟨h1,h2⟩:=h
  obtain rfl:=Nat.eq_of_beq_eq_true h1
  obtain rfl:=Nat.eq_of_beq_eq_true h2
  exact⟨.nils,rfl⟩
 ·exact⟨.nilFunc,rfl⟩
 ·exact⟨.nilIface,rfl⟩
 ·exact⟨.mapv _,rfl⟩
theorem zCells_rep:∀(vs:List AV) (cs:List Value),zCells vs cs=true→∀(st:Stab) (w:World),RepL st w vs cs∧∀x∈cs,x.oneCell'=true
 |[],[],_,st,w=>⟨⟨rfl,by simp⟩,by simp⟩
 |v::vs,c::cs,h,st,w=>by
  simp only[zCells,Bool.and_eq_true]at h
  obtain⟨h1,h2⟩:=zCell_rep h.1 st w
  obtain⟨h3,h4⟩:=zCells_rep vs cs h.2 st w
  refine⟨RepL.append (vs:=[v]) (xs:=[c]) ⟨rfl,fun j u y hu hy=>by
   match j,hu,hy with
   |0,hu,hy=>simp at hu hy;subst hu;subst hy;exact h1⟩ h3,fun x hx=>?_⟩
  rcases List.mem_cons.1 hx with rfl|hx
  ·exact h2
  ·exact h4 x hx
 |[],c::cs,h,_,_=>by simp[zCells]at h
 |v::vs,[],h,_,_=>by simp[zCells]at h
theorem zVec_rep (el:Nat→AV) (st:Stab) (w:World):∀(cs:List Value) (k:Nat),zVec el k cs=true→∀j x,cs[j]?=some x→Rep st w (el (k+j)) x∧x.oneCell'=true
 |[],k,_,j,x,h=>by simp at h
 |c::cs,k,h,j,x,hx=>by
  simp only[zVec,Bool.and_eq_true]at h
  match j,hx with
  |0,hx=>simp at hx;subst hx;exact zCell_rep h.1 st w
  |j+1,hx=>
   have:=zVec_rep el st w cs (k+1) h.2 j x (by simpa using hx)
   rwa [Nat.add_assoc,Nat.add_comm 1 j]at this
theorem zChk_rep {v:AV} {c:Value} (h:zChk v c=true):(∀st w,Rep st w v c)∧∀x∈c.cells.toList,x.oneCell'=true:=by
 unfold zChk at h
 split at h
 ·rename_i vs cs
  refine⟨fun st w=>?_,fun x hx=>(zCells_rep vs cs.toList h (fun _ _=>False) default).2 x hx⟩
  have:=(zCells_rep vs cs.toList h st w).1
  exact .agg vs cs.toList this.1 this.2
 ·rename_i n el cs
  simp only[Bool.and_eq_true]at h
  obtain rfl:=Nat.eq_of_beq_eq_true h.1
  have hone:∀x∈cs.toList,x.oneCell'=true:=by
   intro x hx
   obtain⟨j,hj,rfl⟩:=List.getElem_of_mem hx
   exact(zVec_rep el (fun _ _=>False) default cs.toList 0 h.2 j _ (by simp at hj;simp[hj])).2
  refine⟨fun st w=>.vec _ el cs.toList (by simp) (fun j x hx=>?_) hone,hone⟩
  have:=(zVec_rep el st w cs.toList 0 h.2 j x hx).1
  rwa [Nat.zero_add]at this
 ·have h1:=fun st w=>zCell_rep h st w
  refine⟨fun st w=>(h1 st w).1,fun x hx=>?_⟩
  have hc:c.cells= #[c]:=by
   unfold zCell at h
   split at h<;>first|rfl|(cases h;done)
  rw[hc]at hx
  simp at hx
  subst hx
  exact(h1 (fun _ _=>False) default).2
def tyChk (P:Program) (t:TypeId) (i:TyI):Bool:=
 (match P.underlying t with
 |some d=>kChk i.k d
 |none=>false)&&
 (match P.info? t with
 |some inf=>Nat.beq inf.size i.size&&Nat.beq inf.bytes i.bytes&&(match inf.zero with
  |some z=>Nat.beq z.cells.size i.size&&zChk i.zero z
  |none=>false)
 |none=>false)
def nth:List (Option TyI)→Nat→Option TyI
 |[],_=>none
 |x::_,0=>x
 |_::l,n+1=>nth l n
def tysChk (P:Program):Nat→List (Option TyI)→Bool
 |_,[]=>true
 |t,none::l=>tysChk P (t+1) l
 |t,some i::l=>tyChk P t i&&tysChk P (t+1) l
theorem tysChk_get (P:Program):∀(l:List (Option TyI)) (k:Nat),tysChk P k l=true→∀t i,nth l t=some i→tyChk P (k+t) i=true
 |[],k,_,t,i,h=>by simp[nth]at h
 |x::l,k,h,0,i,hi=>by
  simp[nth]at hi
  subst hi
  simp only[tysChk,Bool.and_eq_true]at h
  exact h.1
 |x::l,k,h,t+1,i,hi=>by
  have h':tysChk P (k+1) l=true:=by
   cases x with
   |none=>exact h
   |some j=>simp only[tysChk,Bool.and_eq_true]at h;exact h.2
  have:=tysChk_get P l (k+1) h' t i hi
  rwa [Nat.add_assoc,Nat.add_comm 1 t]at this
theorem tyOk_of {P:Program} {l:List (Option TyI)} (h:tysChk P 0 l=true):TyOk P (nth l):=by
 intro t i hi
 have:=tysChk_get P l 0 h t i hi
 rw[Nat.zero_add]at this
 unfold tyChk at this
 simp only[Bool.and_eq_true]at this
 obtain⟨h1,h2⟩:=this
 refine⟨?_,?_⟩
 ·split at h1
  ·rename_i d hd
   exact⟨d,hd,kChk_fits h1⟩
  ·cases h1
 ·split at h2
  ·rename_i inf hinf
   simp only[Bool.and_eq_true]at h2
   obtain⟨⟨h3,h4⟩,h5⟩:=h2
   split at h5
   ·rename_i z hz
    simp only[Bool.and_eq_true]at h5
    exact⟨inf,z,hinf,Nat.eq_of_beq_eq_true h3,Nat.eq_of_beq_eq_true h4,hz,Nat.eq_of_beq_eq_true h5.1,zChk_rep h5.2⟩
   ·cases h5
  ·cases h2
end Go.Ab
namespace Go.Ab
section
variable {P:Program} {N:Nat} {ty:TypeId→Option TyI} {l0:List Oper} {LD:LDs} {W:Bool} {Q:APost} {n:Nat} {o:Oper} {l:List (Nat×Oper)} {T:Tmps} {H:AHeap}
theorem TR.alloc (hty:TyOk P ty) {elem:TypeId} {i:TyI} {d:Nat} (hg:o.guard=none) (ho:o.op=.alloc elem) (hd:o.dst=some d) (hN:dstOk o.dst N=true) (ht:ty elem=some i)
  (k:∀b,TR P N ty l0 LD W Q l ((d,.ptr b 0)::T) (.box b elem i.zero::H)):TR P N ty l0 LD W Q ((n,o)::l) T H:=by
 refine TR.hard _ (.inr (by rw[ho];rfl)) hg hN (by rw[ho];trivial) (hard_alloc hty ho ht) ?_ ?_ (fun _ v H' ⟨_,_,e⟩=>e▸KeepB.cons _ _) (fun h=>by rw[ho]at h;cases h)
 ·rintro v H' ⟨b,e,rfl⟩
  cases e
  rw[hd]
  exact k b
 ·rintro v H' ⟨b,e,rfl⟩
  cases e
theorem TR.box {elem:TypeId} {x:Operand} {v:AV} {vs:List AV} {d:Nat} (hg:o.guard=none) (ho:o.op=.box elem x) (hd:o.dst=some d) (hN:dstOk o.dst N=true) (hon:optN True T (tmpsOf o.op))
  (hx:opvL (tmpsOf o.op) T x=some v) (hv:cellsOf v=some vs) (h1:vs.all AV.one=true)
  (k:∀b,TR P N ty l0 LD W Q l ((d,.ptr b 0)::T) (.box b elem v::H)):TR P N ty l0 LD W Q ((n,o)::l) T H:=by
 refine TR.hard _ (.inr (by rw[ho];rfl)) hg hN hon (hard_box ho hx hv h1) ?_ ?_ (fun _ v H' ⟨_,_,e⟩=>e▸KeepB.cons _ _) (fun h=>by rw[ho]at h;cases h)
 ·rintro u H' ⟨b,e,rfl⟩
  cases e
  rw[hd]
  exact k b
 ·rintro u H' ⟨b,e,rfl⟩
  cases e
theorem TR.store (hty:TyOk P ty) {t:TypeId} {x y:Operand} {ti:TyI} {b off:Nat} {ty0:TypeId} {u u' v:AV} {p:Prop} (i:Nat) (hg:o.guard=none) (ho:o.op=.store t x y) (hd:o.dst=none)
  (hon:optN True T (tmpsOf o.op)) (hx:opvL (tmpsOf o.op) T x=some (.ptr b off)) (hy:opvL (tmpsOf o.op) T y=some v) (ht:ty t=some ti) (hi:H[i]?=some (.box b ty0 u)) (hs:boxSet ti u off v=some (p,u')) (hp:p)
  (k:TR P N ty l0 LD W Q l T (H.set i (.box b ty0 u'))) (hkb:LD.kp n ty0=false):TR P N ty l0 LD W Q ((n,o)::l) T H:=by
 refine TR.hard _ (.inr (by rw[ho];rfl)) hg (by rw[hd];rfl) hon (hard_store hty i ho hx hy ht hi hs hp) ?_ ?_ (fun _ v H' ⟨_,e⟩=>e▸KeepB.setBox hi hkb _) (fun h=>by rw[ho]at h;cases h)
 ·rintro v H' ⟨e,rfl⟩
  rw[hd]
  exact k
 ·rintro v H' ⟨e,rfl⟩
  cases e
theorem TR.appendF (hty:TyOk P ty) {s x:Operand} {t e:TypeId} {ti ei:TyI} {vs vx:AV} {sz m' m:Nat} {el el2:Nat→List AV} {ow:Own} {d:Nat} (V:Option Addr→Nat→AV)
  (hg:o.guard=none) (ho:o.op=.call {callee:=.builtin .append,args:= #[s,x],argTypes:= #[t,t]}) (hd:o.dst=some d) (hN:dstOk o.dst N=true) (hon:optN True T (tmpsOf o.op))
  (hti:ty t=some ti) (hk:ti.k=.slice e) (hei:ty e=some ei) (hsz:ei.size=sz) (hpos:Nat.ble 1 sz=true)
  (hs:opvL (tmpsOf o.op) T s=some vs) (hx:opvL (tmpsOf o.op) T x=some vx) (hvs:asSl sz vs=some (m',el,.full)) (hvx:asSl sz vx=some (m,el2,ow))
  (hb:(m'+m)*ei.bytes≤140737488355328∧m'+m≤9223372036854775807) (hV:∀a cap,Sub (.slice sz (m'+m) (glue m' el el2) (.own a cap)) (V a cap))
  (k:∀a cap,TR P N ty l0 LD W Q l ((d,V a cap)::T) (.tok a cap (m'+m) sz e::H)):TR P N ty l0 LD W Q ((n,o)::l) T H:=by
 refine TR.hard _ (.inr (by rw[ho];rfl)) hg hN hon (hard_append_full hty ho hti hk hei hsz hpos hs hx hvs hvx hb hV) ?_ ?_ (fun _ v H' ⟨_,_,_,e⟩=>e▸KeepB.cons _ _) (fun h=>by rw[ho]at h;cases h)
 ·rintro v H' ⟨a,cap,e,rfl⟩
  cases e
  rw[hd]
  exact k a cap
 ·rintro v H' ⟨a,cap,e,rfl⟩
  cases e
theorem TR.appendO (hty:TyOk P ty) {s x:Operand} {t e:TypeId} {ti ei:TyI} {vs vx:AV} {sz m' m:Nat} {el el2:Nat→List AV} {ow:Own} {d:Nat} {a:Option Addr} {cap:Nat} (i:Nat) (V:Option Addr→Nat→AV)
  (hg:o.guard=none) (ho:o.op=.call {callee:=.builtin .append,args:= #[s,x],argTypes:= #[t,t]}) (hd:o.dst=some d) (hN:dstOk o.dst N=true) (hon:optN True T (tmpsOf o.op))
  (hti:ty t=some ti) (hk:ti.k=.slice e) (hei:ty e=some ei) (hsz:ei.size=sz) (hpos:Nat.ble 1 sz=true)
  (hs:opvL (tmpsOf o.op) T s=some vs) (hx:opvL (tmpsOf o.op) T x=some vx) (hvs:asSl sz vs=some (m',el,.own a cap)) (hvx:asSl sz vx=some (m,el2,ow)) (hi:H[i]?=some (.tok a cap m' sz e))
  (hb:(m'+m)*ei.bytes≤140737488355328∧m'+m≤9223372036854775807) (hV:∀a cap,Sub (.slice sz (m'+m) (glue m' el el2) (.own a cap)) (V a cap))
  (k:∀a cap,TR P N ty l0 LD W Q l ((d,V a cap)::T) (H.set i (.tok a cap (m'+m) sz e))):TR P N ty l0 LD W Q ((n,o)::l) T H:=by
 refine TR.hard _ (.inr (by rw[ho];rfl)) hg hN hon (hard_append_own hty i ho hti hk hei hsz hpos hs hx hvs hvx hi hb hV) ?_ ?_ (fun _ v H' ⟨_,_,_,e⟩=>e▸KeepB.setTok hi _) (fun h=>by rw[ho]at h;cases h)
 ·rintro v H' ⟨a,cap,e,rfl⟩
  cases e
  rw[hd]
  exact k a cap
 ·rintro v H' ⟨a,cap,e,rfl⟩
  cases e
theorem TR.bslice (hty:TyOk P ty) {t e:TypeId} {len:Nat} {parts:Array (Nat×Operand)} {ti ei:TyI} {vs:List (Nat×AV)} {cells:List AV} {d:Nat} (V:AV)
  (hg:o.guard=none) (ho:o.op=.buildSlice t len parts) (hd:o.dst=some d) (hN:dstOk o.dst N=true) (hon:optN True T (tmpsOf o.op)) (hti:ty t=some ti) (hk:ti.k=.slice e) (hei:ty e=some ei)
  (hm:mapP (opvL (tmpsOf o.op) T) parts.toList=some vs) (hpos:Nat.ble 1 ei.size=true) (hlen:Nat.ble (len*ei.size) 16777216=true)
  (hcells:abuild (partsFs e ei.size 0 len) ty (List.replicate (len*ei.size) junk) vs=some cells) (hone:cells.all AV.one=true) (hV:Sub (.slice ei.size len (chunk cells ei.size) .full) V)
  (k:TR P N ty l0 LD W Q l ((d,V)::T) H):TR P N ty l0 LD W Q ((n,o)::l) T H:=by
 refine TR.hard _ (.inr (by rw[ho];rfl)) hg hN hon (hard_buildSlice hty ho hti hk hei hm hpos hlen hcells hone hV) ?_ ?_ (fun _ v H' ⟨_,e⟩=>e▸KeepB.refl _) (fun h=>by rw[ho]at h;cases h)
 ·rintro v H' ⟨e,rfl⟩
  cases e
  rw[hd]
  exact k
 ·rintro v H' ⟨e,rfl⟩
  cases e
def PCalls (P:Program) (f:FuncId) (vs:List AV) (u:AV):Prop:=ACalls P f vs [] fun r H'=>r=.ret u∧H'=[]
theorem TR.pcall {cf:Operand} {args:Array Operand} {ats:Array TypeId} {f:FuncId} {first captured vs:List AV} {u:AV} {d:Nat} (hg:o.guard=none)
  (ho:o.op=.call {callee:=.value cf,args:=args,argTypes:=ats}) (hd:o.dst=some d) (hN:dstOk o.dst N=true) (hon:optN True T (tmpsOf o.op))
  (hf:opvL (tmpsOf o.op) T cf=some (.func (.func f) first captured)) (hm:mapF (opvL (tmpsOf o.op) T) args.toList=some vs) (h:PCalls P f (first++vs++captured) u)
  (k:TR P N ty l0 LD W Q l ((d,u)::T) H):TR P N ty l0 LD W Q ((n,o)::l) T H:=by
 refine TR.pcl u d hg hd hN hon (by rw[ho];rfl) (fun H'=>AHard.mono (hard_call (Hc:=[]) (G:=H') ho hf hm (List.Perm.refl _) h) ?_) k
 rintro r H2 ⟨Hc',rfl,e,rfl⟩
 exact⟨e,rfl⟩
theorem TR.pcallopt {cf:Operand} {args:Array Operand} {ats:Array TypeId} {f:FuncId} {first captured vs:List AV} {u:AV} {d j:Nat} {g b x:Bool} {dj:Nat} (hg:o.guard=some (j,g)) (hj:gdst l0 j=some dj)
  (hb:gcond (lk T dj) g=some (x,b)) (ho:o.op=.call {callee:=.value cf,args:=args,argTypes:=ats}) (hd:o.dst=some d) (hN:Nat.ble (d+1) N=true) (hon:optN (x=b) T (tmpsOf o.op))
  (hf:opvL (tmpsOf o.op) T cf=some (.func (.func f) first captured)) (hm:mapF (opvL (tmpsOf o.op) T) args.toList=some vs) (h:x=b→PCalls P f (first++vs++captured) u)
  (k:TR P N ty l0 LD W Q l ((d,.opt x b u)::T) H) (hsc:LD.sc n=false:=by exact rfl):TR P N ty l0 LD W Q ((n,o)::l) T H:=by
 refine TR.copt u d j g b x dj (.inr (by rw[ho];rfl)) hg hj hb hd hN hon (fun hx=>?_) k (fun _=>hsc)
 refine AHard.mono (hard_call (Hc:=[]) (G:=H) ho hf hm (List.Perm.refl _) (h hx)) ?_
 rintro r H' ⟨Hc',rfl,e,rfl⟩
 exact⟨e,rfl⟩
theorem TR.hcall {cf:Operand} {args:Array Operand} {ats:Array TypeId} {f:FuncId} {first captured vs:List AV} {Hc G:AHeap} {K:ARes→AHeap→Prop} (hg:o.guard=none)
  (ho:o.op=.call {callee:=.value cf,args:=args,argTypes:=ats}) (hN:dstOk o.dst N=true) (hon:optN True T (tmpsOf o.op))
  (hf:opvL (tmpsOf o.op) T cf=some (.func (.func f) first captured)) (hm:mapF (opvL (tmpsOf o.op) T) args.toList=some vs) (hp:H.Perm (Hc++G)) (h:ACalls P f (first++vs++captured) Hc K)
  (k:∀v Hc',K (.ret v) Hc'→TR P N ty l0 LD W Q l (putO o.dst v T) (Hc'++G)) (kp:∀v Hc',K (.panic v) Hc'→Q (.panic v) T (Hc'++G)) (hkb:∀v Hc',K (.ret v) Hc'→KeepB LD n H (Hc'++G):=by intro _ _ _ _ _ _ h _;cases h) (hsc:LD.sc n=false:=by exact rfl):TR P N ty l0 LD W Q ((n,o)::l) T H:=by
 refine TR.hard _ (.inr (by rw[ho];rfl)) hg hN hon (hard_call ho hf hm hp h) ?_ ?_ (fun _ v H' ⟨Hc',e,hK⟩=>e▸hkb v Hc' hK) (fun _=>hsc)
 ·rintro v H' ⟨Hc',rfl,e⟩
  exact k v Hc' e
 ·rintro v H' ⟨Hc',rfl,e⟩
  exact kp v Hc' e
theorem TR.panic {x:Operand} {t:TypeId} {v:AV} (hg:o.guard=none) (ho:o.op=.panic x) (hN:dstOk o.dst N=true) (hon:optN True T (tmpsOf o.op)) (hx:opvL (tmpsOf o.op) T x=some (.iface t v))
  (k:Q (.panic (.iface t v)) T H):TR P N ty l0 LD W Q ((n,o)::l) T H:=by
 refine TR.hard _ (.inr (by rw[ho];rfl)) hg hN hon (hard_panic ho hx) ?_ ?_ (fun h=>by rw[ho]at h;cases h) (fun h=>by rw[ho]at h;cases h)
 ·rintro u H' ⟨e,rfl⟩
  cases e
 ·rintro u H' ⟨e,rfl⟩
  cases e
  exact k
inductive SubL:List AV→List AV→Prop
 |nil:SubL [] []
 |cons {v v' vs vs'} (h:Sub v v') (k:SubL vs vs'):SubL (v::vs) (v'::vs')
theorem SubL.refl:∀vs,SubL vs vs
 |[]=>.nil
 |v::vs=>.cons (Sub.refl v) (SubL.refl vs)
theorem SubL.rep {st:Stab} {w:World} {vs vs':List AV} (h:SubL vs vs'):∀{xs:List Value},RepL st w vs xs→RepL st w vs' xs:=by
 induction h with
 |nil=>exact fun h=>h
 | @cons v v' vs vs' h _ ih=>
   intro xs hx
   match xs,hx with
   |[],hx=>exact absurd hx.1 (by simp)
   |x::xs,hx=>
    exact RepL.append (vs:=[v']) (xs:=[x]) ⟨rfl,fun j u y hu hy=>by
     match j,hu,hy with
     |0,hu,hy=>simp at hu hy;subst hu;subst hy;exact h _ _ _ (hx.2 0 v x rfl rfl)⟩ (ih ⟨by simpa using hx.1,fun j u y hu hy=>hx.2 (j+1) u y (by simpa using hu) (by simpa using hy)⟩)
theorem ACalls.sub {f:FuncId} {vs vs':List AV} {K:ARes→AHeap→Prop} (h:ACalls P f vs' H K) (hs:SubL vs vs'):ACalls P f vs H K:=
 ⟨h.1,fun st w xs hc hx hg=>h.2 st w xs hc (hs.rep hx) hg⟩
theorem PCalls.sub {f:FuncId} {vs vs':List AV} {u:AV} (h:PCalls P f vs' u) (hs:SubL vs vs'):PCalls P f vs u:=ACalls.sub h hs
theorem pcalls_of_awp (hty:TyOk P ty) {f:FuncId} {fn:Func} {c:Code} {vs:List AV} {u:AV} (hcb:Callable P f) (hf:P.funcs[f]?=some fn) (hb:fn.body=some c)
  (hl:Nat.ble vs.length fn.ntmps=true) (h:AWP P fn.ntmps c (args0 0 vs) [] (fnQ ty fn.results.toList fun r H'=>r=.ret u∧H'=[])):PCalls P f vs u:=
 acalls_of_awp hty hcb hf hb hl h
def Weak (T:Tmps):Tmps→Prop
 |[]=>True
 |(t,v')::T'=>(∃v,lk T t=some v∧Sub v v')∧Weak T T'
theorem Weak.spec {T:Tmps}:∀{T':Tmps},Weak T T'→∀t v',lk T' t=some v'→∃v,lk T t=some v∧Sub v v'
 |[],_,t,v',h=>by simp[lk]at h
 |(d,u)::T',hw,t,v',h=>by
  by_cases e:d=t
  ·subst e
   simp[lk]at h
   subst h
   exact hw.1
  ·simp only[lk,beq_ne e,cond_false]at h
   exact Weak.spec hw.2 t v' h
theorem Sub.of_eq {v v':AV} (h:v=v'):Sub v v':=h▸Sub.refl v
theorem awp_loop0 {c:Code} {ι:Type} (I:ι→Tmps) (J:ι→AHeap) (μ:ι→Nat) (i0:ι) (h0:Weak T (I i0)) (hJ:∃k,H.drop k=J i0)
  (round:∀i,AWP P N c (I i) (J i) (thenQ (fun T' H'=>∃i',Weak T' (I i')∧(∃k,H'.drop k=J i')∧μ i'<μ i) Q)):AWP P N (.loop c) T H Q:=by
 have dr:∀{E:Env0} {st:Stab} {H J:AHeap} {w:World} {k:Nat},Conc E st H w→H.drop k=J→Conc E st J w:=by
  intro E st H J w k h e
  subst e
  rw[←List.take_append_drop k H]at h
  exact h.drop_front
 refine awp_loop ι I J μ ?_ fun i=>awp_mono (round i) ?_
 ·intro E st w a h1 h2
  obtain⟨k,hk⟩:=hJ
  exact⟨st,I i0,J i0,dr h1 hk,h2.weaken h0.spec,i0,rfl,rfl⟩
 ·intro x T' H' hx
  cases x with
  |normal=>
   obtain⟨i',h3,⟨k,hk⟩,h5⟩:=hx
   intro E st w a h1 h2
   exact⟨st,I i',J i',dr h1 hk,h2.weaken h3.spec,i',rfl,rfl,h5⟩
  |_=>exact hx
def isRet:AX→Bool
 |.normal=>true
 |.ret=>true
 |_=>false
theorem fnQ_ret {rs:List ResultVar} {K:ARes→AHeap→Prop} {x:AX} {vs:List AV} {v:AV} (k:Nat) (hx:isRet x=true) (hr:ResV ty T H rs vs) (hs:Sub (tup vs) v) (hK:K (.ret v) (H.drop k)):fnQ ty rs K x T H:=by
 cases x<;>first|(cases hx;done)|exact⟨k,vs,v,hr,hs,hK⟩
theorem fnQ_p1 {rs:List ResultVar} {x:AX} {t:Nat} {v u:AV} (k:Nat) (hx:isRet x=true) (hr:rs=[.tmp t]) (hl:lk T t=some v) (hd:H.drop k=[]) (hs:Sub v u):
  fnQ ty rs (fun r H'=>r=.ret u∧H'=[]) x T H:=fnQ_ret (vs:=[v]) k hx (by rw[hr];exact .tmp hl .nil) hs ⟨rfl,hd⟩
theorem fnQ_p2 {rs:List ResultVar} {x:AX} {t1 t2:Nat} {v1 v2 u1 u2:AV} (k:Nat) (hx:isRet x=true) (hr:rs=[.tmp t1,.tmp t2]) (hl1:lk T t1=some v1) (hl2:lk T t2=some v2) (hd:H.drop k=[])
  (h1:Sub v1 u1) (h2:Sub v2 u2):fnQ ty rs (fun r H'=>r=.ret (.tuple [u1,u2])∧H'=[]) x T H:=
 fnQ_ret (vs:=[v1,v2]) k hx (by rw[hr];exact .tmp hl1 (.tmp hl2 .nil)) (Sub.tuple2 h1 h2) ⟨rfl,hd⟩
theorem fnQ_p3 {rs:List ResultVar} {x:AX} {t1 t2 t3:Nat} {v1 v2 v3 u1 u2 u3:AV} (k:Nat) (hx:isRet x=true) (hr:rs=[.tmp t1,.tmp t2,.tmp t3]) (hl1:lk T t1=some v1) (hl2:lk T t2=some v2)
  (hl3:lk T t3=some v3) (hd:H.drop k=[]) (h1:Sub v1 u1) (h2:Sub v2 u2) (h3:Sub v3 u3):fnQ ty rs (fun r H'=>r=.ret (.tuple [u1,u2,u3])∧H'=[]) x T H:=
 fnQ_ret (vs:=[v1,v2,v3]) k hx (by rw[hr];exact .tmp hl1 (.tmp hl2 (.tmp hl3 .nil))) (Sub.tuple3 h1 h2 h3) ⟨rfl,hd⟩
theorem fnQ_c1 {rs:List ResultVar} {x:AX} {a t b off:Nat} {ty0:TypeId} {w u v:AV} {ti:TyI} {p:Prop} (k i:Nat) (hx:isRet x=true) (hr:rs=[.cell a t]) (hl:lk T a=some (.ptr b off)) (ht:ty t=some ti)
  (hi:H[i]?=some (.box b ty0 w)) (hv:boxAt ti w off=some (p,v)) (hd:H.drop k=[]) (hp:p) (hs:Sub v u):
  fnQ ty rs (fun r H'=>r=.ret u∧H'=[]) x T H:=fnQ_ret (vs:=[v]) k hx (by rw[hr];exact .cell hl ht (List.mem_of_getElem? hi) hv hp .nil) hs ⟨rfl,hd⟩
theorem thenQ_normal {K:Tmps→AHeap→Prop} (h:K T H):thenQ K Q .normal T H:=h
theorem thenQ_ret {K:Tmps→AHeap→Prop} (h:Q .ret T H):thenQ K Q .ret T H:=h
theorem thenQ_exit {K:Tmps→AHeap→Prop} {j:Nat} (h:Q (.exit j) T H):thenQ K Q (.exit j) T H:=h
theorem thenQ_panic {K:Tmps→AHeap→Prop} {v:AV} (h:Q (.panic v) T H):thenQ K Q (.panic v) T H:=h
theorem blockQ_normal {id:Nat} (h:Q .normal T H):blockQ id Q .normal T H:=h
theorem blockQ_ret {id:Nat} (h:Q .ret T H):blockQ id Q .ret T H:=h
theorem blockQ_panic {id:Nat} {v:AV} (h:Q (.panic v) T H):blockQ id Q (.panic v) T H:=h
theorem blockQ_hit {id:Nat} (h:Q .normal T H):blockQ id Q (.exit id) T H:=by simp only[blockQ,if_true];exact h
theorem blockQ_miss {id j:Nat} (hj:Nat.beq j id=false) (h:Q (.exit j) T H):blockQ id Q (.exit j) T H:=by
 have:j≠id:=fun e=>by rw[e,Nat.beq_refl]at hj;cases hj
 simp only[blockQ,if_neg this]
 exact h
theorem tr_id {l:List (Nat×Oper)} (h:TR P N ty l0 LD W Q l T H):TR P N ty l0 LD W Q l T H:=h
theorem tr_guarded {g:Nat×Bool} (_hg:o.guard=some g) (h:TR P N ty l0 LD W Q ((n,o)::l) T H):TR P N ty l0 LD W Q ((n,o)::l) T H:=h
end
end Go.Ab
