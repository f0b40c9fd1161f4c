/-
  Owned memory is lent to a piece of code that only reads it: there it stands still; behind it, it is owned as before.
-/
import Derived.Test.YtcbdfmmiigpddaaDoorAb41
namespace Go.Ab
def Imp (v1 v:AV):Prop:=∀st w c,Rep st w v1 c→∀st' w',Rep st' w' v c
def Det (v:AV):Prop:=∀st w c st' w' c',Rep st w v c→Rep st' w' v c'→c=c'
theorem Imp.flat {v:AV} (h:Flat v):Imp v v:=fun st w c hc st' w'=>h st w st' w' c hc
theorem Imp.int (k:IntKind) (n:Int):Imp (.int k n) (.int k n):=.flat (.int k n)
theorem Imp.bool (b:Bool):Imp (.bool b) (.bool b):=.flat (.bool b)
theorem Imp.str (s:List UInt8):Imp (.str s) (.str s):=.flat (.str s)
theorem Imp.ptr (b off:Nat):Imp (.ptr b off) (.ptr b off):=fun st w c hc st' w'=>by cases hc;exact .ptr b off
theorem Imp.mslice {sz n:Nat} {el:Nat→List AV} {b off cap:Nat}:Imp (.slice sz n el (.own (some ⟨b,off,none⟩) cap)) (.mslice b off n cap):=fun st w c hc st' w'=>by
 cases hc with
 |slice _ _ _ _ a cap' b' off' C _ _ _ _ _ hown _=>
  obtain⟨rfl,rfl⟩:a=some ⟨b,off,none⟩∧cap'=cap:=hown
  exact .mslice b off n _
theorem Imp.conc {sz n:Nat} {el:Nat→List AV} {a:Option Addr} {cap:Nat}:Imp (.slice sz n el (.own a cap)) (.conc (.slice a n cap)):=fun st w c hc st' w'=>by
 cases hc with
 |slice _ _ _ _ a' cap' b' off' C _ _ _ _ _ hown _=>
  obtain⟨rfl,rfl⟩:a'=a∧cap'=cap:=hown
  exact .conc _
theorem Imp.agg {vs vs':List AV} (hl:vs'.length=vs.length) (h:∀(j:Nat) (v v':AV),vs[j]?=some v→vs'[j]?=some v'→Imp v v'):Imp (.agg vs) (.agg vs'):=by
 intro st w c hc st' w'
 cases hc with
 |agg _ cs hl2 hr=>
  refine .agg _ _ (by omega) fun j v' x hv' hx=>?_
  have hj:j<vs.length:=by rw[←hl];exact(List.getElem?_eq_some_iff.1 hv').1
  exact h j _ v' (List.getElem?_eq_getElem hj) hv' st w _ (hr j _ x (List.getElem?_eq_getElem hj) hx) st' w'
theorem Imp.msl (b off n cap:Nat):Imp (.mslice b off n cap) (.mslice b off n cap):=fun st w c hc st' w'=>by cases hc;exact .mslice b off n cap
structure ImpL (vs vs':List AV):Prop where
 len:vs'.length=vs.length
 at':∀(j:Nat) (v v':AV),vs[j]?=some v→vs'[j]?=some v'→Imp v v'
theorem ImpL.nil:ImpL [] []:=⟨rfl,fun j v v' h=>by cases h⟩
theorem ImpL.cons {v v':AV} {vs vs':List AV} (h:Imp v v') (k:ImpL vs vs'):ImpL (v::vs) (v'::vs'):=
 ⟨by simp[k.len],fun j a b ha hb=>by
   cases j with
   |zero=>simp at ha hb;subst ha;subst hb;exact h
   |succ j=>exact k.at' j a b (by simpa using ha) (by simpa using hb)⟩
theorem ImpL.agg {vs vs':List AV} (h:ImpL vs vs'):Imp (.agg vs) (.agg vs'):=.agg h.len h.at'
theorem Det.own {sz n:Nat} {el:Nat→List AV} {a:Option Addr} {cap:Nat}:Det (.slice sz n el (.own a cap)):=fun st w c st' w' c' h h'=>by
 have e:∀{st w c},Rep st w (.slice sz n el (.own a cap)) c→c=.slice a n cap:=fun h=>by
  cases h with
  |slice _ _ _ _ a' cap' b' off' C _ _ _ _ _ hown _=>
   obtain⟨rfl,rfl⟩:a'=a∧cap'=cap:=hown
   rfl
 exact(e h).trans (e h').symm
theorem Det.int (k:IntKind) (n:Int):Det (.int k n):=fun _ _ _ _ _ _ h h'=>h.int_eq.trans h'.int_eq.symm
theorem Det.str (s:List UInt8):Det (.str s):=fun _ _ _ _ _ _ h h'=>by cases h;cases h';rfl
theorem Det.agg {vs:List AV} (h:∀v∈vs,Det v):Det (.agg vs):=fun st w c st' w' c' hc hc'=>by
 cases hc with
 |agg _ cs hl hr=>
  cases hc' with
  |agg _ cs' hl' hr'=>
   have e:cs=cs':=List.ext_getElem (by omega) fun j h1 h2=>h _ (List.getElem_mem (by omega)) _ _ _ _ _ _ (hr j _ _ (List.getElem?_eq_getElem (by omega)) (List.getElem?_eq_getElem h1)) (hr' j _ _ (List.getElem?_eq_getElem (by omega)) (List.getElem?_eq_getElem h2))
   rw[e]
inductive LendE (M:Mem):Ent→Ent→Prop
 |mem (M':Mem):LendE M (memE M') (memE M')
 |box {b:Nat} {t:TypeId} {v v1:AV} (h:SubM M v v1) (k:Imp v1 v):LendE M (.box b t v) (.box b t v1)
 |det {b:Nat} {t:TypeId} {v:AV} (h:Det v):LendE M (.box b t v) (.box b t v)
inductive LendH (M:Mem):AHeap→AHeap→Prop
 |nil:LendH M [] []
 |cons {e e1:Ent} {G G1:AHeap} (h:LendE M e e1) (k:LendH M G G1):LendH M (e::G) (e1::G1)
theorem LendE.owns {M:Mem} {e e1:Ent} (h:LendE M e e1) (k:Nat):e1.owns k↔e.owns k:=by cases h<;>exact Iff.rfl
theorem LendH.mem1 {M:Mem} {G G1:AHeap} (h:LendH M G G1):∀e1∈G1,∃e∈G,LendE M e e1:=by
 induction h with
 |nil=>intro e1 he;cases he
 |cons h _ ih=>
  intro e1 he
  rcases List.mem_cons.1 he with rfl|he
  ·exact⟨_,by simp,h⟩
  ·obtain⟨e,h1,h2⟩:=ih e1 he
   exact⟨e,by simp[h1],h2⟩
theorem LendH.mem0 {M:Mem} {G G1:AHeap} (h:LendH M G G1):∀e∈G,∃e1∈G1,LendE M e e1:=by
 induction h with
 |nil=>intro e1 he;cases he
 |cons h _ ih=>
  intro e1 he
  rcases List.mem_cons.1 he with rfl|he
  ·exact⟨_,by simp,h⟩
  ·obtain⟨e,h1,h2⟩:=ih e1 he
   exact⟨e,by simp[h1],h2⟩
theorem LendH.owns {M:Mem} {G G1:AHeap} (h:LendH M G G1) (k:Nat):AHeap.owns G1 k↔AHeap.owns G k:=by
 constructor
 ·rintro⟨e1,h1,h2⟩
  obtain⟨e,h3,h4⟩:=h.mem1 e1 h1
  exact⟨e,h3,(h4.owns k).1 h2⟩
 ·rintro⟨e1,h1,h2⟩
  obtain⟨e,h3,h4⟩:=h.mem0 e1 h1
  exact⟨e,h3,(h4.owns k).2 h2⟩
theorem LendH.sep {M:Mem} {G G1:AHeap} (h:LendH M G G1) (k:G.Pairwise fun e e'=>∀k,e.owns k→¬e'.owns k):G1.Pairwise fun e e'=>∀k,e.owns k→¬e'.owns k:=by
 induction h with
 |nil=>exact .nil
 |cons h hk ih=>
  rw[List.pairwise_cons]at k ⊢
  refine⟨fun e' he' b hb hb'=>?_,ih k.2⟩
  obtain⟨e,h3,h4⟩:=hk.mem1 e' he'
  exact k.1 e h3 b ((h.owns b).1 hb) ((h4.owns b).1 hb')
theorem LendE.to {M:Mem} {e e1:Ent} (h:LendE M e e1) {st:Stab} {w:World} (hh:heldM M st w) (he:e.holds st w):e1.holds st w:=by
 cases h with
 |mem M'=>exact he
 |box h k=>
  obtain⟨arr,cv,h1,h2,h3⟩:=he
  exact⟨arr,cv,h1,h st w hh cv h2,h3⟩
 |det h=>exact he
theorem LendE.back {M:Mem} {e e1:Ent} (h:LendE M e e1) {st0 st:Stab} {w0 w:World} (hs:∀b o,st0 b o→st b o) (kc:Keeps st0 st0 w0 w) (h0:e.holds st0 w0) (he:e1.holds st w):e.holds st0 w:=by
 cases h with
 |mem M'=>
  obtain⟨h1,h2,h3⟩:=he
  exact⟨fun b o hb ho=>h1 b o hb (hs b o ho),h2,h3⟩
 |box h k=>
  obtain⟨arr,cv,h1,h2,h3,h4,h5⟩:=he
  exact⟨arr,cv,h1,k _ _ _ h2 _ _,h3,h4,fun o ho=>h5 o (hs _ o ho)⟩
 |det h=>
  obtain⟨arr,cv,h1,h2,h3,h4,h5⟩:=he
  obtain⟨_,cv0,_,g2,_⟩:=h0
  refine⟨arr,cv,h1,?_,h3,h4,fun o ho=>h5 o (hs _ o ho)⟩
  rw[h _ _ _ _ _ _ h2 g2]
  exact g2.mono kc
section
variable {P:Program} {N:Nat} {Q:APost}
def Back (T T' T2:Tmps):Prop:=∀t v,lk T2 t=some v→∃v1,lk T' t=some v1∧(Imp v1 v∨(v1=v∧lk T t=some v∧Det v))
theorem Back.nil {T T':Tmps}:Back T T' []:=fun t v h=>by simp[lk]at h
theorem Back.cons {T T' T2:Tmps} {t:Nat} {v v1:AV} (h1:lk T' t=some v1) (h:Imp v1 v∨(v1=v∧lk T t=some v∧Det v)) (k:Back T T' T2):Back T T' ((t,v)::T2):=by
 intro t' v' hv
 by_cases e:t=t'
 ·subst e
  simp[lk]at hv
  subst hv
  exact⟨v1,h1,h⟩
 ·have hb:Nat.beq t t'=false:=beq_ne e
  simp[lk,hb]at hv
  exact k t' v' hv
theorem awp_pick {c:Code} {T:Tmps} {H G:AHeap} {e:Ent} (h:Pick H e G) (k:AWP P N c T (e::G) Q):AWP P N c T H Q:=awp_perm h.perm k
theorem awp_own {c:Code} {T:Tmps} {H:AHeap} {t sz n:Nat} {el:Nat→List AV} {ow:Own} (hl:lk T t=some (.slice sz n el ow)) (h:∀a cap,AWP P N c ((t,.slice sz n el (.own a cap))::T) H Q):AWP P N c T H Q:=by
 intro E st w ac r B h1 h2 h3
 obtain⟨cv,hcv,hr⟩:=h2.val t _ hl
 cases hr with
 |slice _ _ _ _ a cap b off cf hn hbase hlen hcell hrep hown hone=>
  refine h a cap E st w ac r B h1 ⟨h2.size,fun t' v' ht'=>?_⟩ h3
  by_cases he:t=t'
  ·subst he
   simp[lk]at ht'
   subst ht'
   exact⟨_,hcv,.slice _ _ _ _ a cap b off cf hn hbase hlen hcell hrep ⟨rfl,rfl⟩ hone⟩
  ·simp only[lk,beq_ne he,cond_false]at ht'
   exact h2.val t' v' ht'
def LendT (M:Mem) (T T1:Tmps):Prop:=∀t v1,lk T1 t=some v1→∃v,lk T t=some v∧SubM M v v1
theorem LendT.nil {M:Mem} {T:Tmps}:LendT M T []:=fun t v h=>by simp[lk]at h
theorem LendT.cons {M:Mem} {T T1:Tmps} {t:Nat} {v v1:AV} (h1:lk T t=some v) (h:SubM M v v1) (k:LendT M T T1):LendT M T ((t,v1)::T1):=by
 intro t' v' hv
 by_cases e:t=t'
 ·subst e
  simp[lk]at hv
  subst hv
  exact⟨v,h1,h⟩
 ·have hb:Nat.beq t t'=false:=beq_ne e
  simp[lk,hb]at hv
  exact k t' v' hv
theorem awp_lendW {c:Code} {T T1 T2:Tmps} {G G1:AHeap} {M:Mem} {Qu:APost} (hT:LendT M T T1) (hG:LendH M G G1) (h:AWP P N c T1 G1 Qu)
  (hQ:∀x T' H',Qu x T' H'→x=.normal∧H'=G1∧Back T T' T2) (k:Q .normal T2 (memE M::G)):AWP P N c T (memE M::G) Q:=by
 intro E st0 w0 a r B hc hf hd
 obtain⟨st1,c1,k1,hh⟩:=Conc.freezeW (G1:=[]) (G2:=G) hc
 simp only[List.nil_append]at c1
 have c2:Conc E st1 G1 w0:=⟨c1.os,c1.tape,c1.output,c1.size,c1.old,c1.keep,c1.stle,c1.stnew,c1.stlt,fun b hb=>c1.ownnew b ((hG.owns b).1 hb),fun b hb=>c1.ownlt b ((hG.owns b).1 hb),fun e1 he1=>by
  obtain⟨e,h3,h4⟩:=hG.mem1 e1 he1
  exact h4.to hh (c1.ents e h3),hG.sep c1.sep,c1.fz⟩
 have f1:FR N st1 w0 T1 a:=⟨hf.size,fun t v1 ht=>by
  obtain⟨v,g1,g2⟩:=hT t v1 ht
  obtain⟨x,g3,g4⟩:=hf.val t v g1
  exact⟨x,g3,g2 st1 w0 hh x (g4.mono k1)⟩⟩
 have d1:Fr r B G1 w0 a.defers:=hd.sub fun b hb=>by
  obtain⟨e,h3,h4⟩:=(hG.owns b).1 hb
  exact⟨e,by simp[h3],h4⟩
 refine wpIn_mono (h (Env0.of w0 st1 G1) st1 w0 a r B c2.start f1 d1) fun e a' w' hp=>?_
 have fin:∀st2 T' H' x,Conc (Env0.of w0 st1 G1) st2 H' w'→FR N st2 w' T' a'→Fr r B H' w' a'.defers→XR st2 w' e x→Qu x T' H'→Post E N r B Q e a' w':=by
  intro st2 T' H' x e1 e2 e3 e4 e5
  obtain⟨rfl,rfl,hb⟩:=hQ x T' H' e5
  have s02:∀b o,st0 b o→st2 b o:=fun b o hs=>e1.stle b o (k1.sub b o hs)
  have kc:Keeps st0 st0 w0 w':=⟨fun _ _ h=>h,fun b o hs=>e1.keep b o (k1.sub b o hs)⟩
  have ow:∀b,AHeap.owns (memE M::G) b→memOwn M b∨AHeap.owns H' b:=by
   rintro b ⟨e,he,hb⟩
   rcases List.mem_cons.1 he with rfl|he
   ·exact .inl hb
   ·exact .inr ((hG.owns b).2 ⟨e,he,hb⟩)
  have wo:∀b,AHeap.owns H' b→AHeap.owns (memE M::G) b:=fun b hb=>by
   obtain⟨e,h3,h4⟩:=(hG.owns b).1 hb
   exact⟨e,by simp[h3],h4⟩
  have hsep:=List.pairwise_cons.1 hc.sep
  have mo:∀b,memOwn M b→¬AHeap.owns H' b:=fun b hb hb'=>by
   obtain⟨e,h3,h4⟩:=(hG.owns b).1 hb'
   exact hsep.1 e h3 b hb h4
  have mb:∀b,memOwn M b→w'.heap[b]?=w0.heap[b]?:=fun b hb=>e1.old b (hc.ownlt b ⟨memE M,by simp,hb⟩) (mo b hb)
  obtain⟨m1,m2,m3⟩:=hc.ents (memE M) (by simp)
  have hconc:Conc E st0 (memE M::G) w':=by
   refine⟨e1.os.trans hc.os,e1.tape.trans hc.tape,e1.output.trans hc.output,Nat.le_trans hc.size e1.size,fun b hb hO=>?_,fun b o hs=>(kc.cell b o (hc.stle b o hs)).trans (hc.keep b o hs),hc.stle,hc.stnew,fun b o hs=>Nat.lt_of_lt_of_le (hc.stlt b o hs) e1.size,hc.ownnew,fun b hb=>Nat.lt_of_lt_of_le (hc.ownlt b hb) e1.size,fun e he=>?_,hc.sep,fun b o hs hk=>e1.fz b o (s02 b o hs) fun _=>hc.fz b o hs hk⟩
   ·refine(e1.old b (Nat.lt_of_lt_of_le hb hc.size) fun ho=>?_).trans (hc.old b hb hO)
    rcases hc.ownnew b (wo b ho)with y|y
    ·exact hO y
    ·omega
   ·rcases List.mem_cons.1 he with rfl|he
    ·exact⟨m1,m2,m2 _ _ mb m3⟩
    ·obtain⟨e',h3,h4⟩:=hG.mem0 e he
     exact h4.back s02 kc (hc.ents e (by simp[he])) (e1.ents e' h3)
  have hfr:FR N st0 w' T2 a':=⟨e2.size,fun t v ht=>by
   obtain⟨v1,g1,g2⟩:=hb t v ht
   obtain⟨x,g3,g4⟩:=e2.val t v1 g1
   refine⟨x,g3,?_⟩
   rcases g2 with g2|⟨rfl,g5,g6⟩
   ·exact g2 _ _ _ g4 _ _
   ·obtain⟨y,g7,g8⟩:=hf.val t v1 g5
    rw[g6 _ _ _ _ _ _ g4 g8]
    exact g8.mono kc⟩
  have hcell:∀b,memOwn M b→∃c t,w'.heap[b]?=some (.cells c t (0,0)):=fun b hb=>by
   obtain⟨o,x,hx⟩:=hb
   obtain⟨⟨c,t,h0⟩,-⟩:=m3 b o x hx
   exact⟨c,t,(mb b ⟨o,x,hx⟩).trans h0⟩
  have hdd:Fr r B (memE M::G) w' a'.defers:=by
   obtain⟨ms,q1,q2⟩:=e3
   refine⟨ms,q1,⟨fun d hd'=>?_,q2.nodup,q2.size,fun l hl=>?_,fun g hg=>?_⟩⟩
   ·obtain⟨b,r1,r2,r3,r4⟩:=q2.marks d hd'
    refine⟨b,r1,r2,fun ho=>?_,r4⟩
    rcases ow b ho with y|y
    ·obtain⟨c,t,y⟩:=hcell b y
     rw[r2]at y
     cases y
    ·exact r3 y
   ·obtain⟨⟨R,r1⟩,r2⟩:=q2.lrec l hl
    refine⟨⟨R,r1⟩,fun ho=>?_⟩
    rcases ow l ho with y|y
    ·obtain⟨c,t,y⟩:=hcell l y
     rw[r1]at y
     cases y
    ·exact r2 y
   ·exact⟨(hd.gl g hg).1,(q2.gl g hg).2⟩
  cases e<;>first|exact e4.elim|exact Post.mk hconc hfr hdd (x:=.normal) e4 k
 cases e with
 |outgrown=>exact hp.elim
 |_=>
  obtain⟨st2,T',H',x,e1,e2,e3,e4,e5⟩:=hp
  exact fin st2 T' H' x e1 e2 e3 e4 e5
end
end Go.Ab
