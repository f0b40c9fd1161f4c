/-
  Plain law of layer 22: what is met first in statements; the points.
-/
import Derived.Test.YthfglhjdnpoepaaGreatDoorSi
import Derived.Test.YthfglhjdnpoepaaGreatDoorFz
import Derived.Test.YthfglhjdnpoepaaGreatDoorAbC
import Derived.Test.YthfglhjdnpoepaaGreatDoorFgM
set_option maxRecDepth 100000
set_option maxHeartbeats 6400000
namespace Go.Proofs.YthfglhjdnpoepaaGreatDoor
open Go.Ab
structure LkR where
 e:Int
 ln:Int
 co:Int
 ns:List (List UInt8)
def LkR.meet (s:LkR) (b:Bool) (e ln co:Int):LkR:=match b&&decide (s.e=0)with
 |true=>⟨e,ln,co,s.ns⟩
 |false=>s
theorem meet_dead {s:LkR} (h:s.e≠0) (b:Bool) (e ln co:Int):s.meet b e ln co=s:=by
 unfold LkR.meet
 rw[decide_eq_false h,Bool.and_false]
theorem meet_false (s:LkR) (e ln co:Int):s.meet false e ln co=s:=rfl
theorem meet_true {s:LkR} (h:s.e=0) (e ln co:Int):s.meet true e ln co=⟨e,ln,co,s.ns⟩:=by
 unfold LkR.meet
 rw[decide_eq_true h]
 rfl
theorem meet_ns (s:LkR) (b:Bool) (e ln co:Int):(s.meet b e ln co).ns=s.ns:=by
 unfold LkR.meet
 split<;>rfl
theorem meet_zero {s:LkR} {b:Bool} {e ln co:Int} (he:e≠0) (h:(s.meet b e ln co).e=0):s.e=0∧b=false:=by
 unfold LkR.meet at h
 split at h
 ·exact absurd h he
 ·rename_i hb
  refine⟨h,?_⟩
  rw[decide_eq_true h,Bool.and_true]at hb
  exact hb
def LkR.fresh (s:LkR) (t:TokI):LkR:=(s.meet (s.ns.contains t.w) 6 t.ln t.co).meet (decide (40≤(s.ns.length:Int))) 13 t.ln t.co
def LkR.add (s:LkR) (t:TokI):LkR:=match decide (s.e=0)with
 |true=>{s with ns:=s.ns++[t.w]}
 |false=>s
theorem fresh_ns (s:LkR) (t:TokI):(s.fresh t).ns=s.ns:=by
 unfold LkR.fresh
 rw[meet_ns,meet_ns]
theorem fresh_dead {s:LkR} (h:s.e≠0) (t:TokI):s.fresh t=s:=by
 unfold LkR.fresh
 rw[meet_dead h,meet_dead h]
theorem fresh_zero {s:LkR} {t:TokI} (h:(s.fresh t).e=0):s.e=0∧s.ns.contains t.w=false∧s.ns.length<40:=by
 unfold LkR.fresh at h
 obtain⟨h1,h2⟩:=meet_zero (by decide) h
 obtain⟨h3,h4⟩:=meet_zero (by decide) h1
 exact⟨h3,h4,by have:=of_decide_eq_false h2;omega⟩
theorem add_dead {s:LkR} (h:s.e≠0) (t:TokI):s.add t=s:=by
 unfold LkR.add
 rw[decide_eq_false h]
theorem add_live {s:LkR} (h:s.e=0) (t:TokI):s.add t={s with ns:=s.ns++[t.w]}:=by
 unfold LkR.add
 rw[decide_eq_true h]
theorem add_e (s:LkR) (t:TokI):(s.add t).e=s.e:=by
 unfold LkR.add
 split<;>rfl
def alike (A:List TokI) (i:Nat) (w:List UInt8) (u:Int×Int):Bool:=decide (u.2=(i:Int))&&((A.getD u.1.toNat default).w==w)
def numM (f:FigR) (i:Nat) (t:TokI) (s:LkR):LkR:=(s.meet (decide (t.k≠3)) 14 t.ln t.co).meet (decide ((i:Int)=f.pts+f.nums-1)&&decide (t.n=0)) 4 t.ln t.co
def ptM (f:FigR) (A:List TokI) (i:Nat) (t:TokI) (s:LkR):LkR:=((s.meet (decide (t.k≠1)) 14 t.ln t.co).meet (!s.ns.contains t.w) 5 t.ln t.co).meet (f.unl.any (alike A i t.w)) 15 t.ln t.co
def argsG (f:FigR) (A:List TokI) (el ec:Int):Nat→List TokI→LkR→LkR
 |_,[],s=>s.meet (decide ((A.length:Int)<f.pts+f.nums)) 13 el ec
 |i,t::l,s=>if f.pts+f.nums≤(i:Int) then s.meet true 13 t.ln t.co
  else if f.pts≤(i:Int) then argsG f A el ec (i+1) l (numM f i t s)
  else argsG f A el ec (i+1) l (ptM f A i t s)
def argsF (f:FigR) (x:StI) (s:LkR):LkR:=argsG f x.args x.l2 x.c2 0 x.args s
theorem numM_ns (f:FigR) (i:Nat) (t:TokI) (s:LkR):(numM f i t s).ns=s.ns:=by
 unfold numM
 rw[meet_ns,meet_ns]
theorem ptM_ns (f:FigR) (A:List TokI) (i:Nat) (t:TokI) (s:LkR):(ptM f A i t s).ns=s.ns:=by
 unfold ptM
 rw[meet_ns,meet_ns,meet_ns]
theorem numM_dead {f:FigR} {i:Nat} {t:TokI} {s:LkR} (h:s.e≠0):numM f i t s=s:=by
 unfold numM
 rw[meet_dead h,meet_dead h]
theorem ptM_dead {f:FigR} {A:List TokI} {i:Nat} {t:TokI} {s:LkR} (h:s.e≠0):ptM f A i t s=s:=by
 unfold ptM
 rw[meet_dead h,meet_dead h,meet_dead h]
theorem argsG_ns (f:FigR) (A:List TokI) (el ec:Int):∀(l:List TokI) (i:Nat) (s:LkR),(argsG f A el ec i l s).ns=s.ns
 |[],_,_=>meet_ns ..
 |t::l,i,s=>by
  unfold argsG
  split
  ·exact meet_ns ..
  split
  ·rw[argsG_ns f A el ec l,numM_ns]
  ·rw[argsG_ns f A el ec l,ptM_ns]
theorem argsG_dead (f:FigR) (A:List TokI) (el ec:Int):∀(l:List TokI) (i:Nat) {s:LkR},s.e≠0→argsG f A el ec i l s=s
 |[],_,_,h=>meet_dead h ..
 |t::l,i,s,h=>by
  unfold argsG
  rw[meet_dead h,numM_dead h,ptM_dead h,argsG_dead f A el ec l (i+1) h]
  split
  ·rfl
  split<;>rfl
theorem argsG_zero {f:FigR} {A:List TokI} {el ec:Int} {l:List TokI} {i:Nat} {s:LkR} (h:(argsG f A el ec i l s).e=0):s.e=0:=by
 by_cases hs:s.e=0
 ·exact hs
 ·rw[argsG_dead f A el ec l i hs]at h;exact h
def ptsG:List TokI→LkR→LkR
 |[],s=>s
 |t::l,s=>ptsG l ((s.fresh t).add t)
noncomputable def stmtG (x:StI) (s:LkR):LkR:=
 if x.k=3 then ptsG x.args (s.meet (decide (x.args.length=0)) 13 x.l2 x.c2)
 else if x.k=4 then(argsF (fig0 (conF x.word.w)) x ((s.fresh x.new).meet (conF x.word.w).isNone 5 x.word.ln x.word.co)).add x.new
 else if x.k=5 then argsF (fig0 (preF x.word.w)) x (s.meet (preF x.word.w).isNone 5 x.word.ln x.word.co)
 else s
theorem ptsG_dead:∀(l:List TokI) {s:LkR},s.e≠0→ptsG l s=s
 |[],_,_=>rfl
 |t::l,s,h=>by
  unfold ptsG
  rw[fresh_dead h,add_dead h,ptsG_dead l h]
theorem stmtG_dead (x:StI) {s:LkR} (h:s.e≠0):stmtG x s=s:=by
 unfold stmtG argsF
 split
 ·rw[meet_dead h,ptsG_dead _ h]
 split
 ·rw[fresh_dead h,meet_dead h,argsG_dead _ _ _ _ _ _ h,add_dead h]
 split
 ·rw[meet_dead h,argsG_dead _ _ _ _ _ _ h]
 ·rfl
theorem freshAdd_len {s:LkR} (t:TokI) (h:s.ns.length≤40):((s.fresh t).add t).ns.length≤40:=by
 by_cases he:(s.fresh t).e=0
 ·rw[add_live he]
  have:=fresh_zero he
  simp only[List.length_append,List.length_cons,List.length_nil,fresh_ns]
  omega
 ·rw[add_dead he,fresh_ns]
  exact h
theorem ptsG_len:∀(l:List TokI) {s:LkR},s.ns.length≤40→(ptsG l s).ns.length≤40
 |[],_,h=>h
 |t::l,_,h=>ptsG_len l (freshAdd_len t h)
theorem make_zero {f:FigR} {x:StI} {b:Bool} {l c:Int} {s:LkR} (h:(argsF f x ((s.fresh x.new).meet b 5 l c)).e=0):s.e=0∧s.ns.contains x.new.w=false∧s.ns.length<40:=
 fresh_zero (meet_zero (by decide) (argsG_zero h)).1
theorem make_ns (f:FigR) (x:StI) (b:Bool) (l c:Int) (s:LkR):(argsF f x ((s.fresh x.new).meet b 5 l c)).ns=s.ns:=by
 unfold argsF
 rw[argsG_ns,meet_ns,fresh_ns]
theorem stmtG_len (x:StI) {s:LkR} (h:s.ns.length≤40):(stmtG x s).ns.length≤40:=by
 unfold stmtG
 split
 ·exact ptsG_len _ (by rw[meet_ns];exact h)
 split
 ·by_cases he:(argsF (fig0 (conF x.word.w)) x ((s.fresh x.new).meet (conF x.word.w).isNone 5 x.word.ln x.word.co)).e=0
  ·have:=make_zero he
   rw[add_live he]
   simp only[List.length_append,List.length_cons,List.length_nil,make_ns]
   omega
  ·rw[add_dead he,make_ns]
   exact h
 split
 ·unfold argsF
  rw[argsG_ns,meet_ns]
  exact h
 ·exact h
def limB (l:List TokI):Bool:=match l with
 |[a,b,c,d]=>decide (0≤a.n∧a.n≤1000000)&&(decide (0≤b.n∧b.n≤10000)&&(decide (0≤c.n∧c.n≤100000)&&decide (0≤d.n∧d.n≤1000)))
 |_=>false
def wSimple:List UInt8:=[115,105,109,112,108,101]
def wFull:List UInt8:=[102,117,108,108]
def placeB (n i:Nat) (x:StI):Bool:=
 if i=0 then decide (x.k=1)&&limB x.args
 else if i=1 then decide (x.k=2)&&(x.word.w==wSimple || x.word.w==wFull)
 else if i+1=n then decide (x.k=5)
 else decide (x.k=3) || decide (x.k=4)
noncomputable def lookG (n:Nat):Nat→List StI→LkR→LkR
 |_,[],s=>s
 |i,x::l,s=>lookG n (i+1) l (stmtG x (s.meet (!placeB n i x) 4 x.l1 x.c1))
def shortAt (l:List StI):Int×Int:=match l.getLast? with
 |none=>(1,1)
 |some x=>(x.l2,x.c2)
noncomputable def lookF (l:List StI):LkR:=lookG l.length 0 l (LkR.meet ⟨0,0,0,[]⟩ (decide (l.length<3)) 4 (shortAt l).1 (shortAt l).2)
theorem lookG_dead (n:Nat):∀(l:List StI) (i:Nat) {s:LkR},s.e≠0→lookG n i l s=s
 |[],_,_,_=>rfl
 |x::l,i,s,h=>by
  unfold lookG
  rw[meet_dead h,stmtG_dead x h,lookG_dead n l (i+1) h]
theorem lookG_zero {n:Nat} {l:List StI} {i:Nat} {s:LkR} (h:(lookG n i l s).e=0):s.e=0:=by
 by_cases hs:s.e=0
 ·exact hs
 ·rw[lookG_dead n l i hs]at h;exact h
end Go.Proofs.YthfglhjdnpoepaaGreatDoor
namespace Go.Proofs.YthfglhjdnpoepaaGreatDoor
open Go.Ab
theorem meet_id {s:LkR} {b:Bool} {e ln co:Int} (he:e≠0) (h:(s.meet b e ln co).e=0):s.meet b e ln co=s:=by
 obtain⟨_,rfl⟩:=meet_zero he h
 rfl
theorem numM_id {f:FigR} {i:Nat} {t:TokI} {s:LkR} (h:(numM f i t s).e=0):numM f i t s=s∧t.k=3:=by
 unfold numM at h ⊢
 have h1:=(meet_zero (by decide) h).1
 have h2:=(meet_zero (by decide) h1).2
 rw[meet_id (by decide) h,meet_id (by decide) h1]
 exact⟨rfl,by simpa using h2⟩
theorem ptM_id {f:FigR} {A:List TokI} {i:Nat} {t:TokI} {s:LkR} (h:(ptM f A i t s).e=0):ptM f A i t s=s∧t.k=1∧s.ns.contains t.w=true:=by
 unfold ptM at h ⊢
 have h1:=(meet_zero (by decide) h).1
 have h2:=(meet_zero (by decide) h1).1
 have h3:=(meet_zero (by decide) h1).2
 have h4:=(meet_zero (by decide) h2).2
 rw[meet_id (by decide) h,meet_id (by decide) h1,meet_id (by decide) h2]
 exact⟨rfl,by simpa using h4,by simpa using h3⟩
theorem argsG_id {f:FigR} {A:List TokI} {el ec:Int}:∀{l:List TokI} {i:Nat} {s:LkR},(argsG f A el ec i l s).e=0→
  argsG f A el ec i l s=s∧∀t∈l,t.k=3∨(t.k=1∧s.ns.contains t.w=true)
 |[],_,_,h=>by
  unfold argsG at h ⊢
  exact⟨meet_id (by decide) h,by simp⟩
 |t::l,i,s,h=>by
  unfold argsG at h ⊢
  split at h
  ·have:=(meet_zero (by decide) h).2
   cases this
  rename_i h1
  rw[if_neg h1]
  split at h
  ·rename_i h2
   rw[if_pos h2]
   obtain⟨k1,k2⟩:=numM_id (argsG_zero h)
   rw[k1]at h ⊢
   obtain⟨k3,k4⟩:=argsG_id h
   refine⟨k3,fun u hu=>?_⟩
   rcases List.mem_cons.1 hu with rfl|hu
   ·exact .inl k2
   ·exact k4 u hu
  ·rename_i h2
   rw[if_neg h2]
   obtain⟨k1,k2⟩:=ptM_id (argsG_zero h)
   rw[k1]at h ⊢
   obtain⟨k3,k4⟩:=argsG_id h
   refine⟨k3,fun u hu=>?_⟩
   rcases List.mem_cons.1 hu with rfl|hu
   ·exact .inr k2
   ·exact k4 u hu
def namesOf (x:StI):List (List UInt8):=if x.k=3 then x.args.map (·.w) else if x.k=4 then [x.new.w] else []
def namesF (l:List StI):List (List UInt8):=l.flatMap namesOf
theorem fresh_id {s:LkR} {t:TokI} (h:(s.fresh t).e=0):s.fresh t=s:=by
 unfold LkR.fresh at h ⊢
 have h1:=(meet_zero (by decide) h).1
 rw[meet_id (by decide) h,meet_id (by decide) h1]
theorem ptsG_zero {l:List TokI} {s:LkR} (h:(ptsG l s).e=0):s.e=0:=by
 by_cases hs:s.e=0
 ·exact hs
 ·rw[ptsG_dead l hs]at h;exact h
theorem ptsG_id:∀{l:List TokI} {s:LkR},(ptsG l s).e=0→ptsG l s=⟨s.e,s.ln,s.co,s.ns++l.map (·.w)⟩∧(s.ns.Nodup→(s.ns++l.map (·.w)).Nodup)
 |[],s,_=>by simp[ptsG]
 |t::l,s,h=>by
  unfold ptsG at h ⊢
  have h1:=ptsG_zero h
  rw[add_e]at h1
  have h2:=fresh_zero h1
  rw[fresh_id h1,add_live h2.1]at h ⊢
  obtain⟨k1,k2⟩:=ptsG_id h
  simp only[List.append_assoc,List.cons_append,List.nil_append]at k1 k2
  refine⟨k1,fun hn=>?_⟩
  simp only[List.map_cons]
  refine k2 ?_
  rw[List.nodup_append]
  refine⟨hn,by simp,fun a ha b hb=>?_⟩
  simp only[List.mem_singleton]at hb
  subst hb
  rintro rfl
  have:=h2.2.1
  rw[List.contains_eq_mem,decide_eq_false_iff_not]at this
  exact this ha
theorem stmtG_zero {x:StI} {s:LkR} (h:(stmtG x s).e=0):s.e=0:=by
 by_cases hs:s.e=0
 ·exact hs
 ·rw[stmtG_dead x hs]at h;exact h
theorem stmtG_id {x:StI} {s:LkR} (h:(stmtG x s).e=0):stmtG x s=⟨s.e,s.ln,s.co,s.ns++namesOf x⟩∧(s.ns.Nodup→(s.ns++namesOf x).Nodup):=by
 unfold stmtG at h ⊢
 unfold namesOf
 split at h
 ·rename_i hk
  rw[if_pos hk,if_pos hk]
  have h1:=ptsG_zero h
  rw[meet_id (by decide) h1]at h ⊢
  exact ptsG_id h
 rename_i hk
 rw[if_neg hk,if_neg hk]
 split at h
 ·rename_i hk
  rw[if_pos hk,if_pos hk]
  rw[add_e]at h
  have h1:=make_zero h
  unfold argsF at h ⊢
  have h2:=argsG_id h
  have h3:=(meet_zero (by decide) (argsG_zero h)).1
  rw[h2.1,meet_id (by decide) (argsG_zero h),fresh_id h3,add_live h1.1]
  refine⟨rfl,fun hn=>?_⟩
  rw[List.nodup_append]
  refine⟨hn,by simp,fun a ha b hb=>?_⟩
  simp only[List.mem_singleton]at hb
  subst hb
  rintro rfl
  have:=h1.2.1
  rw[List.contains_eq_mem,decide_eq_false_iff_not]at this
  exact this ha
 rename_i hk
 rw[if_neg hk,if_neg hk]
 simp only[List.append_nil]
 split at h
 ·rename_i hk
  rw[if_pos hk]
  unfold argsF at h ⊢
  rw[(argsG_id h).1,meet_id (by decide) (argsG_zero h)]
  exact⟨rfl,id⟩
 ·rename_i hk
  rw[if_neg hk]
  exact⟨rfl,id⟩
theorem stmtG_args {x:StI} {s:LkR} (h:(stmtG x s).e=0) (hk:x.k=4∨x.k=5):∀t∈x.args,t.k=3∨(t.k=1∧s.ns.contains t.w=true):=by
 unfold stmtG argsF at h
 rcases hk with hk|hk
 ·rw[if_neg (by omega),if_pos hk,add_e]at h
  have:=(argsG_id h).2
  rw[meet_ns,fresh_ns]at this
  exact this
 ·rw[if_neg (by omega),if_neg (by omega),if_pos hk]at h
  have:=(argsG_id h).2
  rw[meet_ns]at this
  exact this
theorem namesF_append (a b:List StI):namesF (a++b)=namesF a++namesF b:=by simp[namesF]
theorem namesF_cons (x:StI) (l:List StI):namesF (x::l)=namesOf x++namesF l:=by simp[namesF]
theorem lookG_id {n:Nat}:∀{l:List StI} {i:Nat} {s:LkR},(lookG n i l s).e=0→lookG n i l s=⟨s.e,s.ln,s.co,s.ns++namesF l⟩∧(s.ns.Nodup→(s.ns++namesF l).Nodup)∧
  ∀j,(h:j<l.length)→placeB n (i+j) l[j]=true∧(stmtG l[j] ⟨s.e,s.ln,s.co,s.ns++namesF (l.take j)⟩).e=0
 |[],_,s,_=>by simp[lookG,namesF]
 |x::l,i,s,h=>by
  unfold lookG at h ⊢
  have h1:=lookG_zero h
  have h2:=stmtG_zero h1
  have h3:=(meet_zero (by decide) h2).2
  rw[meet_id (by decide) h2]at h h1 ⊢
  obtain⟨k1,k2⟩:=stmtG_id h1
  rw[k1]at h ⊢
  obtain⟨m1,m2,m3⟩:=lookG_id h
  simp only[List.append_assoc]at m1 m2 m3
  refine⟨by rw[m1,namesF_cons],fun hn=>?_,fun j hj=>?_⟩
  ·rw[namesF_cons]
   exact m2 (k2 hn)
  ·cases j with
   |zero=>
    refine⟨by simpa using h3,?_⟩
    simpa [namesF]using h1
   |succ j=>
    have:=m3 j (by simpa using hj)
    rw[show i+(j+1)=i+1+j by omega]
    refine⟨by simpa using this.1,?_⟩
    rw[List.take_succ_cons,namesF_cons]
    exact this.2
theorem lookF_id {l:List StI} (h:(lookF l).e=0):3≤l.length∧lookF l=⟨0,0,0,namesF l⟩∧(namesF l).Nodup∧(namesF l).length≤40∧
  ∀j,(hj:j<l.length)→placeB l.length j l[j]=true∧(stmtG l[j] ⟨0,0,0,namesF (l.take j)⟩).e=0:=by
 unfold lookF at h ⊢
 have h1:=lookG_zero h
 have h2:=(meet_zero (by decide) h1).2
 rw[meet_id (by decide) h1]at h ⊢
 obtain⟨k1,k2,k3⟩:=lookG_id h
 simp only[List.nil_append,Nat.zero_add]at k1 k2 k3
 have hlen:∀(l:List StI) (n i:Nat) (s:LkR),s.ns.length≤40→(lookG n i l s).ns.length≤40:=by
  intro l
  induction l with
  |nil=>intro n i s hs;exact hs
  |cons x l ih=>intro n i s hs;exact ih _ _ _ (stmtG_len x (by rw[meet_ns];exact hs))
 have h40:=hlen l l.length 0 ⟨0,0,0,[]⟩ (by simp)
 rw[k1]at h40
 exact⟨by have:=of_decide_eq_false h2;omega,k1,k2 (by simp),h40,k3⟩
def StI.bare (x:StI):StI:={x with l1:=0,c1:=0,l2:=0,c2:=0}
def Alike (s t:LkR):Prop:=s.e=t.e∧s.ns=t.ns
theorem place_k {n i:Nat} {x:StI} (h:placeB n i x=true):(i=0→x.k=1∧x.args.length=4)∧(i=1→x.k=2)∧(2≤i→i+1=n→x.k=5)∧(2≤i→i+1≠n→x.k=3∨x.k=4):=by
 unfold placeB at h
 split at h
 ·simp only[Bool.and_eq_true,decide_eq_true_eq]at h
  refine⟨fun _=>⟨h.1,?_⟩,by omega,by omega,by omega⟩
  have h2:=h.2
  unfold limB at h2
  split at h2
  ·rename_i e
   rw[e];rfl
  ·cases h2
 split at h
 ·simp only[Bool.and_eq_true,decide_eq_true_eq]at h
  exact⟨by omega,fun _=>h.1,by omega,by omega⟩
 split at h
 ·simp only[decide_eq_true_eq]at h
  exact⟨by omega,by omega,fun _ _=>h,by omega⟩
 ·simp only[Bool.or_eq_true,decide_eq_true_eq]at h
  exact⟨by omega,by omega,by omega,fun _ _=>h⟩
end Go.Proofs.YthfglhjdnpoepaaGreatDoor
namespace Go.Proofs.YthfglhjdnpoepaaGreatDoor
open Go.Ab
def lkV (m:Nat) (a:Option Addr) (cap:Nat) (s:LkR):AV:=.agg [.int .i64 s.ln,.int .i64 s.co,.int .i64 s.e,.mapv (some m),sl txtE 1 s.ns (.own a cap)]
def lkH (b m:Nat) (a:Option Addr) (cap:Nat) (s:LkR):AHeap:=[.box b 157 (lkV m a cap s),.obj m (keyObj s.ns),.tok a cap s.ns.length 1 9]
theorem lkH_meet (b m:Nat) (a:Option Addr) (cap:Nat) (s:LkR) (is:Bool) (e l c:Int):lkH b m a cap (s.meet is e l c)=[.box b 157 (lkV m a cap (s.meet is e l c)),.obj m (keyObj s.ns),.tok a cap s.ns.length 1 9]:=by
 unfold lkH
 rw[meet_ns]
theorem cbMeet:Callable Tryz.prog 118:=fun _ _=>by kernel_rfl
theorem meet_c (b m:Nat) (a:Option Addr) (cap:Nat) (s:LkR) (is:Bool) (e l c:Int):
  ACalls Tryz.prog 118 [.ptr b 0,.bool is,.int .i64 e,placeV l c] (lkH b m a cap s) (fun r H'=>r=.ret (.tuple [])∧H'=lkH b m a cap (s.meet is e l c)):=by
 refine acalls_of_awp tyok cbMeet Tryz.func118 rfl rfl ?_
 rw[lkH_meet]
 unfold lkH lkV
 cases is with
 |false=>
  ((repeat(first|refine wDB ?_|refine awp_seq_k fun K hK=>?_|(refine wH ?_;clear hK)));refine wN fun b7=>?_;(repeat(first|refine wDB ?_|refine awp_seq_k fun K hK=>?_|refine wN fun bx=>?_|(refine wH ?_;clear hK))))
  exact fnQ_ret 1 rfl .nil (Sub.refl _) ⟨rfl,rfl⟩
 |true=>
  by_cases h:s.e=0
  ·rw[meet_true h]
   ((repeat(first|refine wKB ?_|refine awp_seq_k fun K hK=>?_|(refine wH ?_;clear hK)));refine wN fun b7=>?_;(repeat(first|refine wKB ?_|refine awp_seq_k fun K hK=>?_|refine wN fun bx=>?_|(refine wH ?_;clear hK))))
   refine areg_kept mixed tyok [(6,[157])] [0,1,2,3,4,5,6,7,8,9] (by decide +kernel) ?_
   repeat(first|refine wDB ?_|refine awp_seq_k fun K hK=>?_|refine wN fun bx=>?_|(refine wH ?_;clear hK))
   exact fnQ_ret 1 rfl .nil (Sub.refl _) ⟨rfl,rfl⟩
  ·rw[meet_dead h]
   ((repeat(first|refine wDB ?_|refine awp_seq_k fun K hK=>?_|(refine wH ?_;clear hK)));refine wN fun b7=>?_;(repeat(first|refine wDB ?_|refine awp_seq_k fun K hK=>?_|refine wN fun bx=>?_|(refine wH ?_;clear hK))))
   exact fnQ_ret 1 rfl .nil (Sub.refl _) ⟨rfl,rfl⟩
theorem cbLkHas:Callable Tryz.prog 170:=fun _ _=>by kernel_rfl
theorem lkhas_c (b m:Nat) (a:Option Addr) (cap:Nat) (s:LkR) (w:List UInt8):
  ACalls Tryz.prog 170 [.ptr b 0,.str w] (lkH b m a cap s) (fun r H'=>r=.ret (.bool (s.ns.contains w))∧H'=lkH b m a cap s):=by
 refine acalls_of_awp tyok cbLkHas Tryz.func170 rfl rfl ?_
 unfold lkH lkV
 repeat(first|refine wD ?_|refine awp_seq_k fun K hK=>?_|refine wN fun bx=>?_|(refine wH ?_;clear hK))
 refine qlkp tyok ?_
 ((repeat(first|refine wD ?_|refine awp_seq_k fun K hK=>?_|(refine wH ?_;clear hK)));refine wN fun b5=>?_;(repeat(first|refine wD ?_|refine awp_seq_k fun K hK=>?_|refine wN fun bx=>?_|(refine wH ?_;clear hK))))
 exact fnQ_ret 1 rfl (.tmp rfl .nil) (Sub.refl _) ⟨rfl,rfl⟩
theorem cbFresh:Callable Tryz.prog 143:=fun _ _=>by kernel_rfl
theorem fresh_c (b m:Nat) (a:Option Addr) (cap:Nat) (s:LkR) (t:TokI):
  ACalls Tryz.prog 143 [.ptr b 0,.agg (tokEI t)] (lkH b m a cap s) (fun r H'=>r=.ret (.tuple [])∧H'=lkH b m a cap (s.fresh t)):=by
 refine acalls_of_awp tyok cbFresh Tryz.func143 rfl rfl ?_
 ((repeat(first|refine wK ?_|refine awp_seq_k fun K hK=>?_|(refine wH ?_;clear hK)));refine wN fun b3=>?_;(repeat(first|refine wK ?_|refine awp_seq_k fun K hK=>?_|refine wN fun bx=>?_|(refine wH ?_;clear hK))))
 refine areg_kept mixed tyok [(6,[])] [0,1,2,3,4,5,7,8,6,9] (by decide +kernel) ?_
 repeat(first|refine wD ?_|refine awp_seq_k fun K hK=>?_|refine wN fun bx=>?_|(refine wH ?_;clear hK))
 refine qcallH (G:=[_]) (lkhas_c b m a cap s t.w) ?_
 repeat(first|refine wD ?_|refine awp_seq_k fun K hK=>?_|refine wN fun bx=>?_|(refine wH ?_;clear hK))
 refine qcallH (G:=[_]) (meet_c b m a cap s _ 6 t.ln t.co) ?_
 repeat(first|refine wD ?_|refine awp_seq_k fun K hK=>?_|refine wN fun bx=>?_|(refine wH ?_;clear hK))
 refine qcallH (G:=[_]) (meet_c b m a cap (s.meet (s.ns.contains t.w) 6 t.ln t.co) _ 13 t.ln t.co) ?_
 repeat(first|refine wD ?_|refine awp_seq_k fun K hK=>?_|refine wN fun bx=>?_|(refine wH ?_;clear hK))
 refine fnQ_ret 1 rfl .nil (Sub.refl _) ⟨rfl,?_⟩
 unfold LkR.fresh
 rw[meet_ns]
 rfl
theorem cbLkAdd:Callable Tryz.prog 144:=fun _ _=>by kernel_rfl
theorem add_c (b m:Nat) (a:Option Addr) (cap:Nat) (s:LkR) (t:TokI) (hno:s.e=0→s.ns.contains t.w=false) (hl:s.ns.length≤40):
  ACalls Tryz.prog 144 [.ptr b 0,.agg (tokEI t)] (lkH b m a cap s) (fun r H'=>r=.ret (.tuple [])∧∃q:Option Addr×Nat,H'=lkH b m q.1 q.2 (s.add t)):=by
 refine acalls_of_awp tyok cbLkAdd Tryz.func144 rfl rfl ?_
 by_cases h:s.e=0
 ·rw[add_live h]
  unfold lkH lkV
  ((repeat(first|refine wDB ?_|refine awp_seq_k fun K hK=>?_|(refine wH ?_;clear hK)));refine wN fun b3=>?_;(repeat(first|refine wDB ?_|refine awp_seq_k fun K hK=>?_|refine wN fun bx=>?_|(refine wH ?_;clear hK))))
  refine qupd tyok (hno h) ?_
  repeat(first|refine wK ?_|refine awp_seq_k fun K hK=>?_|refine wN fun bx=>?_|(refine wH ?_;clear hK))
  refine areg_kept mixed tyok [(7,[]),(8,[])] [0,1,2,3,4,5,6,7,8,9,10,11] (by decide +kernel) ?_
  repeat(first|refine wD ?_|refine awp_seq_k fun K hK=>?_|refine wN fun bx=>?_|(refine wH ?_;clear hK))
  refine qapp tyok txtE s.ns t.w (SubL.refl _) ?_ fun ad cp=>?_
  ·simp only
   omega
  repeat(first|refine wD ?_|refine awp_seq_k fun K hK=>?_|refine wN fun bx=>?_|(refine wH ?_;clear hK))
  exact fnQ_ret 1 rfl .nil (Sub.refl _) ⟨rfl,(ad,cp),rfl⟩
 ·rw[add_dead h]
  unfold lkH lkV
  ((repeat(first|refine wDB ?_|refine awp_seq_k fun K hK=>?_|(refine wH ?_;clear hK)));refine wN fun b3=>?_;(repeat(first|refine wDB ?_|refine awp_seq_k fun K hK=>?_|refine wN fun bx=>?_|(refine wH ?_;clear hK))))
  exact fnQ_ret 1 rfl .nil (Sub.refl _) ⟨rfl,(a,cap),rfl⟩
end Go.Proofs.YthfglhjdnpoepaaGreatDoor
namespace Go.Proofs.YthfglhjdnpoepaaGreatDoor
open Go.Ab
def idxP {α:Type} (p:α→Bool):List α→Int
 |[]=> -1
 |x::l=>if p x=true then 0 else if idxP p l<0 then -1 else idxP p l+1
theorem idxP_iff {α:Type} (p:α→Bool):∀l:List α,0≤idxP p l↔l.any p=true
 |[]=>by simp[idxP]
 |x::l=>by
  have ih:=idxP_iff p l
  simp only[idxP,List.any_cons,Bool.or_eq_true]
  by_cases h:p x=true
  ·rw[if_pos h]
   exact⟨fun _=>.inl h,fun _=>by decide⟩
  ·rw[if_neg h]
   by_cases h0:idxP p l<0
   ·rw[if_pos h0]
    refine⟨fun h1=>absurd h1 (by decide),fun h1=>?_⟩
    have:=ih.2 (h1.resolve_left h)
    omega
   ·rw[if_neg h0]
    exact⟨fun _=>.inr (ih.1 (by omega)),fun _=>by omega⟩
theorem idxP_any {α:Type} (p:α→Bool) (l:List α):decide (0≤idxP p l)=l.any p:=by
 rw[Bool.eq_iff_iff,decide_eq_true_eq]
 exact idxP_iff p l
theorem idxP_hit {α:Type} [Inhabited α] (p:α→Bool):∀(l:List α) (i:Nat),i<l.length→p (l.getD i default)=true→(∀j,j<i→p (l.getD j default)=false)→idxP p l=i
 |x::l,0,_,h,_=>by
  simp only[idxP]
  rw[if_pos (by simpa using h)]
  rfl
 |x::l,i+1,hi,h,hn=>by
  have h0:=hn 0 (by omega)
  have ih:=idxP_hit p l i (by simpa using hi) (by simpa using h) (fun j hj=>by simpa using hn (j+1) (by omega))
  simp only[idxP]
  rw[if_neg (by simpa using h0),ih,if_neg (by omega)]
  omega
theorem idxP_miss {α:Type} [Inhabited α] (p:α→Bool):∀(l:List α),(∀j,j<l.length→p (l.getD j default)=false)→idxP p l= -1
 |[],_=>rfl
 |x::l,hn=>by
  have h0:=hn 0 (by simp)
  have ih:=idxP_miss p l (fun j hj=>by simpa using hn (j+1) (by simpa using hj))
  simp only[idxP]
  rw[if_neg (by simpa using h0),ih,if_pos (by decide)]
theorem cbIxP:Callable Tryz.prog 190:=fun _ _=>by kernel_rfl
theorem indexP_c (xs:List (Int×Int)) (f:FuncId) (cap:List AV) (p:Int×Int→Bool) (hl:xs.length≤1000000000) (hp:∀j,j<xs.length→PCalls Tryz.prog f (.agg (pairE (xs.getD j default))::cap) (.bool (p (xs.getD j default)))):
  PCalls Tryz.prog 190 [sl pairE 2 xs .view,.func (.func f) [] cap] (.int .i64 (idxP p xs)):=by
 refine pcalls_of_awp tyok cbIxP Tryz.func190 rfl rfl ?_
 repeat(first|refine wD ?_|refine awp_seq_k fun K hK=>?_|refine wN fun bx=>?_|(refine wH ?_;clear hK))
 refine awp_loop0 (ι:={i:Nat//i≤xs.length∧∀j,j<i→p (xs.getD j default)=false})
  (fun i=>[(0,sl pairE 2 xs .view),(1,.func (.func f) [] cap),(7,.int .i64 xs.length),(8,.int .i64 i.1)]) (fun _=>[]) (fun i=>xs.length-i.1) ⟨0,Nat.zero_le _,fun j hj=>absurd hj (by omega)⟩ ?_ dp ?_
 ·exact wk
 rintro⟨i,hi,hn⟩
 simp only at hi hn ⊢
 by_cases hlt:i<xs.length
 ·have hlt':(i:Int)<xs.length:=by omega
  have g:PCalls Tryz.prog f ([]++[.agg (pairE (xs.getD ((i:Int)).toNat default))]++cap) (.bool (p (xs.getD i default))):=hp i hlt
  repeat(first|refine wDB ?_|refine awp_seq_k fun K hK=>?_|refine wN fun bx=>?_|refine qpc rfl rfl rfl (g) ?_|refine qpo rfl rfl rfl rfl rfl rfl (fun _=>g) ?_|(refine wH ?_;clear hK))
  cases hb:p (xs.getD i default)with
  |true=>
   repeat(first|refine wD ?_|refine awp_seq_k fun K hK=>?_|refine wN fun bx=>?_|(refine wH ?_;clear hK))
   refine r1 ?_
   exact Sub.of_eq (by rw[idxP_hit p xs i hlt hb hn])
  |false=>
   repeat(first|refine wD ?_|refine awp_seq_k fun K hK=>?_|refine wN fun bx=>?_|(refine wH ?_;clear hK))
   refine⟨⟨i+1,hlt,fun j hj=>?_⟩,?_,dp,?_⟩
   ·by_cases e:j=i
    ·rw[e];exact hb
    ·exact hn j (by omega)
   ·exact wk
   ·simp only;omega
 ·have hge:¬(i:Int)<xs.length:=by omega
  repeat(first|refine wDB ?_|refine awp_seq_k fun K hK=>?_|refine wN fun bx=>?_|(refine wH ?_;clear hK))
  refine r1 ?_
  exact Sub.of_eq (by rw[idxP_miss p xs fun j hj=>hn j (by omega)])
theorem cbCtP:Callable Tryz.prog 172:=fun _ _=>by kernel_rfl
theorem containsP_c (xs:List (Int×Int)) (f:FuncId) (cap:List AV) (p:Int×Int→Bool) (hl:xs.length≤1000000000) (hp:∀j,j<xs.length→PCalls Tryz.prog f (.agg (pairE (xs.getD j default))::cap) (.bool (p (xs.getD j default)))):
  PCalls Tryz.prog 172 [sl pairE 2 xs .view,.func (.func f) [] cap] (.bool (xs.any p)):=by
 refine pcalls_of_awp tyok cbCtP Tryz.func172 rfl rfl ?_
 have g:=indexP_c xs f cap p hl hp
 repeat(first|refine wD ?_|refine awp_seq_k fun K hK=>?_|refine wN fun bx=>?_|refine qpc rfl rfl rfl (g) ?_|refine qpo rfl rfl rfl rfl rfl rfl (fun _=>g) ?_|(refine wH ?_;clear hK))
 refine r1 ?_
 exact Sub.of_eq (congrArg AV.bool (idxP_any p xs))
theorem cbAr1:Callable Tryz.prog 171:=fun _ _=>by kernel_rfl
theorem args1_c (u:Int×Int) (i:Nat) (x:StI) (t:TokI) (h0:0≤u.1) (h1:u.1<u.2) (hi:i<x.args.length):
  PCalls Tryz.prog 171 [.agg (pairE u),.rptr [.int .i64 i],.rptr (stmtEI x),.rptr (tokEI t)] (.bool (alike x.args i t.w u)):=by
 refine pcalls_of_awp tyok cbAr1 Tryz.func171 rfl rfl ?_
 by_cases h:u.2=(i:Int)
 ·have e:alike x.args i t.w u=((x.args.getD u.1.toNat default).w==t.w):=by
   unfold alike
   rw[decide_eq_true h]
   rfl
  rw[e]
  ((repeat(first|refine wDB ?_|refine awp_seq_k fun K hK=>?_|(refine wH ?_;clear hK)));refine wN fun b4=>?_;(repeat(first|refine wDB ?_|refine awp_seq_k fun K hK=>?_|refine wN fun bx=>?_|(refine wH ?_;clear hK))))
  refine r1 ?_
  exact Sub.refl _
 ·have e:alike x.args i t.w u=false:=by
   unfold alike
   rw[decide_eq_false h]
   rfl
  rw[e]
  ((repeat(first|refine wDB ?_|refine awp_seq_k fun K hK=>?_|(refine wH ?_;clear hK)));refine wN fun b4=>?_;(repeat(first|refine wDB ?_|refine awp_seq_k fun K hK=>?_|refine wN fun bx=>?_|(refine wH ?_;clear hK))))
  refine r1 ?_
  exact Sub.refl _
def rowsCk (R:List (List UInt8)→Option FigR) (t:List UInt8):Bool:=(rowsF t).all fun l=>match R l with
 |none=>true
 |some f=>figOk f
theorem made_ck:rowsCk conR made21=true:=by decide +kernel
theorem asked_ck:rowsCk preR asked21=true:=by decide +kernel
theorem rowsCk_at {R:List (List UInt8)→Option FigR} {t w:List UInt8} {l:List (List UInt8)} {f:FigR} (h:rowsCk R t=true) (hr:rowF t w=some l) (hf:R l=some f):figOk f=true:=by
 have:=List.all_eq_true.1 h l (rowG_mem hr)
 rw[hf]at this
 exact this
theorem fig0_con (w:List UInt8):figOk (fig0 (conF w))=true:=by
 unfold conF
 cases hr:rowF made21 w with
 |none=>rfl
 |some l=>
  simp only
  cases hf:conR l with
  |none=>rfl
  |some f=>
   have:=rowsCk_at made_ck hr hf
   exact this
theorem fig0_pre (w:List UInt8):figOk (fig0 (preF w))=true:=by
 unfold preF
 cases hr:rowF asked21 w with
 |none=>rfl
 |some l=>
  simp only
  cases hf:preR l with
  |none=>rfl
  |some f=>
   have:=rowsCk_at asked_ck hr hf
   exact this
theorem figOk_b {f:FigR} (h:figOk f=true):0≤f.pts∧f.pts≤8∧0≤f.nums∧f.nums≤2:=by
 simp only[figOk,Bool.and_eq_true,decide_eq_true_eq]at h
 exact h.1
theorem figOk_u {f:FigR} (h:figOk f=true):f.unl.length≤3∧∀j,j<f.unl.length→0≤(f.unl.getD j default).1∧(f.unl.getD j default).1<(f.unl.getD j default).2:=by
 simp only[figOk,Bool.and_eq_true,decide_eq_true_eq,List.all_eq_true]at h
 refine⟨Nat.le_of_ble_eq_true h.2.1,fun j hj=>?_⟩
 have:=h.2.2 (f.unl.getD j default) (by rw[getD_at hj];exact List.getElem_mem hj)
 exact⟨this.1,this.2.1⟩
theorem argsG_end (f:FigR) (A:List TokI) (el ec:Int) (i:Nat) (s:LkR):argsG f A el ec i [] s=s.meet (decide ((A.length:Int)<f.pts+f.nums)) 13 el ec:=rfl
theorem argsG_many {f:FigR} {A:List TokI} {el ec:Int} {i:Nat} {t:TokI} {l:List TokI} {s:LkR} (h:f.pts+f.nums≤(i:Int)):argsG f A el ec i (t::l) s=s.meet true 13 t.ln t.co:=by
 simp only[argsG]
 rw[if_pos h]
theorem argsG_num {f:FigR} {A:List TokI} {el ec:Int} {i:Nat} {t:TokI} {l:List TokI} {s:LkR} (h:¬f.pts+f.nums≤(i:Int)) (h2:f.pts≤(i:Int)):argsG f A el ec i (t::l) s=argsG f A el ec (i+1) l (numM f i t s):=by
 simp only[argsG]
 rw[if_neg h,if_pos h2]
theorem argsG_pt {f:FigR} {A:List TokI} {el ec:Int} {i:Nat} {t:TokI} {l:List TokI} {s:LkR} (h:¬f.pts+f.nums≤(i:Int)) (h2:¬f.pts≤(i:Int)):argsG f A el ec i (t::l) s=argsG f A el ec (i+1) l (ptM f A i t s):=by
 simp only[argsG]
 rw[if_neg h,if_neg h2]
theorem bne_dec (a b:Int):(a !=b)=decide (a≠b):=by
 by_cases h:a=b
 ·simp[h]
 ·simp[h]
theorem numM_true {f:FigR} {i:Nat} {t:TokI} {s:LkR} (h:(i:Int)=f.pts+f.nums-1):numM f i t s=(s.meet (t.k !=3) 14 t.ln t.co).meet (t.n==0) 4 t.ln t.co:=by
 unfold numM
 rw[decide_eq_true h,Bool.true_and,bne_dec]
 rfl
theorem numM_false {f:FigR} {i:Nat} {t:TokI} {s:LkR} (h:¬(i:Int)=f.pts+f.nums-1):numM f i t s=(s.meet (t.k !=3) 14 t.ln t.co).meet false 4 t.ln t.co:=by
 unfold numM
 rw[decide_eq_false h,Bool.false_and,bne_dec]
theorem ptM_eq {f:FigR} {A:List TokI} {i:Nat} {t:TokI} {s:LkR}:ptM f A i t s=((s.meet (t.k !=1) 14 t.ln t.co).meet (!(s.meet (t.k !=1) 14 t.ln t.co).ns.contains t.w) 5 t.ln t.co).meet (f.unl.any (alike A i t.w)) 15 t.ln t.co:=by
 unfold ptM
 rw[meet_ns,bne_dec]
theorem cbArgs:Callable Tryz.prog 145:=fun _ _=>by kernel_rfl
theorem args_c (b m:Nat) (a:Option Addr) (cap:Nat) (s:LkR) (x:StI) (f:FigR) (hf:figOk f=true) (hx:x.args.length≤10000000000000000):
  ACalls Tryz.prog 145 [.ptr b 0,.agg (stmtEI x),.agg (figE f)] (lkH b m a cap s) (fun r H'=>r=.ret (.tuple [])∧H'=lkH b m a cap (argsF f x s)):=by
 refine acalls_of_awp tyok cbArgs Tryz.func145 rfl rfl ?_
 obtain⟨f1,f2,f3,f4⟩:=figOk_b hf
 obtain⟨f5,f6⟩:=figOk_u hf
 ((repeat(first|refine wD ?_|refine awp_seq_k fun K hK=>?_|(refine wH ?_;clear hK)));refine wN fun b4=>?_;(repeat(first|refine wD ?_|refine awp_seq_k fun K hK=>?_|(refine wH ?_;clear hK)));refine wN fun b5=>?_)
 (((repeat(first|refine wT ?_|refine wN fun bx=>?_)));(try refine wP ?_);repeat(refine wH ?_;clear hK))
 refine awp_freeze [_] (s:=4) rfl rfl ?_
 repeat(first|refine wDB ?_|refine awp_seq_k fun K hK=>?_|refine wN fun bx=>?_|(refine wH ?_;clear hK))
 refine awp_loop0 (ι:={y:Nat×LkR//y.1≤x.args.length∧argsG f x.args x.l2 x.c2 y.1 (x.args.drop y.1) y.2=argsF f x s})
  (fun y=>[(0,.ptr b 0),(4,.rptr (stmtEI x)),(5,.ptr b5 0),(6,.int .i64 (f.pts+f.nums)),(16,sl tokEI 5 x.args .view),(17,.int .i64 x.args.length),(18,.int .i64 y.1.1)])
  (fun y=>.box b5 79 (.agg (figE f))::lkH b m a cap y.1.2) (fun y=>x.args.length-y.1.1) ⟨(0,s),Nat.zero_le _,rfl⟩ wk ⟨0,rfl⟩ ?_
 rintro⟨⟨i,s1⟩,hi,hs1⟩
 simp only at hi hs1 ⊢
 by_cases hlt:i<x.args.length
 ·have hlt':(i:Int)<x.args.length:=by omega
  rw[List.drop_eq_getElem_cons hlt,←getD_at hlt]at hs1
  ((repeat(first|refine wDB ?_|refine awp_seq_k fun K hK=>?_|(refine wH ?_;clear hK)));refine wN fun b7=>?_;(repeat(first|refine wDB ?_|refine awp_seq_k fun K hK=>?_|(refine wH ?_;clear hK)));refine wN fun b8=>?_)
  (((repeat(first|refine wT ?_|refine wN fun bx=>?_)));(try refine wP ?_);repeat(refine wH ?_;clear hK))
  refine awp_boxSub [] (v':=.agg (tokEI (x.args.getD i default))) (Sub.of_eq rfl) ?_
  refine awp_freeze [] (s:=8) rfl rfl ?_
  refine awp_freeze [] (s:=7) rfl rfl ?_
  generalize x.args.getD i default=t at hs1 ⊢
  by_cases hA:f.pts+f.nums≤(i:Int)
  ·rw[argsG_many hA]at hs1
   repeat(first|refine wDB ?_|refine awp_seq_k fun K hK=>?_|refine wN fun bx=>?_|(refine wH ?_;clear hK))
   refine qcallH (G:=[_]) (meet_c b m a cap s1 true 13 t.ln t.co) ?_
   repeat(first|refine wDB ?_|refine awp_seq_k fun K hK=>?_|refine wN fun bx=>?_|(refine wH ?_;clear hK))
   exact fnQ_ret 1 rfl .nil (Sub.refl _) ⟨rfl,by rw[←hs1];rfl⟩
  by_cases hB:f.pts≤(i:Int)
  ·rw[argsG_num hA hB]at hs1
   repeat(first|refine wDB ?_|refine awp_seq_k fun K hK=>?_|refine wN fun bx=>?_|(refine wH ?_;clear hK))
   refine qcallH (G:=[_]) (meet_c b m a cap s1 _ 14 t.ln t.co) ?_
   by_cases hC:(i:Int)=f.pts+f.nums-1
   ·repeat(first|refine wDB ?_|refine awp_seq_k fun K hK=>?_|refine wN fun bx=>?_|(refine wH ?_;clear hK))
    refine qcallH (G:=[_]) (meet_c b m a cap _ _ 4 t.ln t.co) ?_
    repeat(first|refine wDB ?_|refine awp_seq_k fun K hK=>?_|refine wN fun bx=>?_|(refine wH ?_;clear hK))
    rw[numM_true hC]at hs1
    exact⟨⟨(i+1,_),hlt,hs1⟩,wk,⟨0,rfl⟩,by simp only;omega⟩
   ·repeat(first|refine wDB ?_|refine awp_seq_k fun K hK=>?_|refine wN fun bx=>?_|(refine wH ?_;clear hK))
    refine qcallH (G:=[_]) (meet_c b m a cap _ _ 4 t.ln t.co) ?_
    repeat(first|refine wDB ?_|refine awp_seq_k fun K hK=>?_|refine wN fun bx=>?_|(refine wH ?_;clear hK))
    rw[numM_false hC]at hs1
    exact⟨⟨(i+1,_),hlt,hs1⟩,wk,⟨0,rfl⟩,by simp only;omega⟩
  ·rw[argsG_pt hA hB]at hs1
   repeat(first|refine wDB ?_|refine awp_seq_k fun K hK=>?_|refine wN fun bx=>?_|(refine wH ?_;clear hK))
   refine qcallH (G:=[_]) (meet_c b m a cap s1 _ 14 t.ln t.co) ?_
   repeat(first|refine wKB ?_|refine awp_seq_k fun K hK=>?_|refine wN fun bx=>?_|(refine wH ?_;clear hK))
   refine areg_kept mixed tyok [(6,[])] [0,1,2,3,4,5,8,9,6,7,10] (by decide +kernel) ?_
   repeat(first|refine wDB ?_|refine awp_seq_k fun K hK=>?_|refine wN fun bx=>?_|(refine wH ?_;clear hK))
   refine qcallH (G:=[_]) (lkhas_c b m a cap _ t.w) ?_
   repeat(first|refine wDB ?_|refine awp_seq_k fun K hK=>?_|refine wN fun bx=>?_|(refine wH ?_;clear hK))
   refine qcallH (G:=[_]) (meet_c b m a cap _ _ 5 t.ln t.co) ?_
   have g:=containsP_c f.unl 171 [.rptr [.int .i64 i],.rptr (stmtEI x),.rptr (tokEI t)] (alike x.args i t.w) (by omega) fun j hj=>args1_c _ i x t (f6 j hj).1 (f6 j hj).2 hlt
   repeat(first|refine wKB ?_|refine awp_seq_k fun K hK=>?_|refine wN fun bx=>?_|(refine wH ?_;clear hK))
   refine areg_kept mixed tyok [] [0,1,2,3,4,5,7,8,6,9] (by decide +kernel) ?_
   repeat(first|refine wDB ?_|refine awp_seq_k fun K hK=>?_|refine wN fun bx=>?_|refine qpc rfl rfl rfl (g) ?_|refine qpo rfl rfl rfl rfl rfl rfl (fun _=>g) ?_|(refine wH ?_;clear hK))
   refine qcallH (G:=[_]) (meet_c b m a cap _ _ 15 t.ln t.co) ?_
   repeat(first|refine wDB ?_|refine awp_seq_k fun K hK=>?_|refine wN fun bx=>?_|(refine wH ?_;clear hK))
   rw[ptM_eq]at hs1
   exact⟨⟨(i+1,_),hlt,hs1⟩,wk,⟨0,rfl⟩,by simp only;omega⟩
 ·have hge:¬(i:Int)<x.args.length:=by omega
  obtain rfl:i=x.args.length:=by omega
  rw[List.drop_length,argsG_end]at hs1
  repeat(first|refine wDB ?_|refine awp_seq_k fun K hK=>?_|refine wN fun bx=>?_|(refine wH ?_;clear hK))
  refine qcallH (G:=[_]) (meet_c b m a cap s1 _ 13 x.l2 x.c2) ?_
  repeat(first|refine wDB ?_|refine awp_seq_k fun K hK=>?_|refine wN fun bx=>?_|(refine wH ?_;clear hK))
  refine fnQ_ret 1 rfl .nil (Sub.refl _) ⟨rfl,?_⟩
  rw[←hs1]
  rfl
end Go.Proofs.YthfglhjdnpoepaaGreatDoor
namespace Go.Proofs.YthfglhjdnpoepaaGreatDoor
open Go.Ab
theorem Sub.any (v:AV):Sub v .any:=fun _ _ _ _=>.any _
theorem cbMNew:Callable Tryz.prog 142:=fun _ _=>by kernel_rfl
def limOk (a b c d:Int):Bool:=decide (0≤a∧a≤1000000)&&(decide (0≤b∧b≤10000)&&(decide (0≤c∧c≤100000)&&decide (0≤d∧d≤1000)))
theorem limOk_t {a b c d:Int} (h:limOk a b c d=true):(0≤a∧a≤1000000)∧(0≤b∧b≤10000)∧(0≤c∧c≤100000)∧(0≤d∧d≤1000):=by
 simpa [limOk]using h
theorem limOk_f {a b c d:Int} (h:¬((0≤a∧a≤1000000)∧(0≤b∧b≤10000)∧(0≤c∧c≤100000)∧(0≤d∧d≤1000))):limOk a b c d=false:=by
 cases h2:limOk a b c d with
 |false=>rfl
 |true=>exact absurd (limOk_t h2) h
theorem mnew_c (a b c d:Int):PCalls Tryz.prog 142 [.agg [.int .i64 a,.int .i64 b,.int .i64 c,.int .i64 d]] (.tuple [.any,.int .i64 (if limOk a b c d=true then 0 else 2)]):=by
 refine pcalls_of_awp tyok cbMNew Tryz.func142 rfl rfl ?_
 ((repeat(first|refine wD ?_|refine awp_seq_k fun K hK=>?_|(refine wH ?_;clear hK)));refine wN fun b1=>?_;(repeat(first|refine wD ?_|refine awp_seq_k fun K hK=>?_|refine wN fun bx=>?_|(refine wH ?_;clear hK))))
 refine qarr tyok (cells:=[.int .i64 a,.int .i64 1000000]) ?_
 repeat(first|refine wD ?_|refine awp_seq_k fun K hK=>?_|refine wN fun bx=>?_|(refine wH ?_;clear hK))
 refine qarr tyok (cells:=[.int .i64 b,.int .i64 10000]) ?_
 repeat(first|refine wD ?_|refine awp_seq_k fun K hK=>?_|refine wN fun bx=>?_|(refine wH ?_;clear hK))
 refine qarr tyok (cells:=[.int .i64 c,.int .i64 100000]) ?_
 repeat(first|refine wD ?_|refine awp_seq_k fun K hK=>?_|refine wN fun bx=>?_|(refine wH ?_;clear hK))
 refine qarr tyok (cells:=[.int .i64 d,.int .i64 1000]) ?_
 repeat(first|refine wD ?_|refine awp_seq_k fun K hK=>?_|refine wN fun bx=>?_|(refine wH ?_;clear hK))
 refine qarr tyok (cells:=[.int .i64 a,.int .i64 1000000,.int .i64 b,.int .i64 10000,.int .i64 c,.int .i64 100000,.int .i64 d,.int .i64 1000]) ?_
 repeat(first|refine wD ?_|refine awp_seq_k fun K hK=>?_|refine wN fun bx=>?_|(refine wH ?_;clear hK))
 refine awp_loop0 (ι:={i:Nat//i≤4∧(1≤i→0≤a∧a≤1000000)∧(2≤i→0≤b∧b≤10000)∧(3≤i→0≤c∧c≤100000)∧(4≤i→0≤d∧d≤1000)})
  (fun i=>[(1,.ptr b1 0),(18,.agg [.int .i64 a,.int .i64 1000000,.int .i64 b,.int .i64 10000,.int .i64 c,.int .i64 100000,.int .i64 d,.int .i64 1000]),(19,.int .i64 i.1)])
  (fun _=>[.box b1 197 (.agg [.int .i64 a,.int .i64 b,.int .i64 c,.int .i64 d])]) (fun i=>4-i.1) ⟨0,by omega,by omega,by omega,by omega,by omega⟩ wk ⟨0,rfl⟩ ?_
 rintro⟨i,hi,h1,h2,h3,h4⟩
 simp only at hi h1 h2 h3 h4 ⊢
 have hcase:i=0∨i=1∨i=2∨i=3∨i=4:=by omega
 rcases hcase with rfl|rfl|rfl|rfl|rfl
 ·repeat(first|refine wDB ?_|refine awp_seq_k fun K hK=>?_|refine wN fun bx=>?_|(refine wH ?_;clear hK))
  refine qaix tyok (v:=.agg [.int .i64 a,.int .i64 1000000]) ?_
  ((repeat(first|refine wD ?_|refine awp_seq_k fun K hK=>?_|(refine wH ?_;clear hK)));refine wN fun b5=>?_)
  (((repeat(first|refine wT ?_|refine wN fun bx=>?_)));(try refine wP ?_);repeat(refine wH ?_;clear hK))
  refine awp_boxSub [] (v':=.agg [.int .i64 a,.int .i64 1000000]) (Sub.of_eq rfl) ?_
  by_cases hA:a<0
  ·rw[limOk_f (by omega)]
   repeat(first|refine wDB ?_|refine awp_seq_k fun K hK=>?_|refine wN fun bx=>?_|(refine wH ?_;clear hK))
   refine r2 ?_ ?_
   ·exact Sub.any _
   ·exact Sub.refl _
  by_cases hB:a>1000000
  ·rw[limOk_f (by omega)]
   repeat(first|refine wDB ?_|refine awp_seq_k fun K hK=>?_|refine wN fun bx=>?_|(refine wH ?_;clear hK))
   refine r2 ?_ ?_
   ·exact Sub.any _
   ·exact Sub.refl _
  repeat(first|refine wDB ?_|refine awp_seq_k fun K hK=>?_|refine wN fun bx=>?_|(refine wH ?_;clear hK))
  exact⟨⟨1,by omega,by omega,by omega,by omega,by omega⟩,wk,⟨1,rfl⟩,by simp only;omega⟩
 ·repeat(first|refine wDB ?_|refine awp_seq_k fun K hK=>?_|refine wN fun bx=>?_|(refine wH ?_;clear hK))
  refine qaix tyok (v:=.agg [.int .i64 b,.int .i64 10000]) ?_
  ((repeat(first|refine wD ?_|refine awp_seq_k fun K hK=>?_|(refine wH ?_;clear hK)));refine wN fun b5=>?_)
  (((repeat(first|refine wT ?_|refine wN fun bx=>?_)));(try refine wP ?_);repeat(refine wH ?_;clear hK))
  refine awp_boxSub [] (v':=.agg [.int .i64 b,.int .i64 10000]) (Sub.of_eq rfl) ?_
  by_cases hA:b<0
  ·rw[limOk_f (by omega)]
   repeat(first|refine wDB ?_|refine awp_seq_k fun K hK=>?_|refine wN fun bx=>?_|(refine wH ?_;clear hK))
   refine r2 ?_ ?_
   ·exact Sub.any _
   ·exact Sub.refl _
  by_cases hB:b>10000
  ·rw[limOk_f (by omega)]
   repeat(first|refine wDB ?_|refine awp_seq_k fun K hK=>?_|refine wN fun bx=>?_|(refine wH ?_;clear hK))
   refine r2 ?_ ?_
   ·exact Sub.any _
   ·exact Sub.refl _
  repeat(first|refine wDB ?_|refine awp_seq_k fun K hK=>?_|refine wN fun bx=>?_|(refine wH ?_;clear hK))
  exact⟨⟨2,by omega,by omega,by omega,by omega,by omega⟩,wk,⟨1,rfl⟩,by simp only;omega⟩
 ·repeat(first|refine wDB ?_|refine awp_seq_k fun K hK=>?_|refine wN fun bx=>?_|(refine wH ?_;clear hK))
  refine qaix tyok (v:=.agg [.int .i64 c,.int .i64 100000]) ?_
  ((repeat(first|refine wD ?_|refine awp_seq_k fun K hK=>?_|(refine wH ?_;clear hK)));refine wN fun b5=>?_)
  (((repeat(first|refine wT ?_|refine wN fun bx=>?_)));(try refine wP ?_);repeat(refine wH ?_;clear hK))
  refine awp_boxSub [] (v':=.agg [.int .i64 c,.int .i64 100000]) (Sub.of_eq rfl) ?_
  by_cases hA:c<0
  ·rw[limOk_f (by omega)]
   repeat(first|refine wDB ?_|refine awp_seq_k fun K hK=>?_|refine wN fun bx=>?_|(refine wH ?_;clear hK))
   refine r2 ?_ ?_
   ·exact Sub.any _
   ·exact Sub.refl _
  by_cases hB:c>100000
  ·rw[limOk_f (by omega)]
   repeat(first|refine wDB ?_|refine awp_seq_k fun K hK=>?_|refine wN fun bx=>?_|(refine wH ?_;clear hK))
   refine r2 ?_ ?_
   ·exact Sub.any _
   ·exact Sub.refl _
  repeat(first|refine wDB ?_|refine awp_seq_k fun K hK=>?_|refine wN fun bx=>?_|(refine wH ?_;clear hK))
  exact⟨⟨3,by omega,by omega,by omega,by omega,by omega⟩,wk,⟨1,rfl⟩,by simp only;omega⟩
 ·repeat(first|refine wDB ?_|refine awp_seq_k fun K hK=>?_|refine wN fun bx=>?_|(refine wH ?_;clear hK))
  refine qaix tyok (v:=.agg [.int .i64 d,.int .i64 1000]) ?_
  ((repeat(first|refine wD ?_|refine awp_seq_k fun K hK=>?_|(refine wH ?_;clear hK)));refine wN fun b5=>?_)
  (((repeat(first|refine wT ?_|refine wN fun bx=>?_)));(try refine wP ?_);repeat(refine wH ?_;clear hK))
  refine awp_boxSub [] (v':=.agg [.int .i64 d,.int .i64 1000]) (Sub.of_eq rfl) ?_
  by_cases hA:d<0
  ·rw[limOk_f (by omega)]
   repeat(first|refine wDB ?_|refine awp_seq_k fun K hK=>?_|refine wN fun bx=>?_|(refine wH ?_;clear hK))
   refine r2 ?_ ?_
   ·exact Sub.any _
   ·exact Sub.refl _
  by_cases hB:d>1000
  ·rw[limOk_f (by omega)]
   repeat(first|refine wDB ?_|refine awp_seq_k fun K hK=>?_|refine wN fun bx=>?_|(refine wH ?_;clear hK))
   refine r2 ?_ ?_
   ·exact Sub.any _
   ·exact Sub.refl _
  repeat(first|refine wDB ?_|refine awp_seq_k fun K hK=>?_|refine wN fun bx=>?_|(refine wH ?_;clear hK))
  exact⟨⟨4,by omega,by omega,by omega,by omega,by omega⟩,wk,⟨1,rfl⟩,by simp only;omega⟩
 ·have hok:limOk a b c d=true:=by
   simp only[limOk,Bool.and_eq_true,decide_eq_true_eq]
   exact⟨h1 (by omega),h2 (by omega),h3 (by omega),h4 (by omega)⟩
  repeat(first|refine wDB ?_|refine awp_seq_k fun K hK=>?_|refine wN fun bx=>?_|(refine wH ?_;clear hK))
  refine r2 ?_ ?_
  ·exact Sub.any _
  ·exact Sub.of_eq (by rw[if_pos hok])
theorem limB_len {l:List TokI} (h:l.length≠4):limB l=false:=by
 unfold limB
 split
 ·exact absurd rfl h
 ·rfl
theorem cbLims:Callable Tryz.prog 119:=fun _ _=>by kernel_rfl
theorem limits_c (x:StI):PCalls Tryz.prog 119 [.agg (stmtEI x)] (.bool (decide (x.k=1)&&limB x.args)):=by
 refine pcalls_of_awp tyok cbLims Tryz.func119 rfl rfl ?_
 by_cases hk:x.k=1
 ·by_cases hl:x.args.length=4
  ·obtain⟨k,new,word,args,l1,c1,l2,c2⟩:=x
   simp only at hk hl ⊢
   match args,hl with
   |[a,b,c,d],_=>
    have g:=mnew_c a.n b.n c.n d.n
    have h4:(([a,b,c,d]:List TokI).length:Int)=4:=rfl
    ((repeat(first|refine wDB ?_|refine awp_seq_k fun K hK=>?_|refine qpc rfl rfl rfl (g) ?_|refine qpo rfl rfl rfl rfl rfl rfl (fun _=>g) ?_|(refine wH ?_;clear hK)));refine wN fun b1=>?_;(repeat(first|refine wDB ?_|refine awp_seq_k fun K hK=>?_|refine wN fun bx=>?_|refine qpc rfl rfl rfl (g) ?_|refine qpo rfl rfl rfl rfl rfl rfl (fun _=>g) ?_|(refine wH ?_;clear hK))))
    refine r1 ?_
    refine Sub.of_eq (congrArg AV.bool ?_)
    rw[decide_eq_true hk,Bool.true_and]
    show((if limOk a.n b.n c.n d.n=true then(0:Int) else 2)==0)=limOk a.n b.n c.n d.n
    cases limOk a.n b.n c.n d.n<;>rfl
  ·rw[limB_len hl,Bool.and_false]
   have hl':¬(x.args.length:Int)=4:=by omega
   ((repeat(first|refine wDB ?_|refine awp_seq_k fun K hK=>?_|(refine wH ?_;clear hK)));refine wN fun b1=>?_;(repeat(first|refine wDB ?_|refine awp_seq_k fun K hK=>?_|refine wN fun bx=>?_|(refine wH ?_;clear hK))))
   refine r1 ?_
   exact Sub.refl _
 ·rw[decide_eq_false hk]
  ((repeat(first|refine wDB ?_|refine awp_seq_k fun K hK=>?_|(refine wH ?_;clear hK)));refine wN fun b1=>?_;(repeat(first|refine wDB ?_|refine awp_seq_k fun K hK=>?_|refine wN fun bx=>?_|(refine wH ?_;clear hK))))
  refine r1 ?_
  exact Sub.refl _
theorem ptsG_cons (t:TokI) (l:List TokI) (s:LkR):ptsG (t::l) s=ptsG l ((s.fresh t).add t):=rfl
theorem zero_dec (n:Nat):decide (n=0)=((n:Int)==0):=by
 rw[Bool.eq_iff_iff]
 simp
theorem none_some {α:Type} (o:Option α):o.isNone= !o.isSome:=by cases o<;>rfl
theorem fresh_no (s:LkR) (t:TokI) (h:(s.fresh t).e=0):(s.fresh t).ns.contains t.w=false:=by
 rw[fresh_ns]
 exact(fresh_zero h).2.1
theorem cbLkStmt:Callable Tryz.prog 120:=fun _ _=>by kernel_rfl
theorem lkstmt_c (b m:Nat) (a:Option Addr) (cap:Nat) (s:LkR) (x:StI) (hx:x.args.length≤10000000000000000) (hn:s.ns.length≤40):
  ACalls Tryz.prog 120 [.ptr b 0,.agg (stmtEI x)] (lkH b m a cap s) (fun r H'=>r=.ret (.tuple [])∧∃q:Option Addr×Nat,H'=lkH b m q.1 q.2 (stmtG x s)):=by
 refine acalls_of_awp tyok cbLkStmt Tryz.func120 rfl rfl ?_
 by_cases h3:x.k=3
 ·have e:stmtG x s=ptsG x.args (s.meet ((x.args.length:Int)==0) 13 x.l2 x.c2):=by
   unfold stmtG
   rw[if_pos h3,zero_dec]
  rw[e]
  ((repeat(first|refine wDB ?_|refine awp_seq_k fun K hK=>?_|(refine wH ?_;clear hK)));refine wN fun b3=>?_;(repeat(first|refine wDB ?_|refine awp_seq_k fun K hK=>?_|refine wN fun bx=>?_|(refine wH ?_;clear hK))))
  refine qcallH (G:=[_]) (meet_c b m a cap s _ 13 x.l2 x.c2) ?_
  generalize hs0:s.meet ((x.args.length:Int)==0) 13 x.l2 x.c2=s0
  have hn0:s0.ns.length≤40:=by rw[←hs0,meet_ns];exact hn
  repeat(first|refine wDB ?_|refine awp_seq_k fun K hK=>?_|refine wN fun bx=>?_|(refine wH ?_;clear hK))
  refine awp_loop0 (ι:={y:Nat×LkR×Option Addr×Nat//y.1≤x.args.length∧y.2.1.ns.length≤40∧ptsG (x.args.drop y.1) y.2.1=ptsG x.args s0})
   (fun y=>[(0,.ptr b 0),(3,.ptr b3 0),(25,sl tokEI 5 x.args .view),(26,.int .i64 x.args.length),(27,.int .i64 y.1.1)])
   (fun y=>.box b3 117 (.agg (stmtEI x))::lkH b m y.1.2.2.1 y.1.2.2.2 y.1.2.1) (fun y=>x.args.length-y.1.1) ⟨(0,s0,a,cap),Nat.zero_le _,hn0,rfl⟩ wk ⟨0,rfl⟩ ?_
  rintro⟨⟨i,s1,a1,c1⟩,hi,hn1,hs1⟩
  simp only at hi hn1 hs1 ⊢
  by_cases hlt:i<x.args.length
  ·have hlt':(i:Int)<x.args.length:=by omega
   rw[List.drop_eq_getElem_cons hlt,←getD_at hlt,ptsG_cons]at hs1
   ((repeat(first|refine wDB ?_|refine awp_seq_k fun K hK=>?_|(refine wH ?_;clear hK)));refine wN fun b5=>?_)
   (((repeat(first|refine wT ?_|refine wN fun bx=>?_)));(try refine wP ?_);repeat(refine wH ?_;clear hK))
   refine awp_boxSub [] (v':=.agg (tokEI (x.args.getD i default))) (Sub.of_eq rfl) ?_
   refine awp_freeze [] (s:=5) rfl rfl ?_
   generalize x.args.getD i default=t at hs1 ⊢
   repeat(first|refine wDB ?_|refine awp_seq_k fun K hK=>?_|refine wN fun bx=>?_|(refine wH ?_;clear hK))
   refine qcallH (G:=[_]) (fresh_c b m a1 c1 s1 t) ?_
   repeat(first|refine wDB ?_|refine awp_seq_k fun K hK=>?_|refine wN fun bx=>?_|(refine wH ?_;clear hK))
   refine qcallX (G:=[_]) (add_c b m a1 c1 (s1.fresh t) t (fresh_no s1 t) (by rw[fresh_ns];exact hn1)) fun q=>?_
   repeat(first|refine wDB ?_|refine awp_seq_k fun K hK=>?_|refine wN fun bx=>?_|(refine wH ?_;clear hK))
   exact⟨⟨(i+1,(s1.fresh t).add t,q.1,q.2),hlt,freshAdd_len t hn1,hs1⟩,wk,⟨0,rfl⟩,by simp only;omega⟩
  ·have hge:¬(i:Int)<x.args.length:=by omega
   obtain rfl:i=x.args.length:=by omega
   rw[List.drop_length]at hs1
   repeat(first|refine wDB ?_|refine awp_seq_k fun K hK=>?_|refine wN fun bx=>?_|(refine wH ?_;clear hK))
   exact fnQ_ret 1 rfl .nil (Sub.refl _) ⟨rfl,(a1,c1),by rw[hs0,←hs1];rfl⟩
 by_cases h4:x.k=4
 ·have e:stmtG x s=(argsF (fig0 (conF x.word.w)) x ((s.fresh x.new).meet (!(conF x.word.w).isSome) 5 x.word.ln x.word.co)).add x.new:=by
   unfold stmtG
   rw[if_neg h3,if_pos h4,none_some]
  rw[e]
  have g:=construction_c x.word.w
  rw[figV_eq]at g
  ((repeat(first|refine wDB ?_|refine awp_seq_k fun K hK=>?_|(refine wH ?_;clear hK)));refine wN fun b3=>?_;(repeat(first|refine wDB ?_|refine awp_seq_k fun K hK=>?_|refine wN fun bx=>?_|(refine wH ?_;clear hK))))
  refine qcallH (G:=[_]) (fresh_c b m a cap s x.new) ?_
  ((repeat(first|refine wDB ?_|refine awp_seq_k fun K hK=>?_|refine qpc rfl rfl rfl (g) ?_|refine qpo rfl rfl rfl rfl rfl rfl (fun _=>g) ?_|(refine wH ?_;clear hK)));refine wN fun b6=>?_;(repeat(first|refine wDB ?_|refine awp_seq_k fun K hK=>?_|refine wN fun bx=>?_|refine qpc rfl rfl rfl (g) ?_|refine qpo rfl rfl rfl rfl rfl rfl (fun _=>g) ?_|(refine wH ?_;clear hK))))
  refine qcallH (G:=[_,_]) (meet_c b m a cap (s.fresh x.new) _ 5 x.word.ln x.word.co) ?_
  repeat(first|refine wDB ?_|refine awp_seq_k fun K hK=>?_|refine wN fun bx=>?_|(refine wH ?_;clear hK))
  refine qcallH (G:=[_,_]) (args_c b m a cap _ x (fig0 (conF x.word.w)) (fig0_con _) hx) ?_
  repeat(first|refine wDB ?_|refine awp_seq_k fun K hK=>?_|refine wN fun bx=>?_|(refine wH ?_;clear hK))
  refine qcallX (G:=[_,_]) (add_c b m a cap _ x.new (fun h=>?_) ?_) fun q=>?_
  ·rw[make_ns]
   exact(make_zero h).2.1
  ·rw[make_ns]
   exact hn
  repeat(first|refine wDB ?_|refine awp_seq_k fun K hK=>?_|refine wN fun bx=>?_|(refine wH ?_;clear hK))
  exact fnQ_ret 2 rfl .nil (Sub.refl _) ⟨rfl,q,rfl⟩
 by_cases h5:x.k=5
 ·have e:stmtG x s=argsF (fig0 (preF x.word.w)) x (s.meet (!(preF x.word.w).isSome) 5 x.word.ln x.word.co):=by
   unfold stmtG
   rw[if_neg h3,if_neg h4,if_pos h5,none_some]
  rw[e]
  have g:=predicate_c x.word.w
  rw[figV_eq]at g
  ((repeat(first|refine wDB ?_|refine awp_seq_k fun K hK=>?_|refine qpc rfl rfl rfl (g) ?_|refine qpo rfl rfl rfl rfl rfl rfl (fun _=>g) ?_|(refine wH ?_;clear hK)));refine wN fun b3=>?_;(repeat(first|refine wDB ?_|refine awp_seq_k fun K hK=>?_|refine qpc rfl rfl rfl (g) ?_|refine qpo rfl rfl rfl rfl rfl rfl (fun _=>g) ?_|(refine wH ?_;clear hK)));refine wN fun b8=>?_;(repeat(first|refine wDB ?_|refine awp_seq_k fun K hK=>?_|refine wN fun bx=>?_|refine qpc rfl rfl rfl (g) ?_|refine qpo rfl rfl rfl rfl rfl rfl (fun _=>g) ?_|(refine wH ?_;clear hK))))
  refine qcallH (G:=[_,_]) (meet_c b m a cap s _ 5 x.word.ln x.word.co) ?_
  repeat(first|refine wDB ?_|refine awp_seq_k fun K hK=>?_|refine wN fun bx=>?_|(refine wH ?_;clear hK))
  refine qcallH (G:=[_,_]) (args_c b m a cap _ x (fig0 (preF x.word.w)) (fig0_pre _) hx) ?_
  repeat(first|refine wDB ?_|refine awp_seq_k fun K hK=>?_|refine wN fun bx=>?_|(refine wH ?_;clear hK))
  exact fnQ_ret 2 rfl .nil (Sub.refl _) ⟨rfl,(a,cap),rfl⟩
 ·have e:stmtG x s=s:=by
   unfold stmtG
   rw[if_neg h3,if_neg h4,if_neg h5]
  rw[e]
  ((repeat(first|refine wDB ?_|refine awp_seq_k fun K hK=>?_|(refine wH ?_;clear hK)));refine wN fun b3=>?_;(repeat(first|refine wDB ?_|refine awp_seq_k fun K hK=>?_|refine wN fun bx=>?_|(refine wH ?_;clear hK))))
  exact fnQ_ret 1 rfl .nil (Sub.refl _) ⟨rfl,(a,cap),rfl⟩
end Go.Proofs.YthfglhjdnpoepaaGreatDoor
namespace Go.Proofs.YthfglhjdnpoepaaGreatDoor
open Go.Ab
def lk0:LkR:=⟨0,0,0,[]⟩
theorem lookG_cons (n i:Nat) (x:StI) (l:List StI) (s:LkR):lookG n i (x::l) s=lookG n (i+1) l (stmtG x (s.meet (!placeB n i x) 4 x.l1 x.c1)):=rfl
theorem cbLook:Callable Tryz.prog 92:=fun _ _=>by kernel_rfl
theorem look_c (l:List StI) (hl:l.length≤10000000000000000) (hA:∀x∈l,x.args.length≤10000000000000000):
  ACalls Tryz.prog 92 [stmtsI l] [] (fun r H'=>∃b m a cap,r=.ret (.ptr b 0)∧H'=lkH b m a cap (lookF l)):=by
 refine acalls_of_awp tyok cbLook Tryz.func92 rfl rfl ?_
 repeat(first|refine wD ?_|refine awp_seq_k fun K hK=>?_|refine wN fun bx=>?_|(refine wH ?_;clear hK))
 refine TR.makeMap (fun m=>?_)
 ((repeat(first|refine wD ?_|refine awp_seq_k fun K hK=>?_|(refine wH ?_;clear hK)));refine wN fun b=>?_;(repeat(first|refine wD ?_|refine awp_seq_k fun K hK=>?_|refine wN fun bx=>?_|(refine wH ?_;clear hK))))
 refine awp_boxSub [] (v':=lkV m none 0 lk0) (subAgg (.cons (Sub.refl _) (.cons (Sub.refl _) (.cons (Sub.refl _) (.cons (Sub.refl _) (.cons (Sub.sl_nil txtE 1) .nil)))))) ?_
 refine awp_tok0 1 9 ?_
 refine awp_permS (H:=lkH b m none 0 lk0) (List.perm_append_comm (l₁:=[_]) (l₂:=[_,_])) ?_
 refine(have hr:=cutKF (Wk:=[(0,stmtsI l),(3,.ptr b 0)]) (H0:=lkH b m none 0 (LkR.meet ⟨0,0,0,[]⟩ (decide (l.length<3)) 4 (shortAt l).1 (shortAt l).2)) hK ?_;?_)
 ·generalize hs0:LkR.meet ⟨0,0,0,[]⟩ (decide (l.length<3)) 4 (shortAt l).1 (shortAt l).2=s0
  have hn0:s0.ns.length≤40:=by rw[←hs0,meet_ns];exact Nat.zero_le _
  have hfin:lookF l=lookG l.length 0 l s0:=by unfold lookF;rw[hs0]
  rw[hfin]
  repeat(first|refine wD ?_|refine awp_seq_k fun K hK=>?_|refine wN fun bx=>?_|(refine wH ?_;clear hK))
  refine awp_loop0 (ι:={y:Nat×LkR×Option Addr×Nat//y.1≤l.length∧y.2.1.ns.length≤40∧lookG l.length y.1 (l.drop y.1) y.2.1=lookG l.length 0 l s0})
   (fun y=>[(0,stmtsI l),(3,.ptr b 0),(30,stmtsI l),(31,.int .i64 l.length),(32,.int .i64 y.1.1)])
   (fun y=>lkH b m y.1.2.2.1 y.1.2.2.2 y.1.2.1) (fun y=>l.length-y.1.1) ⟨(0,s0,none,0),Nat.zero_le _,hn0,rfl⟩ wk ⟨0,rfl⟩ ?_
  rintro⟨⟨i,s1,a1,c1⟩,hi,hn1,hs1⟩
  simp only at hi hn1 hs1 ⊢
  by_cases hlt:i<l.length
  ·have hlt':(i:Int)<l.length:=by omega
   have hxa:(l.getD i default).args.length≤10000000000000000:=hA _ (by rw[getD_at hlt];exact List.getElem_mem hlt)
   rw[List.drop_eq_getElem_cons hlt,←getD_at hlt,lookG_cons]at hs1
   ((repeat(first|refine wDB ?_|refine awp_seq_k fun K hK=>?_|(refine wH ?_;clear hK)));refine wN fun b6=>?_)
   (((repeat(first|refine wT ?_|refine wN fun bx=>?_)));(try refine wP ?_);repeat(refine wH ?_;clear hK))
   refine awp_boxSub [] (v':=.agg (stmtEI (l.getD i default))) (Sub.of_eq rfl) ?_
   refine awp_freeze [] (s:=6) rfl rfl ?_
   generalize l.getD i default=x at hs1 hxa ⊢
   have gl:=limits_c x
   have hmn:∀v,(s1.meet v 4 x.l1 x.c1).ns.length≤40:=fun v=>by rw[meet_ns];exact hn1
   by_cases hi0:i=0
   ·have ep:placeB l.length i x=(decide (x.k=1)&&limB x.args):=by unfold placeB;rw[if_pos hi0]
    rw[ep]at hs1
    repeat(first|refine wDB ?_|refine awp_seq_k fun K hK=>?_|refine wN fun bx=>?_|refine qpc rfl rfl rfl (gl) ?_|refine qpo rfl rfl rfl rfl rfl rfl (fun _=>gl) ?_|(refine wH ?_;clear hK))
    refine qcallH (G:=[]) (meet_c b m a1 c1 s1 _ 4 x.l1 x.c1) ?_
    repeat(first|refine wDB ?_|refine awp_seq_k fun K hK=>?_|refine wN fun bx=>?_|(refine wH ?_;clear hK))
    refine qcallX (G:=[]) (lkstmt_c b m a1 c1 _ x hxa (hmn _)) fun q=>?_
    repeat(first|refine wDB ?_|refine awp_seq_k fun K hK=>?_|refine wN fun bx=>?_|(refine wH ?_;clear hK))
    exact⟨⟨(i+1,_,q.1,q.2),hlt,stmtG_len x (by rw[meet_ns];exact hn1),hs1⟩,wk,⟨0,rfl⟩,by simp only;omega⟩
   by_cases hi1:i=1
   ·have ep:placeB l.length i x=(x.k==2&&(x.word.w==wSimple || x.word.w==wFull)):=by unfold placeB;rw[if_neg hi0,if_pos hi1];rfl
    rw[ep]at hs1
    repeat(first|refine wDB ?_|refine awp_seq_k fun K hK=>?_|refine wN fun bx=>?_|refine qpc rfl rfl rfl (gl) ?_|refine qpo rfl rfl rfl rfl rfl rfl (fun _=>gl) ?_|(refine wH ?_;clear hK))
    refine qcallH (G:=[]) (meet_c b m a1 c1 s1 _ 4 x.l1 x.c1) ?_
    repeat(first|refine wDB ?_|refine awp_seq_k fun K hK=>?_|refine wN fun bx=>?_|(refine wH ?_;clear hK))
    refine qcallX (G:=[]) (lkstmt_c b m a1 c1 _ x hxa (hmn _)) fun q=>?_
    repeat(first|refine wDB ?_|refine awp_seq_k fun K hK=>?_|refine wN fun bx=>?_|(refine wH ?_;clear hK))
    exact⟨⟨(i+1,_,q.1,q.2),hlt,stmtG_len x (by rw[meet_ns];exact hn1),hs1⟩,wk,⟨0,rfl⟩,by simp only;omega⟩
   by_cases hin:i+1=l.length
   ·have ep:placeB l.length i x=(x.k==5):=by unfold placeB;rw[if_neg hi0,if_neg hi1,if_pos hin];rfl
    rw[ep]at hs1
    repeat(first|refine wDB ?_|refine awp_seq_k fun K hK=>?_|refine wN fun bx=>?_|refine qpc rfl rfl rfl (gl) ?_|refine qpo rfl rfl rfl rfl rfl rfl (fun _=>gl) ?_|(refine wH ?_;clear hK))
    refine qcallH (G:=[]) (meet_c b m a1 c1 s1 _ 4 x.l1 x.c1) ?_
    repeat(first|refine wDB ?_|refine awp_seq_k fun K hK=>?_|refine wN fun bx=>?_|(refine wH ?_;clear hK))
    refine qcallX (G:=[]) (lkstmt_c b m a1 c1 _ x hxa (hmn _)) fun q=>?_
    repeat(first|refine wDB ?_|refine awp_seq_k fun K hK=>?_|refine wN fun bx=>?_|(refine wH ?_;clear hK))
    exact⟨⟨(i+1,_,q.1,q.2),hlt,stmtG_len x (by rw[meet_ns];exact hn1),hs1⟩,wk,⟨0,rfl⟩,by simp only;omega⟩
   ·have ep:placeB l.length i x=(x.k==3 || x.k==4):=by unfold placeB;rw[if_neg hi0,if_neg hi1,if_neg hin];rfl
    rw[ep]at hs1
    repeat(first|refine wDB ?_|refine awp_seq_k fun K hK=>?_|refine wN fun bx=>?_|refine qpc rfl rfl rfl (gl) ?_|refine qpo rfl rfl rfl rfl rfl rfl (fun _=>gl) ?_|(refine wH ?_;clear hK))
    refine qcallH (G:=[]) (meet_c b m a1 c1 s1 _ 4 x.l1 x.c1) ?_
    repeat(first|refine wDB ?_|refine awp_seq_k fun K hK=>?_|refine wN fun bx=>?_|(refine wH ?_;clear hK))
    refine qcallX (G:=[]) (lkstmt_c b m a1 c1 _ x hxa (hmn _)) fun q=>?_
    repeat(first|refine wDB ?_|refine awp_seq_k fun K hK=>?_|refine wN fun bx=>?_|(refine wH ?_;clear hK))
    exact⟨⟨(i+1,_,q.1,q.2),hlt,stmtG_len x (by rw[meet_ns];exact hn1),hs1⟩,wk,⟨0,rfl⟩,by simp only;omega⟩
  ·have hge:¬(i:Int)<l.length:=by omega
   obtain rfl:i=l.length:=by omega
   rw[List.drop_length]at hs1
   repeat(first|refine wDB ?_|refine awp_seq_k fun K hK=>?_|refine wN fun bx=>?_|(refine wH ?_;clear hK))
   exact fnQ_ret 0 rfl (.tmp rfl .nil) (Sub.refl _) ⟨b,m,a1,c1,rfl,by rw[←hs1];rfl⟩
 ·clear hK
  by_cases h3:l.length<3
  ·have h3':(l.length:Int)<3:=by omega
   rw[decide_eq_true h3,meet_true rfl]at hr
   by_cases h0:l.length=0
   ·obtain rfl:=List.eq_nil_of_length_eq_zero h0
    have hz:(([]:List StI).length:Int)=0:=rfl
    ((repeat(first|refine wDB ?_|refine awp_seq_k fun K hK=>?_|(refine wH ?_;clear hK)));refine wN fun b4=>?_;(repeat(first|refine wDB ?_|refine awp_seq_k fun K hK=>?_|refine wN fun bx=>?_|(refine wH ?_;clear hK))))
    refine qcallH (G:=[_]) (meet_c b m none 0 lk0 true 4 1 1) ?_
    repeat(first|refine wDB ?_|refine awp_seq_k fun K hK=>?_|refine wN fun bx=>?_|(refine wH ?_;clear hK))
    refine hr _ [_] ?_
    exact wk
   ·have hg:l.getLast?=some (l.getD (l.length-1) default):=by
     rw[List.getLast?_eq_getElem?,getD_at (by omega),List.getElem?_eq_getElem (by omega)]
    have es:shortAt l=((l.getD (l.length-1) default).l2,(l.getD (l.length-1) default).c2):=by
     unfold shortAt
     rw[hg]
    rw[es]at hr
    have ei:((l.length:Int)-1).toNat=l.length-1:=by omega
    refine awp_cond rfl (fun _=>?_) (fun hb=>absurd h3' (of_decide_eq_false hb))
    ((repeat(first|refine wKB ?_|refine awp_seq_k fun K hK=>?_|(refine wH ?_;clear hK)));refine wN fun b4=>?_;(repeat(first|refine wKB ?_|refine awp_seq_k fun K hK=>?_|refine wN fun bx=>?_|(refine wH ?_;clear hK))))
    refine awp_boxSub [] (v':=placeV (l.getD (l.length-1) default).l2 (l.getD (l.length-1) default).c2) (Sub.of_eq ?_) ?_
    ·rw[ei];rfl
    repeat(first|refine wDB ?_|refine awp_seq_k fun K hK=>?_|refine wN fun bx=>?_|(refine wH ?_;clear hK))
    refine qcallH (G:=[_]) (meet_c b m none 0 lk0 true 4 (l.getD (l.length-1) default).l2 (l.getD (l.length-1) default).c2) ?_
    repeat(first|refine wDB ?_|refine awp_seq_k fun K hK=>?_|refine wN fun bx=>?_|(refine wH ?_;clear hK))
    refine hr _ [_] ?_
    exact wk
  ·have hge:¬(l.length:Int)<3:=by omega
   rw[decide_eq_false h3]at hr
   refine awp_cond rfl (fun hb=>absurd (of_decide_eq_true hb) hge) (fun _=>?_)
   repeat(first|refine wDB ?_|refine awp_seq_k fun K hK=>?_|refine wN fun bx=>?_|(refine wH ?_;clear hK))
   refine hr _ [] ?_
   exact wk
def placeL (s:LkR):AV:=placeV s.ln s.co
theorem cbChk:Callable Tryz.prog 58:=fun _ _=>by kernel_rfl
theorem check_c (l:List StI) (hl:l.length≤10000000000000000) (hA:∀x∈l,x.args.length≤10000000000000000):
  PCalls Tryz.prog 58 [stmtsI l] (.tuple [placeV (lookF l).ln (lookF l).co,.int .i64 (lookF l).e]):=by
 refine pcalls_of_awp tyok cbChk Tryz.func58 rfl rfl ?_
 ((repeat(first|refine wD ?_|refine awp_seq_k fun K hK=>?_|(refine wH ?_;clear hK)));refine wN fun b2=>?_;(repeat(first|refine wD ?_|refine awp_seq_k fun K hK=>?_|refine wN fun bx=>?_|(refine wH ?_;clear hK))))
 refine TR.hcall (Hc:=[]) rfl rfl rfl True.intro rfl rfl (List.Perm.refl _) (look_c l hl hA) (fun v H' hK=>?_) (fun v H' hK=>?_)
 rotate_left
 ·obtain⟨b,m,a,cap,e,_⟩:=hK
  cases e
 obtain⟨b,m,a,cap,e,rfl⟩:=hK
 cases e
 repeat(first|refine wK ?_|refine awp_seq_k fun K hK=>?_|refine wN fun bx=>?_|(refine wH ?_;clear hK))
 refine areg_kept mixed tyok [(10,[112])] [0,1,2,3,4,5,6,7,8,9,10,11] (by decide +kernel) ?_
 repeat(first|refine wD ?_|refine awp_seq_k fun K hK=>?_|refine wN fun bx=>?_|(refine wH ?_;clear hK))
 exact fnQ_ret 4 rfl (.cell rfl rfl (List.mem_of_getElem? (i:=3) rfl) rfl trivial (.tmp rfl .nil)) (Sub.refl _) ⟨rfl,rfl⟩
theorem cbPts:Callable Tryz.prog 59:=fun _ _=>by kernel_rfl
theorem shpoints_c (l:List StI) (hl:l.length≤10000000000000000) (hA:∀x∈l,x.args.length≤10000000000000000):
  PCalls Tryz.prog 59 [stmtsI l] (sl txtE 1 (if(lookF l).e=0 then(lookF l).ns else []) .view):=by
 refine pcalls_of_awp tyok cbPts Tryz.func59 rfl rfl ?_
 repeat(first|refine wD ?_|refine awp_seq_k fun K hK=>?_|refine wN fun bx=>?_|(refine wH ?_;clear hK))
 refine TR.hcall (Hc:=[]) rfl rfl rfl True.intro rfl rfl (List.Perm.refl _) (look_c l hl hA) (fun v H' hK=>?_) (fun v H' hK=>?_)
 rotate_left
 ·obtain⟨b,m,a,cap,e,_⟩:=hK
  cases e
 obtain⟨b,m,a,cap,e,rfl⟩:=hK
 cases e
 by_cases h:(lookF l).e=0
 ·repeat(first|refine wDB ?_|refine awp_seq_k fun K hK=>?_|refine wN fun bx=>?_|(refine wH ?_;clear hK))
  refine fnQ_ret 3 rfl (.tmp rfl .nil) ?_ ⟨rfl,rfl⟩
  rw[if_pos h]
  exact Sub.view _ _ _ _
 ·repeat(first|refine wDB ?_|refine awp_seq_k fun K hK=>?_|refine wN fun bx=>?_|(refine wH ?_;clear hK))
  refine fnQ_ret 3 rfl (.tmp rfl .nil) ?_ ⟨rfl,rfl⟩
  rw[if_neg h]
  exact Sub.nilsv _ _
end Go.Proofs.YthfglhjdnpoepaaGreatDoor
