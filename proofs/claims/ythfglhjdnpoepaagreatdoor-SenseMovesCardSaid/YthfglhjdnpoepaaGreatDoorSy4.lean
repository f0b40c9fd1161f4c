/-
  Plain law of SenseMoves: points that are moved, turned, stretched keep what holds.
-/
import Derived.Test.YthfglhjdnpoepaaGreatDoorSy0
set_option maxRecDepth 100000
namespace Go.Proofs.YthfglhjdnpoepaaGreatDoor
open Go.Ab
structure Moved (n:Nat) (t:Bool) (k:Rat) (P P':Nat→Rat×Rat):Prop where
 x:∀i j,i<n→j<n→wx (P' i) (P' j)=if t=true then -(k*wy (P i) (P j)) else k*wx (P i) (P j)
 y:∀i j,i<n→j<n→wy (P' i) (P' j)=if t=true then k*wx (P i) (P j) else k*wy (P i) (P j)
theorem moved_cross {n:Nat} {t:Bool} {k:Rat} {P P':Nat→Rat×Rat} (h:Moved n t k P P') {a b c d:Nat} (ha:a<n) (hb:b<n) (hc:c<n) (hd:d<n):
  crossQ (P' a) (P' b) (P' c) (P' d)=k*k*crossQ (P a) (P b) (P c) (P d):=by
 unfold crossQ
 rw[h.x a b ha hb,h.x c d hc hd,h.y a b ha hb,h.y c d hc hd]
 cases t<;>simp<;>grind
theorem moved_dot {n:Nat} {t:Bool} {k:Rat} {P P':Nat→Rat×Rat} (h:Moved n t k P P') {a b c d:Nat} (ha:a<n) (hb:b<n) (hc:c<n) (hd:d<n):
  dotQ (P' a) (P' b) (P' c) (P' d)=k*k*dotQ (P a) (P b) (P c) (P d):=by
 unfold dotQ
 rw[h.x a b ha hb,h.x c d hc hd,h.y a b ha hb,h.y c d hc hd]
 cases t<;>simp<;>grind
def homP (m:Nat) (p:PieceR):Bool:=decide (p.fs.length=m)&&p.fs.all fun f=>decide (f.k=3∨f.k=4)
def homE (e:List PieceR):Bool:=e.all (homP (e.headD default).fs.length)
theorem hom_facs {n:Nat} {t:Bool} {k:Rat} {P P':Nat→Rat×Rat} (h:Moved n t k P P'):∀(fs:List FormR) (x y:Rat),(∀f∈fs,FormIn n f∧(f.k=3∨f.k=4))→∀z,x=z*y→facsQ P' x fs=z*(k*k)^fs.length*facsQ P y fs
 |[],x,y,_,z,e=>by
  simp only[facsQ,List.foldl_nil,List.length_nil]
  rw[e]
  grind
 |f::fs,x,y,hf,z,e=>by
  obtain⟨hin,h34⟩:=hf f (List.mem_cons_self ..)
  have ef:formQ P' f=k*k*formQ P f:=by
   unfold formQ
   rcases h34 with h3|h3
   ·rw[if_neg (by omega),if_neg (by omega),if_pos h3,if_neg (by omega),if_neg (by omega),if_pos h3]
    have h1:=hin.a;have h2:=hin.b;have h3:=hin.c;have h4:=hin.d;exact moved_cross h (by omega) (by omega) (by omega) (by omega)
   ·rw[if_neg (by omega),if_neg (by omega),if_neg (by omega),if_neg (by omega),if_neg (by omega),if_neg (by omega)]
    have h1:=hin.a;have h2:=hin.b;have h3:=hin.c;have h4:=hin.d;exact moved_dot h (by omega) (by omega) (by omega) (by omega)
  have ih:=hom_facs h fs (x*formQ P' f) (y*formQ P f) (fun g hg=>hf g (List.mem_cons_of_mem _ hg)) (z*(k*k)) (by rw[e,ef];grind)
  show facsQ P' (x*formQ P' f) fs=_
  rw[ih,List.length_cons]
  show _=z*(k*k)^(fs.length+1)*facsQ P (y*formQ P f) fs
  rw[Rat.pow_succ]
  grind
theorem hom_sum {n m:Nat} {t:Bool} {k:Rat} {P P':Nat→Rat×Rat} {nums:List Int} (h:Moved n t k P P'):∀(e:List PieceR) (s s':Rat),(∀p∈e,PieceIn n nums.length p∧homP m p=true)→s'=(k*k)^m*s→sumQ P' nums s' e=(k*k)^m*sumQ P nums s e
 |[],s,s',_,e=>e
 |p::r,s,s',hp,e=>by
  obtain⟨hin,hh⟩:=hp p (List.mem_cons_self ..)
  unfold homP at hh
  simp only[Bool.and_eq_true,decide_eq_true_eq,List.all_eq_true]at hh
  have ep:pieceQ P' nums p=(k*k)^m*pieceQ P nums p:=by
   unfold pieceQ
   have:=hom_facs h p.fs ((p.n:Rat)*numQ nums p) ((p.n:Rat)*numQ nums p) (fun f hf=>⟨hin.fs f hf,hh.2 f hf⟩) 1 (by grind)
   rw[this,hh.1]
   grind
  exact hom_sum h r (s+pieceQ P nums p) (s'+pieceQ P' nums p) (fun q hq=>hp q (List.mem_cons_of_mem _ hq)) (by rw[e,ep];grind)
def linP (p:PieceR):Bool:=match p.fs with
 |[f]=>decide (f.k=1∨f.k=2)
 |_=>false
def turnP (p:PieceR):PieceR:=match p.fs with
 |[f]=>if f.k=1 then⟨p.n,p.f,[⟨2,f.a,f.b,f.c,f.d⟩]⟩ else⟨-p.n,p.f,[⟨1,f.a,f.b,f.c,f.d⟩]⟩
 |_=>p
theorem lin_piece {n:Nat} {t:Bool} {k:Rat} {P P':Nat→Rat×Rat} {nums:List Int} (h:Moved n t k P P') {p:PieceR} (hin:PieceIn n nums.length p) (hl:linP p=true):
  pieceQ P' nums p=(if t=true then -k*pieceQ P nums (turnP p) else k*pieceQ P nums p)∧
  pieceQ P' nums (turnP p)=(if t=true then k*pieceQ P nums p else k*pieceQ P nums (turnP p)):=by
 obtain⟨z,y,fs⟩:=p
 unfold linP at hl
 match fs,hl with
 |[f],hl=>
  have hf:=hin.fs f (List.mem_cons_self ..)
  have h1:=hf.a
  have h2:=hf.b
  have hx:=h.x f.a.toNat f.b.toNat (by omega) (by omega)
  have hy:=h.y f.a.toNat f.b.toNat (by omega) (by omega)
  have hl:f.k=1∨f.k=2:=of_decide_eq_true hl
  rcases hl with e|e
  ·have et:turnP ⟨z,y,[f]⟩=⟨z,y,[⟨2,f.a,f.b,f.c,f.d⟩]⟩:=by unfold turnP;simp only;rw[if_pos e]
   rw[et]
   simp only[pieceQ,facsQ,List.foldl_cons,List.foldl_nil,formQ,e,numQ,if_true,if_false,Int.reduceEq,hx,hy]
   cases t<;>simp<;>grind
  ·have et:turnP ⟨z,y,[f]⟩=⟨-z,y,[⟨1,f.a,f.b,f.c,f.d⟩]⟩:=by unfold turnP;simp only;rw[if_neg (by omega)]
   rw[et]
   simp only[pieceQ,facsQ,List.foldl_cons,List.foldl_nil,formQ,e,numQ,if_true,if_false,Int.reduceEq,hx,hy,Rat.intCast_neg]
   cases t<;>simp<;>grind
theorem lin_sum {n:Nat} {t:Bool} {k:Rat} {P P':Nat→Rat×Rat} {nums:List Int} (h:Moved n t k P P'):∀(e:List PieceR) (a b a' b':Rat),(∀p∈e,PieceIn n nums.length p∧linP p=true)→
  a'=(if t=true then -k*b else k*a)→b'=(if t=true then k*a else k*b)→
  sumQ P' nums a' e=(if t=true then -k*sumQ P nums b (e.map turnP) else k*sumQ P nums a e)∧sumQ P' nums b' (e.map turnP)=(if t=true then k*sumQ P nums a e else k*sumQ P nums b (e.map turnP))
 |[],a,b,a',b',_,ea,eb=>⟨ea,eb⟩
 |p::r,a,b,a',b',hp,ea,eb=>by
  obtain⟨hin,hh⟩:=hp p (List.mem_cons_self ..)
  obtain⟨e1,e2⟩:=lin_piece h hin hh
  exact lin_sum h r (a+pieceQ P nums p) (b+pieceQ P nums (turnP p)) (a'+pieceQ P' nums p) (b'+pieceQ P' nums (turnP p)) (fun q hq=>hp q (List.mem_cons_of_mem _ hq))
   (by rw[ea,e1];cases t<;>simp<;>grind) (by rw[eb,e2];cases t<;>simp<;>grind)
def moveB (f:FigR):Bool:=f.eqs.all homE || match f.eqs with
 |[a,b]=>decide (b=a.map turnP)&&a.all linP
 |_=>false
theorem conL_move:conL.all moveB=true:=by decide +kernel
theorem preL_move:preL.all moveB=true:=by decide +kernel
theorem pow_ne {x:Rat} (h:x≠0):∀m:Nat,x^m≠0
 |0=>by rw[Rat.pow_zero];decide
 |m+1=>by
  rw[Rat.pow_succ]
  have:=pow_ne h m
  grind
theorem moved_zero {n:Nat} {t:Bool} {k:Rat} {P P':Nat→Rat×Rat} {nums:List Int} {f:FigR} (hk:k≠0) (h:Moved n t k P P') (hin:FigIn n nums.length f) (hm:moveB f=true):
  zeroL (f.eqs.map (eqQ P' nums))=zeroL (f.eqs.map (eqQ P nums)):=by
 unfold moveB at hm
 rcases Bool.or_eq_true_iff.1 hm with hm|hm
 ·have:∀e∈f.eqs,decide (eqQ P' nums e=0)=decide (eqQ P nums e=0):=fun e he=>by
   have hh:=List.all_eq_true.1 hm e he
   unfold homE at hh
   have:=hom_sum (m:=(e.headD default).fs.length) h e 0 0 (fun p hp=>⟨(hin.eqs e he).ps p hp,List.all_eq_true.1 hh p hp⟩) (by grind)
   have hz:(k*k)^(e.headD default).fs.length≠0:=pow_ne (by grind) _
   rw[decide_eq_decide]
   unfold eqQ
   rw[this]
   grind
  unfold zeroL
  rw[List.all_map,List.all_map]
  generalize f.eqs=es at this
  induction es with
  |nil=>rfl
  |cons e es ih=>
   rw[List.all_cons,List.all_cons,ih fun x hx=>this x (List.mem_cons_of_mem _ hx)]
   show(decide (eqQ P' nums e=0)&&_)=_
   rw[this e (List.mem_cons_self ..)]
   rfl
 ·obtain⟨w,pts,nn,unl,eqs,bw,bp⟩:=f
  simp only at hm hin ⊢
  match eqs,hm with
  |[a,b],hm=>
   simp only[Bool.and_eq_true,decide_eq_true_eq,List.all_eq_true]at hm
   obtain⟨rfl,hl⟩:=hm
   obtain⟨e1,e2⟩:=lin_sum h a 0 0 0 0 (fun p hp=>⟨(hin.eqs a (List.mem_cons_self ..)).ps p hp,hl p hp⟩) (by cases t<;>simp) (by cases t<;>simp)
   unfold zeroL eqQ
   simp only[List.map_cons,List.map_nil,List.all_cons,List.all_nil,Bool.and_true,e1,e2]
   have hm:∀x:Rat,decide (k*x=0)=decide (x=0):=fun x=>decide_eq_decide.2 (by grind)
   have hn:∀x:Rat,decide (-k*x=0)=decide (x=0):=fun x=>decide_eq_decide.2 (by grind)
   cases t
   ·simp only[Bool.false_eq_true,if_false,hm]
   ·simp only[if_true,hm,hn,Bool.and_comm]
structure MovedL (t:Bool) (k:Rat) (by':Rat×Rat) (l l':List SpotR):Prop where
 len:l'.length=l.length
 at':∀i,i<l.length→(l'.getD i default).p=if t=true then(-(l.getD i default).p.2*k+by'.1,(l.getD i default).p.1*k+by'.2) else((l.getD i default).p.1*k+by'.1,(l.getD i default).p.2*k+by'.2)
theorem MovedL.moved {t:Bool} {k:Rat} {by':Rat×Rat} {l l':List SpotR} (h:MovedL t k by' l l'):Moved l.length t k (spP l) (spP l'):=by
 refine⟨fun i j hi hj=>?_,fun i j hi hj=>?_⟩
 ·unfold wx wy spP
  rw[h.at' i hi,h.at' j hj]
  cases t<;>simp<;>grind
 ·unfold wx wy spP
  rw[h.at' i hi,h.at' j hj]
  cases t<;>simp<;>grind
def mvP (t:Bool) (k:Rat) (by':Rat×Rat) (p:Rat×Rat):Rat×Rat:=if t=true then(-p.2*k+by'.1,p.1*k+by'.2) else(p.1*k+by'.1,p.2*k+by'.2)
theorem movedL_of {t:Bool} {k:Rat} {by':Rat×Rat} {l l':List SpotR} (hl:l'.length=l.length) (h:∀i,i<l.length→(l'.getD i default).p=mvP t k by' (l.getD i default).p):MovedL t k by' l l':=⟨hl,h⟩
theorem MovedL.cons {t:Bool} {k:Rat} {by':Rat×Rat} {x x':SpotR} {l l':List SpotR} (hx:x'.p=mvP t k by' x.p) (h:MovedL t k by' l l'):MovedL t k by' (x::l) (x'::l'):=
 movedL_of (by rw[List.length_cons,List.length_cons,h.len]) fun i hi=>by
  cases i with
  |zero=>exact hx
  |succ i=>exact h.at' i (by rw[List.length_cons]at hi;omega)
theorem MovedL.map {α:Type} {t:Bool} {k:Rat} {by':Rat×Rat} {f g:α→SpotR}:∀{a:List α},(∀x∈a,(g x).p=mvP t k by' (f x).p)→MovedL t k by' (a.map f) (a.map g)
 |[],_=>movedL_of rfl fun _ hi=>absurd hi (Nat.not_lt_zero _)
 |x::_,h=>MovedL.cons (h x (List.mem_cons_self ..)) (MovedL.map fun y hy=>h y (List.mem_cons_of_mem _ hy))
theorem moved_whP {t:Bool} {k:Rat} {by':Rat×Rat} {ns:List (List UInt8)} {l l':List SpotR} {w:List UInt8} (h:MovedL t k by' l l') (hl:l.length=ns.length) (hw:w∈ns):(whP ns l' w).p=mvP t k by' (whP ns l w).p:=by
 have:=idxL_mem hw
 exact h.at' _ (by omega)
theorem moved_step {t:Bool} {k:Rat} {by':Rat×Rat} {ns:List (List UInt8)} {l l':List SpotR} (hk:k≠0) (h:MovedL t k by' l l') (hl:l.length=ns.length) (s:Bool×Bool) (x:StI)
  (w:3≤x.k→(∀t∈x.args,t.k≠3→t.w∈ns)∧(x.k=4→x.new.w∈ns)):stepS ns l' s x=stepS ns l s x:=by
 unfold stepS
 by_cases h4:x.k=4
 ·obtain⟨w2,w3⟩:=w (by omega)
  rw[if_pos h4,if_pos h4]
  have ha:MovedL t k by' (ptsS ns l x.args) (ptsS ns l' x.args):=MovedL.map fun t ht=>by
   have:=List.mem_filter.1 ht
   exact moved_whP h hl (w2 t this.1 (of_decide_eq_true this.2))
  have hn:=moved_whP h hl (w3 h4)
  have hc:=MovedL.cons hn ha
  have e:zeroL (madeQ x.word.w (whP ns l' x.new.w) (ptsS ns l' x.args) (numS x.args)).1=zeroL (madeQ x.word.w (whP ns l x.new.w) (ptsS ns l x.args) (numS x.args)).1:=by
   unfold madeQ
   cases hcf:conF x.word.w with
   |none=>rfl
   |some f=>
    simp only[ha.len]
    by_cases e:((ptsS ns l x.args).length:Int)=f.pts∧((numS x.args).length:Int)=f.nums
    ·rw[if_pos e,if_pos e]
     have hfin:=(figB_in (n:=(whP ns l x.new.w::ptsS ns l x.args).length) (m:=(numS x.args).length) (con_in hcf) (by rw[List.length_cons];omega) e.2).1
     exact moved_zero hk hc.moved hfin (List.all_eq_true.1 conL_move f (con_mem hcf).1)
    ·rw[if_neg e,if_neg e]
  rw[e]
 rw[if_neg h4,if_neg h4]
 by_cases h5:x.k=5
 ·obtain⟨w2,_⟩:=w (by omega)
  rw[if_pos h5,if_pos h5]
  have ha:MovedL t k by' (ptsS ns l x.args) (ptsS ns l' x.args):=MovedL.map fun t ht=>by
   have:=List.mem_filter.1 ht
   exact moved_whP h hl (w2 t this.1 (of_decide_eq_true this.2))
  have e:zeroL (askedQ x.word.w (ptsS ns l' x.args)).1=zeroL (askedQ x.word.w (ptsS ns l x.args)).1:=by
   unfold askedQ
   cases hcf:preF x.word.w with
   |none=>rfl
   |some f=>
    simp only[ha.len]
    by_cases e:((ptsS ns l x.args).length:Int)=f.pts
    ·rw[if_pos e,if_pos e]
     have hnm:f.nums=0:=by
      have:preL.all (fun f=>decide (f.nums=0))=true:=by decide +kernel
      exact of_decide_eq_true (List.all_eq_true.1 this f (pre_mem hcf).1)
     have hfin:=(figB_in (n:=(ptsS ns l x.args).length) (m:=([]:List Int).length) (pre_in hcf) (by omega) (by rw[hnm];rfl)).1
     exact moved_zero hk ha.moved hfin (List.all_eq_true.1 preL_move f (pre_mem hcf).1)
    ·rw[if_neg e,if_neg e]
  rw[e]
 ·rw[if_neg h5,if_neg h5]
theorem moved_fold {t:Bool} {k:Rat} {by':Rat×Rat} {ns:List (List UInt8)} {l l':List SpotR} (hk:k≠0) (h:MovedL t k by' l l') (hl:l.length=ns.length):∀(r:List StI) (s:Bool×Bool),
  (∀x∈r,3≤x.k→(∀t∈x.args,t.k≠3→t.w∈ns)∧(x.k=4→x.new.w∈ns))→r.foldl (stepS ns l') s=r.foldl (stepS ns l) s
 |[],s,_=>(List.foldl_nil (f:=stepS ns l') (b:=s)).trans (List.foldl_nil (f:=stepS ns l) (b:=s)).symm
 |x::r,s,wf=>by
  rw[List.foldl_cons,List.foldl_cons,moved_step hk h hl s x (wf x (List.mem_cons_self ..))]
  exact moved_fold hk h hl r _ fun y hy=>wf y (List.mem_cons_of_mem _ hy)
theorem wf_all {r:List StI} (he:(lookF r).e=0):∀x∈r,3≤x.k→(∀t∈x.args,t.k≠3→t.w∈namesF r)∧(x.k=4→x.new.w∈namesF r):=fun x hx h3=>by
 obtain⟨i,hi,e⟩:=List.mem_iff_getElem.1 hx
 have:=wf_stmt he hi (by rw[getD_eq_getElem' hi,e];exact h3)
 rw[getD_eq_getElem' hi,e]at this
 exact⟨this.2.1,this.2.2.1⟩
theorem moved_sense {t:Bool} {k:Rat} {by':Rat×Rat} {l l':List SpotR} (hk:k≠0) (h:MovedL t k by' l l') (r:List StI):senseF r l'=senseF r l:=by
 by_cases he:(lookF r).e=0
 ·by_cases hl:l.length=(namesF r).length
  ·have e1:=senseF_ok he hl
   have e2:=senseF_ok (l:=l') he (h.len.trans hl)
   rw[moved_fold hk h hl r _ (wf_all he)]at e2
   exact e2.trans e1.symm
  ·have e1:=senseF_n he hl
   have e2:=senseF_n (l:=l') he (fun e=>hl (h.len.symm.trans e))
   exact e2.trans e1.symm
 ·have e1:=senseF_e (l:=l) he
  have e2:=senseF_e (l:=l') he
  exact e2.trans e1.symm
end Go.Proofs.YthfglhjdnpoepaaGreatDoor
