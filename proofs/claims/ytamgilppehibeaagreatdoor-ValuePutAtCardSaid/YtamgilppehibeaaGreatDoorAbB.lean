/-
  Regions that draw their order: a chain of steps in one order stands for all, where what acts is in a fixed place.
-/
import Derived.Test.YtamgilppehibeaaGreatDoorAbA
import Derived.StillTail
import Derived.KernelRfl
import Derived.RangeFuncNested
import Derived.Below
import Derived.Laws.StructEq
import Derived.RecoverIn
namespace Go.Ab
def readsOf (l0:List Oper) (o:Oper):List Nat:=tmpsOf o.op++(match o.guard with
 |some (j,_)=>(gdst l0 j).toList
 |none=>[])
def putR (d:Option Tmp) (r:Option AV) (T:Tmps):Tmps:=
 match d with
 |some d=>match r with
  |some v=>(d,v)::T
  |none=>T
 |none=>T
section
variable {P:Program} {N:Nat} {ty:TypeId→Option TyI} {l0:List Oper} {LD:LDs} {Q:APost}
def Step (P:Program) (N:Nat) (l0:List Oper) (o:Oper) (T:Tmps) (H:AHeap) (K:Option AV→AHeap→Prop) (Q:APost):Prop:=
 ∀E st w a ro B0 next,Conc E st H w→a.tmps.size=N→Fr ro B0 H w a.defers→(∀t∈readsOf l0 o,∀v,lk T t=some v→∃c,a.tmps[t]?=some c∧Rep st w v c)→
  (∀st' w' c r H',Conc E st' H' w'→Fr ro B0 H' w' a.defers→Keeps st st' w w'→(∀v,r=some v→Rep st' w' v c)→K r H'→next (a.put o.dst c) w')→
  (if Region.wanted o (yielded l0.toArray a.tmps) then o.wpIn (fen ro) 0 P a w next (Post E N ro B0 Q) else next (a.put o.dst undef) w)
def dstIs:Option Nat→Nat→Bool
 |none,_=>false
 |some d,t=>Nat.beq d t
def keepT (l0:List Oper) (T:Tmps):Tmps:=T.filter fun p=>l0.all fun o=> !dstIs o.dst p.1
def pQ (l0:List Oper) (Q:APost):APost
 |.panic v,T,H=>Q (.panic v) (keepT l0 T) H
 |x,T,H=>Q x T H
theorem pQ_normal {l0:List Oper} {Q:APost} {T:Tmps} {H:AHeap} (h:Q .normal T H):pQ l0 Q .normal T H:=h
theorem pQ_panic {l0:List Oper} {Q:APost} {v:AV} {T:Tmps} {H:AHeap} (h:Q (.panic v) (keepT l0 T) H):pQ l0 Q (.panic v) T H:=h
theorem lk_keepT {l0:List Oper}:∀{T:Tmps} {t:Nat} {v:AV},lk (keepT l0 T) t=some v→lk T t=some v∧∀o∈l0,o.dst≠some t
 |[],t,v,h=>by simp[keepT,lk]at h
 |(d,u)::T,t,v,h=>by
  by_cases e:d=t
  ·subst e
   by_cases hd:(l0.all fun o=> !dstIs o.dst d)=true
   ·have h':lk ((d,u)::keepT l0 T) d=some v:=by
     have:keepT l0 ((d,u)::T)=(d,u)::keepT l0 T:=List.filter_cons_of_pos hd
     rwa [this]at h
    refine⟨by simpa [lk]using h',fun o ho e=>?_⟩
    have:=List.all_eq_true.1 hd o ho
    rw[e]at this
    simp[dstIs]at this
   ·have:keepT l0 ((d,u)::T)=keepT l0 T:=List.filter_cons_of_neg hd
    rw[this]at h
    obtain⟨_,h2⟩:=lk_keepT h
    refine absurd (List.all_eq_true.2 fun o ho=>?_) hd
    have:=h2 o ho
    cases hod:o.dst with
    |none=>rfl
    |some x=>
     have:x≠d:=fun e=>this (by rw[hod,e])
     simp[dstIs,beq_ne this]
  ·have h':lk (keepT l0 T) t=some v:=by
    by_cases hd:(l0.all fun o=> !dstIs o.dst d)=true
    ·have:keepT l0 ((d,u)::T)=(d,u)::keepT l0 T:=List.filter_cons_of_pos hd
     rw[this]at h
     simpa [lk,beq_ne e]using h
    ·have:keepT l0 ((d,u)::T)=keepT l0 T:=List.filter_cons_of_neg hd
     rwa [this]at h
   obtain⟨h1,h2⟩:=lk_keepT h'
   exact⟨by simpa [lk,beq_ne e]using h1,h2⟩
def StepH (P:Program) (N:Nat) (l0:List Oper) (o:Oper) (T:Tmps) (H:AHeap) (K:Option AV→AHeap→Prop) (Q:APost):Prop:=
 ∀E st w a ro B0 next,Conc E st H w→a.tmps.size=N→Fr ro B0 H w a.defers→(∀t∈readsOf l0 o,∀v,lk T t=some v→∃c,a.tmps[t]?=some c∧Rep st w v c)→
  (∀t v,lk (keepT l0 T) t=some v→∃c,a.tmps[t]?=some c∧Rep st w v c)→
  (∀st' w' c r H',Conc E st' H' w'→Fr ro B0 H' w' a.defers→Keeps st st' w w'→(∀v,r=some v→Rep st' w' v c)→K r H'→next (a.put o.dst c) w')→
  (if Region.wanted o (yielded l0.toArray a.tmps) then o.wpIn (fen ro) 0 P a w next (Post E N ro B0 Q) else next (a.put o.dst undef) w)
theorem wanted_in {ro:Option Nat} {o:Oper} {w:World} {a:Act} {X Y:Prop} {b:Bool} (h:if b then X else Y):if b then X else(∀f,o.about P w a.eval=some f→(fen ro).fn f)∧Y:=by
 cases b
 ·exact⟨fun _ _=>trivial,h⟩
 ·exact h
theorem yielded_at {st:Stab} {w:World} {T:Tmps} {a:Act} {j dj:Nat} {x:Bool} {L:List Nat} (hf:∀t∈L,∀v,lk T t=some v→∃c,a.tmps[t]?=some c∧Rep st w v c) (hm:dj∈L)
  (hj:gdst l0 j=some dj) (hb:lk T dj=some (.bool x)):yielded l0.toArray a.tmps j=some x:=by
 obtain⟨c,h1,h2⟩:=hf dj hm _ hb
 obtain rfl:=h2.bool_eq
 unfold gdst at hj
 simp[yielded,hj,h1]
theorem off_at {st:Stab} {w:World} {T:Tmps} {a:Act} {o:Oper} {j dj:Nat} {b:Bool} {u:AV} {L:List Nat} (hf:∀t∈L,∀v,lk T t=some v→∃c,a.tmps[t]?=some c∧Rep st w v c) (hm:dj∈L)
  (hg:o.guard=some (j,b)) (hj:gdst l0 j=some dj) (hb:lk T dj=some u) (hx:isOff u b=true):Region.wanted o (yielded l0.toArray a.tmps)=false:=by
 obtain⟨c,h1,h2⟩:=hf dj hm _ hb
 have:=isOff_rep hx h2
 unfold gdst at hj
 simp only[Region.wanted,hg,yielded,List.getElem?_toArray,hj,Option.bind_some,h1]
 exact this
theorem wanted_at {st:Stab} {w:World} {T:Tmps} {a:Act} {o:Oper} {j dj:Nat} {g x b:Bool} {L:List Nat} (hf:∀t∈L,∀v,lk T t=some v→∃c,a.tmps[t]?=some c∧Rep st w v c) (hm:dj∈L)
  (hg:o.guard=some (j,g)) (hj:gdst l0 j=some dj) (hb:gcond (lk T dj) g=some (x,b)):Region.wanted o (yielded l0.toArray a.tmps)=decide (x=b):=by
 cases hl:lk T dj with
 |none=>rw[hl]at hb;cases hb
 |some u=>
  rw[hl]at hb
  obtain⟨c,h1,h2⟩:=hf dj hm _ hl
  have:=gcond_rep hb h2
  unfold gdst at hj
  simp only[Region.wanted,hg,yielded,List.getElem?_toArray,hj,Option.bind_some,h1]
  exact this
theorem reads_g {o:Oper} {j dj:Nat} {b:Bool} (hg:o.guard=some (j,b)) (hj:gdst l0 j=some dj):dj∈readsOf l0 o:=by simp[readsOf,hg,hj]
theorem reads_t {o:Oper} {t:Nat} (h:t∈tmpsOf o.op):t∈readsOf l0 o:=by simp[readsOf,h]
theorem TR.soft (hty:TyOk P ty):∀{L:List (Nat×Oper)} {T:Tmps} {H:AHeap},TR P N ty l0 LD false Q L T H→∀{i:Nat} {o:Oper} {l:List (Nat×Oper)},L=(i,o)::l→(hardOp o.op&& !(isCallV o.op&&LD.sc i))=false→
  ∃(res:Option AV) (need:AHeap),(∀H',(∀e∈need,e∈H')→∀Q2,Step P N l0 o T H' (fun r H2=>r=res∧H2=H') Q2)∧(∀e∈need,e∈H∧∃b t u,e=.box b t u∧LD.ld i t=true)∧True∧
   TR P N ty l0 LD false Q l (putR o.dst res T) H∧(res=none→∀d,o.dst=some d→lk T d=none):=by
 intro L T H h
 induction h with
 |nil h=>intro i o l e;cases e
 | @pure i o l T H p v d hg hdst hN hv ho hp k _=>
   intro i' o' l' e hs
   cases e
   refine⟨some v,[],fun H' _ Q2 E st w a ro B0 next hc hsz hd hf hk=>?_,by simp,by simp,by rw[hdst];exact k,by simp⟩
   obtain⟨c,h1,h2⟩:=aeval_sound (P:=P) hty (fun x u hx=>opvL_rep (N:=N) (fun t ht=>hf t (reads_t ht)) ho trivial hsz hx) hv hp
   rw[if_pos (wanted_none hg)]
   exact(wp_of_value h1 (hk st w c (some v) H' hc hd (Keeps.refl _ _) (fun u hu=>by cases hu;exact h2) ⟨rfl,rfl⟩))
 | @sem i o l T H v d hg hdst hN ho hv k _=>
   intro i' o' l' e hs
   cases e
   refine⟨some v,[],fun H' _ Q2 E st w a ro B0 next hc hsz hd hf hk=>?_,by simp,by simp,by rw[hdst];exact k,by simp⟩
   obtain⟨c,h1,h2⟩:=hv st w a.eval (fun x u hx=>opvL_rep (N:=N) (fun t ht=>hf t (reads_t ht)) ho trivial hsz hx)
   rw[if_pos (wanted_none hg)]
   exact(wp_of_value h1 (hk st w c (some v) H' hc hd (Keeps.refl _ _) (fun u hu=>by cases hu;exact h2) ⟨rfl,rfl⟩))
 | @on i o l T H j b dj hg hj hb k ih=>
   intro i' o' l' e hs
   cases e
   obtain⟨res,need,h1,h2,h3,h4,h5⟩:=ih rfl hs
   refine⟨res,need,fun H' hn Q2 E st w a ro B0 next hc hsz hd hf hk=>?_,h2,h3,h4,h5⟩
   have:=h1 H' hn Q2 E st w a ro B0 next hc hsz hd (fun t ht=>hf t (reads_t (by simpa [readsOf]using ht))) hk
   rw[if_pos (wanted_none rfl)]at this
   rw[if_pos (by simp[Region.wanted,hg,yielded_at hf (reads_g hg hj) hj hb])]
   exact this
 | @off i o l T H j b u dj d hg hj hb hx hdst hN k _=>
   intro i' o' l' e hs
   cases e
   refine⟨some (.tuple []),[],fun H' _ Q2 E st w a ro B0 next hc hsz hd hf hk=>?_,by simp,by simp,by rw[hdst];exact k,by simp⟩
   rw[off_at hf (reads_g hg hj) hg hj hb hx]
   exact hk st w undef _ H' hc hd (Keeps.refl _ _) (fun u hu=>by cases hu;exact undef_rep st w) ⟨rfl,rfl⟩
 | @opt i o l T H p v d j g b x dj hg hj hb hdst hN hv ho hp k _=>
   intro i' o' l' e hs
   cases e
   refine⟨some (.opt x b v),[],fun H' _ Q2 E st w a ro B0 next hc hsz hd hf hk=>?_,by simp,by simp,by rw[hdst];exact k,by simp⟩
   by_cases hxb:x=b
   ·have hw:Region.wanted o (yielded l0.toArray a.tmps)=true:=by
     rw[wanted_at hf (reads_g hg hj) hg hj hb];simp[hxb]
    rw[hw]
    obtain⟨c,h1,h2⟩:=aeval_sound (P:=P) hty (fun y u hy=>opvL_rep (N:=N) (fun t ht=>hf t (reads_t ht)) ho hxb hsz hy) hv (hp hxb)
    exact(wp_of_value h1 (hk st w c _ H' hc hd (Keeps.refl _ _) (fun u hu=>by cases hu;exact .opt _ _ _ _ (fun _=>h2) (fun e=>absurd hxb e)) ⟨rfl,rfl⟩))
   ·have hw:Region.wanted o (yielded l0.toArray a.tmps)=false:=by
     rw[wanted_at hf (reads_g hg hj) hg hj hb];simp[hxb]
    rw[hw]
    exact hk st w undef _ H' hc hd (Keeps.refl _ _) (fun u hu=>by cases hu;exact .opt _ _ _ _ (fun e=>absurd e hxb) (fun _=>rfl)) ⟨rfl,rfl⟩
 | @hard i o l T H K hh hg hN ho h k kp _ hsc _=>
   intro i' o' l' e hs
   cases e
   rcases hh with hh|hh
   ·cases hh
   ·rw[hh]at hs
    cases hcv:isCallV o.op with
    |false=>rw[hcv]at hs;cases hs
    |true=>rw[hcv,hsc hcv]at hs;cases hs
 | @pcl i o l T H u d hg hdst hN ho hcv h k _=>
   intro i' o' l' e hs
   cases e
   refine⟨some u,[],fun H' _ Q2 E st w a ro B0 next hc hsz hd hf hk=>?_,by simp,trivial,by rw[hdst];exact k,by simp⟩
   rw[if_pos (wanted_none hg)]
   refine(h H') (Env0.of w st H') st w a ro next (Post E N ro B0 Q2) hc.start (fun y u hy=>opvL_rep (N:=N) (fun t ht=>hf t (reads_t ht)) ho trivial hsz hy) hd.gl ?_ ?_
   ·rintro st' w' v c H2 h1 h2 h3 ⟨e,rfl⟩
    cases e
    exact hk st' w' c (some u) _ (hc.trans h1) (hd.keep h1) h2 (fun u hu=>by cases hu;exact h3) ⟨rfl,rfl⟩
   ·rintro st' w' v c H2 h1 h2 h3 ⟨e,rfl⟩
    cases e
 | @hload i o l T H t x ti b off ty0 u p v d hg hop hdst hN hx hon ht hm hv hp hl k _=>
   intro i' o' l' e hs
   cases e
   refine⟨some v,[.box b ty0 u],fun H' hn Q2 E st w a ro B0 next hc hsz hd hf hk=>?_,fun e he=>by rw[List.mem_singleton.1 he];exact⟨hm,_,_,_,rfl,hl⟩,trivial,by rw[hdst];exact k,by simp⟩
   have hr:=opvL_rep (N:=N) (fun t ht=>hf t (reads_t ht)) hon trivial hsz hx
   obtain⟨c,h1,h2⟩:=boxAt_sound (P:=P) hty ht (hc.ents (.box b ty0 u) (hn _ (by simp))) hv hp
   have he:a.eval x=.pointer (some ⟨b,off,none⟩):=by
    generalize a.eval x=y at hr
    cases hr
    rfl
   rw[if_pos (wanted_none hg)]
   refine(wp_of_value (c:=c) ?_ (hk st w c _ H' hc hd (Keeps.refl _ _) (fun u hu=>by cases hu;exact h2) ⟨rfl,rfl⟩))
   unfold execOp
   rw[hop]
   simp only[he]
   exact exec_v h1
 | @hopt i o l T H t y ti bb off ty0 u p v d j g b x dj hg hj hb hop hdst hN hx hon ht hm hv hp hl k _=>
   intro i' o' l' e hs
   cases e
   refine⟨some (.opt x b v),[.box bb ty0 u],fun H' hn Q2 E st w a ro B0 next hc hsz hd hf hk=>?_,fun e he=>by rw[List.mem_singleton.1 he];exact⟨hm,_,_,_,rfl,hl⟩,trivial,by rw[hdst];exact k,by simp⟩
   by_cases hxb:x=b
   ·have hw:Region.wanted o (yielded l0.toArray a.tmps)=true:=by
     rw[wanted_at hf (reads_g hg hj) hg hj hb];simp[hxb]
    rw[hw]
    have hr:=opvL_rep (N:=N) (fun t ht=>hf t (reads_t ht)) hon hxb hsz hx
    obtain⟨c,h1,h2⟩:=boxAt_sound (P:=P) hty ht (hc.ents (.box bb ty0 u) (hn _ (by simp))) hv (hp hxb)
    have he:a.eval y=.pointer (some ⟨bb,off,none⟩):=by
     generalize a.eval y=q at hr
     cases hr
     rfl
    refine(wp_of_value (c:=c) ?_ (hk st w c _ H' hc hd (Keeps.refl _ _) (fun u hu=>by cases hu;exact .opt _ _ _ _ (fun _=>h2) (fun e=>absurd hxb e)) ⟨rfl,rfl⟩))
    unfold execOp
    rw[hop]
    simp only[he]
    exact exec_v h1
   ·have hw:Region.wanted o (yielded l0.toArray a.tmps)=false:=by
     rw[wanted_at hf (reads_g hg hj) hg hj hb];simp[hxb]
    rw[hw]
    exact hk st w undef _ H' hc hd (Keeps.refl _ _) (fun u hu=>by cases hu;exact .opt _ _ _ _ (fun e=>absurd e hxb) (fun _=>rfl)) ⟨rfl,rfl⟩
 | @pick i o l T H c a' b x va vb v p d hg hop hdst hN hcc ha hb hv hp k _=>
   intro i' o' l' e hs
   cases e
   refine⟨some v,[],fun H' _ Q2 E st w a ro B0 next hc hsz hd hf hk=>?_,by simp,by simp,by rw[hdst];exact k,by simp⟩
   have hval:∀y u,opv T y=some u→y∈[c,a',b]→Rep st w u (a.eval y):=by
    intro y u hy hm
    cases y with
    |tmp t=>
     have htm:t∈tmpsOf o.op:=by
      unfold tmpsOf
      rw[hop]
      simp only[Op.operands]
      simp only[List.mem_cons,List.not_mem_nil,or_false]at hm
      rcases hm with h|h|h<;>simp[List.mem_filterMap,←h]
     obtain⟨z,h1,h2⟩:=hf t (reads_t htm) u hy
     simpa [Act.eval,h1]using h2
    |const z=>exact ofConst_rep hy
    |global g=>simp[opv]at hy
    |func f=>
     simp[opv]at hy
     subst hy
     exact Rep.func (.func f) [] [] [] [] rfl rfl (by simp) (by simp)
   have h1:=(hval c _ hcc (by simp)).bool_eq
   have h2:=apick_sound (hval a' _ ha (by simp)) (hval b _ hb (by simp)) hv hp
   rw[if_pos (wanted_none hg)]
   refine(wp_of_value (c:=if x then a.eval a' else a.eval b) ?_ (hk st w _ _ H' hc hd (Keeps.refl _ _) (fun u hu=>by cases hu;exact h2) ⟨rfl,rfl⟩))
   unfold execOp
   rw[hop]
   simp[h1,asBool]
 | @sopt i o l T H v d j g b x dj hg hj hb hdst hN ho hv k _=>
   intro i' o' l' e hs
   cases e
   refine⟨some (.opt x b v),[],fun H' _ Q2 E st w a ro B0 next hc hsz hd hf hk=>?_,by simp,by simp,by rw[hdst];exact k,by simp⟩
   by_cases hxb:x=b
   ·have hw:Region.wanted o (yielded l0.toArray a.tmps)=true:=by
     rw[wanted_at hf (reads_g hg hj) hg hj hb];simp[hxb]
    rw[hw]
    obtain⟨c,h1,h2⟩:=hv hxb st w a.eval (fun y u hy=>opvL_rep (N:=N) (fun t ht=>hf t (reads_t ht)) ho hxb hsz hy)
    exact(wp_of_value h1 (hk st w c _ H' hc hd (Keeps.refl _ _) (fun u hu=>by cases hu;exact .opt _ _ _ _ (fun _=>h2) (fun e=>absurd hxb e)) ⟨rfl,rfl⟩))
   ·have hw:Region.wanted o (yielded l0.toArray a.tmps)=false:=by
     rw[wanted_at hf (reads_g hg hj) hg hj hb];simp[hxb]
    rw[hw]
    exact hk st w undef _ H' hc hd (Keeps.refl _ _) (fun u hu=>by cases hu;exact .opt _ _ _ _ (fun e=>absurd e hxb) (fun _=>rfl)) ⟨rfl,rfl⟩
 | @copt i o l T H u d j g b x dj hh hg hj hb hdst hN ho h k hsc _=>
   intro i' o' l' e hs
   cases e
   rcases hh with hh|hh
   ·cases hh
   ·rw[hh]at hs
    cases hcv:isCallV o.op with
    |false=>rw[hcv]at hs;cases hs
    |true=>rw[hcv,hsc hcv]at hs;cases hs
 | @gpick i o l T H c a' b' y va vb v pc p d j g b x dj hg hj hb hop hdst hN hcc hpc ha hb' hv hp k _=>
   intro i' o' l' e hs
   cases e
   refine⟨some (.opt x b v),[],fun H' _ Q2 E st w a ro B0 next hc hsz hd hf hk=>?_,by simp,by simp,by rw[hdst];exact k,by simp⟩
   by_cases hxb:x=b
   ·have hw:Region.wanted o (yielded l0.toArray a.tmps)=true:=by
     rw[wanted_at hf (reads_g hg hj) hg hj hb];simp[hxb]
    rw[hw]
    have hval:∀y u,opv T y=some u→y∈[c,a',b']→Rep st w u (a.eval y):=by
     intro y u hy hm
     cases y with
     |tmp t=>
      have htm:t∈tmpsOf o.op:=by
       unfold tmpsOf
       rw[hop]
       simp only[Op.operands]
       simp only[List.mem_cons,List.not_mem_nil,or_false]at hm
       rcases hm with h|h|h<;>simp[List.mem_filterMap,←h]
      obtain⟨z,h1,h2⟩:=hf t (reads_t htm) u hy
      simpa [Act.eval,h1]using h2
     |const z=>exact ofConst_rep hy
     |global g=>simp[opv]at hy
     |func f=>
      simp[opv]at hy
      subst hy
      exact Rep.func (.func f) [] [] [] [] rfl rfl (by simp) (by simp)
    have h1:a.eval c=.bool y:=by
     cases hu:opv T c with
     |none=>rw[hu]at hcc;cases hcc
     |some u=>rw[hu]at hcc;exact copd_rep hcc (hpc hxb) (hval c _ hu (by simp))
    have h2:=apick_sound (hval a' _ ha (by simp)) (hval b' _ hb' (by simp)) hv (hp hxb)
    refine(wp_of_value (c:=if y then a.eval a' else a.eval b') ?_ (hk st w _ _ H' hc hd (Keeps.refl _ _) (fun u hu=>by cases hu;exact .opt _ _ _ _ (fun _=>h2) (fun e=>absurd hxb e)) ⟨rfl,rfl⟩))
    unfold execOp
    rw[hop]
    simp[h1,asBool]
   ·have hw:Region.wanted o (yielded l0.toArray a.tmps)=false:=by
     rw[wanted_at hf (reads_g hg hj) hg hj hb];simp[hxb]
    rw[hw]
    exact hk st w undef _ H' hc hd (Keeps.refl _ _) (fun u hu=>by cases hu;exact .opt _ _ _ _ (fun e=>absurd e hxb) (fun _=>rfl)) ⟨rfl,rfl⟩
 | @know l T H t x b hW hx hl k ih=>
   cases hW
theorem TR.step (hty:TyOk P ty):∀{L:List (Nat×Oper)} {T:Tmps} {H:AHeap},TR P N ty l0 LD false (pQ l0 Q) L T H→∀{i:Nat} {o:Oper} {l:List (Nat×Oper)},L=(i,o)::l→(hardOp o.op&& !(isCallV o.op&&LD.sc i))=true→
  ∃K:Option AV→AHeap→Prop,StepH P N l0 o T H K Q∧∀r H',K r H'→TR P N ty l0 LD false (pQ l0 Q) l (putR o.dst r T) H'∧(r=none→∀d,o.dst=some d→lk T d=none)∧(keepOp o.op=true→KeepB LD i H H'):=by
 intro L T H h
 induction h with
 |nil h=>intro i o l e;cases e
 | @pure i o l T H p v d hg hdst hN hv ho hp k _=>
   intro i' o' l' e hs
   cases e
   refine⟨fun r H'=>r=some v∧H'=H,fun E st w a ro B0 next hc hsz hd hf hb0 hk=>?_,fun r H' ⟨hr,hH⟩=>?_⟩
   ·obtain⟨c,h1,h2⟩:=aeval_sound (P:=P) hty (fun x u hx=>opvL_rep (N:=N) (fun t ht=>hf t (reads_t ht)) ho trivial hsz hx) hv hp
    rw[if_pos (wanted_none hg)]
    exact(wp_of_value h1 (hk st w c (some v) H hc hd (Keeps.refl _ _) (fun u hu=>by cases hu;exact h2) ⟨rfl,rfl⟩))
   ·subst hr;subst hH
    rw[hdst]
    exact⟨k,by simp,fun _=>KeepB.refl _⟩
 | @sem i o l T H v d hg hdst hN ho hv k _=>
   intro i' o' l' e hs
   cases e
   refine⟨fun r H'=>r=some v∧H'=H,fun E st w a ro B0 next hc hsz hd hf hb0 hk=>?_,fun r H' ⟨hr,hH⟩=>?_⟩
   ·obtain⟨c,h1,h2⟩:=hv st w a.eval (fun x u hx=>opvL_rep (N:=N) (fun t ht=>hf t (reads_t ht)) ho trivial hsz hx)
    rw[if_pos (wanted_none hg)]
    exact(wp_of_value h1 (hk st w c (some v) H hc hd (Keeps.refl _ _) (fun u hu=>by cases hu;exact h2) ⟨rfl,rfl⟩))
   ·subst hr;subst hH
    rw[hdst]
    exact⟨k,by simp,fun _=>KeepB.refl _⟩
 | @on i o l T H j b dj hg hj hb k ih=>
   intro i' o' l' e hs
   cases e
   obtain⟨K,h1,h2⟩:=ih rfl hs
   refine⟨K,fun E st w a ro B0 next hc hsz hd hf hb0 hk=>?_,h2⟩
   have:=h1 E st w a ro B0 next hc hsz hd (fun t ht=>hf t (reads_t (by simpa [readsOf]using ht))) hb0 hk
   rw[if_pos (wanted_none rfl)]at this
   rw[if_pos (by simp[Region.wanted,hg,yielded_at hf (reads_g hg hj) hj hb])]
   exact this
 | @off i o l T H j b u dj d hg hj hb hx hdst hN k _=>
   intro i' o' l' e hs
   cases e
   refine⟨fun r H'=>r=some (.tuple [])∧H'=H,fun E st w a ro B0 next hc hsz hd hf hb0 hk=>?_,fun r H' ⟨hr,hH⟩=>?_⟩
   ·rw[off_at hf (reads_g hg hj) hg hj hb hx]
    exact hk st w undef _ H hc hd (Keeps.refl _ _) (fun u hu=>by cases hu;exact undef_rep st w) ⟨rfl,rfl⟩
   ·subst hr;subst hH
    rw[hdst]
    exact⟨k,by simp,fun _=>KeepB.refl _⟩
 | @opt i o l T H p v d j g b x dj hg hj hb hdst hN hv ho hp k _=>
   intro i' o' l' e hs
   cases e
   refine⟨fun r H'=>r=some (.opt x b v)∧H'=H,fun E st w a ro B0 next hc hsz hd hf hb0 hk=>?_,fun r H' ⟨hr,hH⟩=>?_⟩
   ·by_cases hxb:x=b
    ·have hw:Region.wanted o (yielded l0.toArray a.tmps)=true:=by
      rw[wanted_at hf (reads_g hg hj) hg hj hb];simp[hxb]
     rw[hw]
     obtain⟨c,h1,h2⟩:=aeval_sound (P:=P) hty (fun y u hy=>opvL_rep (N:=N) (fun t ht=>hf t (reads_t ht)) ho hxb hsz hy) hv (hp hxb)
     exact(wp_of_value h1 (hk st w c _ H hc hd (Keeps.refl _ _) (fun u hu=>by cases hu;exact .opt _ _ _ _ (fun _=>h2) (fun e=>absurd hxb e)) ⟨rfl,rfl⟩))
    ·have hw:Region.wanted o (yielded l0.toArray a.tmps)=false:=by
      rw[wanted_at hf (reads_g hg hj) hg hj hb];simp[hxb]
     rw[hw]
     exact hk st w undef _ H hc hd (Keeps.refl _ _) (fun u hu=>by cases hu;exact .opt _ _ _ _ (fun e=>absurd e hxb) (fun _=>rfl)) ⟨rfl,rfl⟩
   ·subst hr;subst hH
    rw[hdst]
    exact⟨k,by simp,fun _=>KeepB.refl _⟩
 | @hard i o l T H K hh hg hN ho h k kp hkb _ _=>
   intro i' o' l' e hs
   cases e
   refine⟨fun r H'=>∃v,r=some v∧K (.ret v) H',fun E st w a ro B0 next hc hsz hd hf hb0 hk=>?_,fun r H' ⟨v,hr,hK⟩=>?_⟩
   ·rw[if_pos (wanted_none hg)]
    refine(h (Env0.of w st H) st w a ro next (Post E N ro B0 Q) hc.start (fun y u hy=>opvL_rep (N:=N) (fun t ht=>hf t (reads_t ht)) ho trivial hsz hy) hd.gl ?_ ?_)
    ·intro st' w' v c H' h1 h2 h3 h4
     exact hk st' w' c (some v) H' (hc.trans h1) (hd.keep h1) h2 (fun u hu=>by cases hu;exact h3) ⟨v,rfl,h4⟩
    ·intro st' w' v c H' h1 h2 h3 h4
     refine Post.mk (T:=keepT l0 T) (hc.trans h1) ⟨hsz,fun t u h=>?_⟩ (hd.keep h1) (x:=.panic v) ⟨c,rfl,h3⟩ (kp v H' h4)
     obtain⟨c',e1,e2⟩:=hb0 t u h
     exact⟨c',e1,e2.mono h2⟩
   ·subst hr
    refine⟨?_,by simp,fun hq=>hkb hq v H' hK⟩
    have:=k v H' hK
    cases hd:o.dst with
    |none=>rw[hd]at this;exact this
    |some d=>rw[hd]at this;exact this
 | @pcl i o l T H u d hg hdst hN ho hcv h k _=>
   intro i' o' l' e hs
   cases e
   refine⟨fun r H'=>r=some u∧H'=H,fun E st w a ro B0 next hc hsz hd hf hb0 hk=>?_,fun r H' ⟨hr,hH⟩=>?_⟩
   ·rw[if_pos (wanted_none hg)]
    refine(h H) (Env0.of w st H) st w a ro next (Post E N ro B0 Q) hc.start (fun y u hy=>opvL_rep (N:=N) (fun t ht=>hf t (reads_t ht)) ho trivial hsz hy) hd.gl ?_ ?_
    ·rintro st' w' v c H2 h1 h2 h3 ⟨e,rfl⟩
     cases e
     exact hk st' w' c (some u) _ (hc.trans h1) (hd.keep h1) h2 (fun u hu=>by cases hu;exact h3) ⟨rfl,rfl⟩
    ·rintro st' w' v c H2 h1 h2 h3 ⟨e,rfl⟩
     cases e
   ·subst hr;subst hH
    rw[hdst]
    exact⟨k,by simp,fun _=>KeepB.refl _⟩
 | @hload i o l T H t x ti b off ty0 u p v d hg hop hdst hN hx hon ht hm hv hp hl k _=>
   intro i' o' l' e hs
   cases e
   rw[hop]at hs
   cases hs
 | @hopt i o l T H t y ti bb off ty0 u p v d j g b x dj hg hj hb hop hdst hN hx hon ht hm hv hp hl k _=>
   intro i' o' l' e hs
   cases e
   rw[hop]at hs
   cases hs
 | @pick i o l T H c a' b x va vb v p d hg hop hdst hN hcc ha hb hv hp k _=>
   intro i' o' l' e hs
   cases e
   rw[hop]at hs
   cases hs
 | @sopt i o l T H v d j g b x dj hg hj hb hdst hN ho hv k _=>
   intro i' o' l' e hs
   cases e
   refine⟨fun r H'=>r=some (.opt x b v)∧H'=H,fun E st w a ro B0 next hc hsz hd hf hb0 hk=>?_,fun r H' ⟨hr,hH⟩=>?_⟩
   ·by_cases hxb:x=b
    ·have hw:Region.wanted o (yielded l0.toArray a.tmps)=true:=by
      rw[wanted_at hf (reads_g hg hj) hg hj hb];simp[hxb]
     rw[hw]
     obtain⟨c,h1,h2⟩:=hv hxb st w a.eval (fun y u hy=>opvL_rep (N:=N) (fun t ht=>hf t (reads_t ht)) ho hxb hsz hy)
     exact(wp_of_value h1 (hk st w c _ H hc hd (Keeps.refl _ _) (fun u hu=>by cases hu;exact .opt _ _ _ _ (fun _=>h2) (fun e=>absurd hxb e)) ⟨rfl,rfl⟩))
    ·have hw:Region.wanted o (yielded l0.toArray a.tmps)=false:=by
      rw[wanted_at hf (reads_g hg hj) hg hj hb];simp[hxb]
     rw[hw]
     exact hk st w undef _ H hc hd (Keeps.refl _ _) (fun u hu=>by cases hu;exact .opt _ _ _ _ (fun e=>absurd e hxb) (fun _=>rfl)) ⟨rfl,rfl⟩
   ·subst hr;subst hH
    rw[hdst]
    exact⟨k,by simp,fun _=>KeepB.refl _⟩
 | @copt i o l T H u d j g b x dj hh hg hj hb hdst hN ho h k _ _=>
   intro i' o' l' e hs
   cases e
   refine⟨fun r H'=>r=some (.opt x b u)∧H'=H,fun E st w a ro B0 next hc hsz hd hf hb0 hk=>?_,fun r H' ⟨hr,hH⟩=>?_⟩
   ·by_cases hxb:x=b
    ·have hw:Region.wanted o (yielded l0.toArray a.tmps)=true:=by
      rw[wanted_at hf (reads_g hg hj) hg hj hb];simp[hxb]
     rw[hw]
     refine(h hxb (Env0.of w st H) st w a ro next (Post E N ro B0 Q) hc.start (fun y u hy=>opvL_rep (N:=N) (fun t ht=>hf t (reads_t ht)) ho hxb hsz hy) hd.gl ?_ ?_)
     ·rintro st' w' v c H' h1 h2 h3 ⟨e,rfl⟩
      cases e
      exact hk st' w' c (some (.opt x b u)) H' (hc.trans h1) (hd.keep h1) h2 (fun u hu=>by cases hu;exact .opt _ _ _ _ (fun _=>h3) (fun e=>absurd hxb e)) ⟨rfl,rfl⟩
     ·rintro st' w' v c H' h1 h2 h3 ⟨e,rfl⟩
      cases e
    ·have hw:Region.wanted o (yielded l0.toArray a.tmps)=false:=by
      rw[wanted_at hf (reads_g hg hj) hg hj hb];simp[hxb]
     rw[hw]
     exact hk st w undef _ H hc hd (Keeps.refl _ _) (fun u hu=>by cases hu;exact .opt _ _ _ _ (fun e=>absurd e hxb) (fun _=>rfl)) ⟨rfl,rfl⟩
   ·subst hr;subst hH
    rw[hdst]
    exact⟨k,by simp,fun _=>KeepB.refl _⟩
 | @gpick i o l T H c a' b' y va vb v pc p d j g b x dj hg hj hb hop hdst hN hcc hpc ha hb' hv hp k _=>
   intro i' o' l' e hs
   cases e
   rw[hop]at hs
   cases hs
 | @know l T H t x b hW hx hl k ih=>
   cases hW
inductive Anc (l:List Oper):Nat→Nat→Prop
 |edge {i o e} (ho:l[i]?=some o) (he:e∈o.after) (hb:Region.binds .any e=true):Anc l i e.on
 |trans {i j o e} (ho:l[i]?=some o) (he:e∈o.after) (hb:Region.binds .any e=true) (h:Anc l e.on j):Anc l i j
def maskOf (acc:List Nat) (s:Nat):List Edge→Nat
 |[]=>s
 |e::es=>maskOf acc (cond (Region.binds .any e) (s |||2^e.on |||acc.getD e.on 0) s) es
def ancsOf:List Oper→List Nat→List Nat
 |[],acc=>acc
 |o::os,acc=>ancsOf os (acc++[maskOf acc 0 o.after.toList])
def ancB (A:List Nat) (i j:Nat):Bool:=(A.getD i 0).testBit j
theorem maskOf_spec {l:List Oper} {acc:List Nat} {i:Nat} {o:Oper} (ho:l[i]?=some o) (hacc:∀k j,(acc.getD k 0).testBit j=true→Anc l k j):
  ∀(es:List Edge) (s:Nat),(∀e∈es,e∈o.after)→(∀j,s.testBit j=true→Anc l i j)→∀j,(maskOf acc s es).testBit j=true→Anc l i j
 |[],s,_,hs,j,h=>hs j h
 |e::es,s,hes,hs,j,h=>by
  refine maskOf_spec ho hacc es _ (fun e' he'=>hes e' (by simp[he'])) ?_ j h
  intro j hj
  cases hb:Region.binds .any e with
  |false=>simp only[hb,cond_false]at hj;exact hs j hj
  |true=>
   simp only[hb,cond_true,Nat.testBit_or,Bool.or_eq_true]at hj
   rcases hj with(hj|hj)|hj
   ·exact hs j hj
   ·rw[Nat.testBit_two_pow]at hj
    have:e.on=j:=by simpa using hj
    subst this
    exact .edge ho (hes e (by simp)) hb
   ·exact .trans ho (hes e (by simp)) hb (hacc _ _ hj)
theorem ancsOf_spec {l:List Oper}:∀(os:List Oper) (acc:List Nat),(∀j,os[j]?=l[acc.length+j]?)→(∀k j,(acc.getD k 0).testBit j=true→Anc l k j)→
  ∀k j,((ancsOf os acc).getD k 0).testBit j=true→Anc l k j
 |[],acc,_,h,k,j,hk=>h k j hk
 |o::os,acc,hl,h,k,j,hk=>by
  have ho:l[acc.length]?=some o:=by simpa using (hl 0).symm
  refine ancsOf_spec os (acc++[maskOf acc 0 o.after.toList]) (fun j=>?_) ?_ k j hk
  ·have:=hl (j+1)
   simp only[List.getElem?_cons_succ]at this
   rw[this]
   simp[Nat.add_assoc,Nat.add_comm 1 j]
  ·intro k j hk
   by_cases hlt:k<acc.length
   ·exact h k j (by simpa [List.getD,List.getElem?_append_left hlt]using hk)
   ·by_cases he:k=acc.length
    ·subst he
     have:((acc++[maskOf acc 0 o.after.toList]).getD acc.length 0)=maskOf acc 0 o.after.toList:=by simp[List.getD]
     rw[this]at hk
     exact maskOf_spec ho h o.after.toList 0 (fun e he=>by simpa using he) (fun j hj=>by simp at hj) j hk
    ·have:((acc++[maskOf acc 0 o.after.toList]).getD k 0)=0:=by
      simp only[List.getD]
      rw[List.getElem?_eq_none (by simp;omega)]
      rfl
     rw[this]at hk
     simp at hk
theorem ancB_spec {l:List Oper} {i j:Nat} (h:ancB (ancsOf l []) i j=true):Anc l i j:=
 ancsOf_spec l [] (by simp) (fun k j hk=>by simp at hk) i j h
def hardAt (l:List Oper) (sc:Nat→Bool) (i:Nat):Bool:=match l[i]? with|some o=>hardOp o.op&& !(isCallV o.op&&sc i)|none=>true
def keepAt (l:List Oper) (i:Nat):Bool:=match l[i]? with|some o=>keepOp o.op|none=>false
def dstAt (l:List Oper) (i:Nat):Option Nat:=gdst l i
def readsAt (l:List Oper) (i:Nat):List Nat:=match l[i]? with|some o=>readsOf l o|none=>[]
def hits (d:Option Nat) (L:List Nat):Bool:=match d with|some t=>L.contains t|none=>false
def pairOk (sc:List Nat) (l:List Oper) (A:List Nat) (i k:Nat):Bool:=
 (!hardAt l (fun x=>sc.contains x) i || ancB A k i)&&
 (hardAt l (fun x=>sc.contains x) i || !hits (dstAt l i) (readsAt l k) || ancB A k i)&&
 (!hits (dstAt l k) (readsAt l i) || ancB A k i)&&
 ((hardAt l (fun x=>sc.contains x) i&&hardAt l (fun x=>sc.contains x) k) || (match dstAt l i with
   |some d=> !(match dstAt l k with|some d'=>Nat.beq d d'|none=>false)
   |none=>true))
def oneOk (sc:Nat→Bool) (l:List Oper) (i:Nat):Bool:=hardAt l sc i || (dstAt l i).isSome
def pairsOk (R:Nat→Nat→Bool):List Nat→Bool
 |[]=>true
 |i::r=>r.all (R i)&&pairsOk R r
def edgesOk (l:List Oper):Bool:=(ix 0 l).all fun p=>p.2.after.toList.all fun e=> !Region.binds .any e || Nat.blt e.on p.1
def kpOf:List (Nat×List Nat)→Nat→Nat→Bool
 |[],_,_=>false
 |(k',np)::r,k,t=>cond (Nat.beq k' k) (!np.contains t) (kpOf r k t)
def loadOk (sc:List Nat) (l:List Oper) (A:List Nat) (kc:List (Nat×List Nat)) (t:Nat):List Nat→Nat→Bool
 |[],_=>false
 |j::r,i=>cond (Nat.beq j i) (r.all fun k=> !hardAt l (fun x=>sc.contains x) k || (keepAt l k&&kpOf kc k t) || ancB A k i) (loadOk sc l A kc t r i)
def ldOf (sc:List Nat) (l:List Oper) (A:List Nat) (kc:List (Nat×List Nat)) (π:List Nat):LDs:=⟨fun i t=>loadOk sc l A kc t π i,kpOf kc,fun x=>sc.contains x⟩
def kcAuto (l:List Oper):List (Nat×List Nat):=((List.range l.length).filter fun i=>match l[i]? with
 |some {op:=.call {callee:=.value _,..},..}=>false
 |some {op:=.store _ _ _,..}=>false
 |some o=>keepOp o.op
 |none=>false).map fun i=>(i,[])
def boundOk (l:List Oper) (N i:Nat):Bool:=dstOk (dstAt l i) N
def drawOk (sc:List Nat) (l:List Oper) (N:Nat) (π:List Nat):Bool:=
 π.all (boundOk l N)&&((List.range l.length).all (fun i=>π.contains i)&&π.all (fun i=>Nat.blt i l.length)&&pairsOk (fun i k=> !Nat.beq i k) π&&edgesOk l&&π.all (oneOk (fun x=>sc.contains x) l)&&pairsOk (pairOk sc l (ancsOf l [])) π)
def pairOkM (sc:List Nat) (l:List Oper) (A:List Nat) (mv:Nat→Bool) (i k:Nat):Bool:=
 ((!hardAt l (fun x=>sc.contains x) i || ancB A k i) || (mv i&&mv k))&&
 (hardAt l (fun x=>sc.contains x) i || !hits (dstAt l i) (readsAt l k) || ancB A k i)&&
 (!hits (dstAt l k) (readsAt l i) || ancB A k i)&&
 ((hardAt l (fun x=>sc.contains x) i&&hardAt l (fun x=>sc.contains x) k) || (match dstAt l i with
   |some d=> !(match dstAt l k with|some d'=>Nat.beq d d'|none=>false)
   |none=>true))
def drawOkM (sc:List Nat) (l:List Oper) (N:Nat) (mv:Nat→Bool) (π:List Nat):Bool:=
 π.all (boundOk l N)&&((List.range l.length).all (fun i=>π.contains i)&&π.all (fun i=>Nat.blt i l.length)&&pairsOk (fun i k=> !Nat.beq i k) π&&edgesOk l&&π.all (oneOk (fun x=>sc.contains x) l)&&pairsOk (pairOkM sc l (ancsOf l []) mv) π)
theorem pairOkM_of {sc:List Nat} {l:List Oper} {A:List Nat} {mv:Nat→Bool} {i k:Nat} (h:pairOk sc l A i k=true):pairOkM sc l A mv i k=true:=by
 simp only[pairOk,Bool.and_eq_true]at h
 obtain⟨⟨⟨h1,h2⟩,h3⟩,h4⟩:=h
 simp only[pairOkM,Bool.and_eq_true,h1,Bool.true_or,true_and]
 exact⟨⟨h2,h3⟩,h4⟩
theorem pairsOk_mono {R S:Nat→Nat→Bool} (h:∀i k,R i k=true→S i k=true):∀{π:List Nat},pairsOk R π=true→pairsOk S π=true
 |[],_=>rfl
 |i::r,hr=>by
  simp only[pairsOk,Bool.and_eq_true,List.all_eq_true]at hr ⊢
  exact⟨fun k hk=>h i k (hr.1 k hk),pairsOk_mono h hr.2⟩
theorem drawOkM_of {sc:List Nat} {l:List Oper} {N:Nat} {mv:Nat→Bool} {π:List Nat} (h:drawOk sc l N π=true):drawOkM sc l N mv π=true:=by
 simp only[drawOk,drawOkM,Bool.and_eq_true]at h ⊢
 exact⟨h.1,h.2.1,pairsOk_mono (fun _ _=>pairOkM_of) h.2.2⟩
theorem pairwise_pos {S:Nat→Nat→Prop}:∀(r p:List Nat),(p++r).Pairwise (fun i k=>i≠k)→(∀p' i r',p++r=p'++i::r'→i∉p'→∀k∈r',S i k)→r.Pairwise S
 |[],_,_,_=>.nil
 |i::r,p,hn,h=>.cons (fun k hk=>h p i r rfl (fun hm=>(List.pairwise_append.1 hn).2.2 i hm i (by simp) rfl) k hk)
   (pairwise_pos r (p++[i]) (by simpa using hn) (fun p' i' r' e=>h p' i' r' (by simpa using e)))
theorem pairwise_and {R S:Nat→Nat→Prop}:∀{r:List Nat},r.Pairwise R→r.Pairwise S→r.Pairwise (fun i k=>R i k∧S i k)
 |[],_,_=>.nil
 |_::_,.cons h1 h2,.cons g1 g2=>.cons (fun k hk=>⟨h1 k hk,g1 k hk⟩) (pairwise_and h2 g2)
theorem pairwise_move {R:Nat→Nat→Prop} {D A r:List Nat} {i:Nat} (h:(D++(A++i::r)).Pairwise R) (hi:∀a∈A,R i a):(D++(i::(A++r))).Pairwise R:=by
 rw[List.pairwise_append]at h ⊢
 obtain⟨h1,h2,h3⟩:=h
 rw[List.pairwise_append]at h2
 obtain⟨h4,h5,h6⟩:=h2
 rw[List.pairwise_cons]at h5
 refine⟨h1,List.pairwise_cons.2 ⟨fun k hk=>?_,List.pairwise_append.2 ⟨h4,h5.2,fun x hx y hy=>h6 x hx y (by simp[hy])⟩⟩,fun x hx y hy=>h3 x hx y ?_⟩
 ·rcases List.mem_append.1 hk with hk|hk
  ·exact hi k hk
  ·exact h5.1 k hk
 ·simp only[List.mem_cons,List.mem_append]at hy ⊢
  rcases hy with h|h|h
  ·exact .inr (.inl h)
  ·exact .inl h
  ·exact .inr (.inr h)
def sel (l:List Oper):List Nat→List (Nat×Oper)
 |[]=>[]
 |i::π=>match l[i]? with
  |some o=>(i,o)::sel l π
  |none=>sel l π
theorem pairsOk_spec {R:Nat→Nat→Bool}:∀{π:List Nat},pairsOk R π=true→π.Pairwise fun i k=>R i k=true
 |[],_=>.nil
 |i::r,h=>by
  simp only[pairsOk,Bool.and_eq_true,List.all_eq_true]at h
  exact .cons h.1 (pairsOk_spec h.2)
theorem loadOk_spec {sc:List Nat} {l:List Oper} {A:List Nat} {kc:List (Nat×List Nat)} {t:Nat}:∀{π:List Nat} {i:Nat},loadOk sc l A kc t π i=true→∀p r,π=p++i::r→i∉p→∀k∈r,hardAt l (fun x=>sc.contains x) k=true→(keepAt l k&&kpOf kc k t)=false→ancB A k i=true
 |[],i,h,p,r,e,_,k,_,_,_=>by simp at e
 |j::π,i,h,p,r,e,hn,k,hk,hh,hkk=>by
  simp only[loadOk]at h
  match p,e with
  |[],e=>
   simp at e
   obtain⟨rfl,rfl⟩:=e
   simp only[Nat.beq_refl,cond_true,List.all_eq_true]at h
   have:=h k hk
   rw[hkk,hh]at this
   simpa using this
  |q::p,e=>
   simp at e
   obtain⟨rfl,rfl⟩:=e
   have hne:Nat.beq j i=false:=beq_ne fun h=>hn (by simp[h])
   simp only[hne,cond_false]at h
   exact loadOk_spec h p r rfl (fun h=>hn (by simp[h])) k hk hh hkk
theorem anc_listed {l:List Oper} {listed:Array Bool} (closed:∀(i:Nat) (o:Oper) (e:Edge),l[i]?=some o→listed.getD i false=true→e∈o.after→Region.binds .any e=true→listed.getD e.on false=true):
  ∀{i j:Nat},Anc l i j→(∀(o:Oper) (e:Edge),l[i]?=some o→e∈o.after→Region.binds .any e=true→listed.getD e.on false=true)→listed.getD j false=true:=by
 intro i j h
 induction h with
 |edge ho he hb=>exact fun hi=>hi _ _ ho he hb
 | @trans i j o e ho he hb _ ih=>exact fun hi=>ih fun o' e' ho' he' hb'=>closed _ o' e' ho' (hi _ _ ho he hb) he' hb'
structure Chain (P:Program) (N:Nat) (l:List Oper) (LD:LDs) (mv:Nat→Bool) (Q:APost) (M:List Nat→Tmps→AHeap→Prop):Prop where
 soft:∀(i:Nat) (rest:List Nat) (T:Tmps) (H:AHeap) (o:Oper),M (i::rest) T H→l[i]?=some o→hardAt l LD.sc i=false→∃(res:Option AV) (need:AHeap),(∀H',(∀e∈need,e∈H')→∀Q2,Step P N l o T H' (fun r H2=>r=res∧H2=H') Q2)∧
  (∀e∈need,e∈H∧∃b t u,e=.box b t u∧LD.ld i t=true)∧True∧M rest (putR o.dst res T) H∧(res=none→∀d,o.dst=some d→lk T d=none)
 hard:∀(i:Nat) (rest:List Nat) (T:Tmps) (H:AHeap) (o:Oper),M (i::rest) T H→l[i]?=some o→hardAt l LD.sc i=true→∃K:Option AV→AHeap→Prop,StepH P N l o T H K Q∧
  ∀r H',K r H'→M rest (putR o.dst r T) H'∧(r=none→∀d,o.dst=some d→lk T d=none)∧(keepOp o.op=true→KeepB LD i H H')
 nil:∀(T:Tmps) (H:AHeap),M [] T H→Q .normal T H
 move:∀(A:List Nat) (i:Nat) (r:List Nat) (T:Tmps) (H:AHeap),mv i=true→(∀a∈A,mv a=true)→(∀a∈A,¬Anc l i a)→M (A++i::r) T H→M (i::(A++r)) T H
structure DInv (P:Program) (N:Nat) (l:List Oper) (LD:LDs) (M:List Nat→Tmps→AHeap→Prop) (π:List Nat) (Q:APost) (E:Env0) (ro:Option Nat) (B0:Bs) (ρ:Nat→Option AV) (done rest:List Nat) (listed:Array Bool) (T:Tmps) (H:AHeap) (st:Stab) (w:World) (a:Act):Prop where
 split:π=done++rest
 lsize:listed.size=l.length
 closed:∀(i:Nat) (o:Oper) (e:Edge),l[i]?=some o→listed.getD i false=true→e∈o.after→Region.binds .any e=true→listed.getD e.on false=true
 unl:∀i∈rest,listed.getD i true=false
 tr:M rest T H
 conc:Conc E st H w
 size:a.tmps.size=N
 defs:Fr ro B0 H w a.defers
 frame:∀t v,lk T t=some v→(∀i∈done,listed.getD i true=false→dstAt l i≠some t)→∃c,a.tmps[t]?=some c∧Rep st w v c
 pend:∀i∈done,listed.getD i true=false→∃(o:Oper) (need:AHeap) (Ti:Tmps),l[i]?=some o∧hardAt l LD.sc i=false∧(∀H',(∀e∈need,e∈H')→Step P N l o Ti H' (fun r H2=>r=ρ i∧H2=H') Q)∧
  (∀e∈need,e∈H∧∃b t u,e=.box b t u∧LD.ld i t=true)∧True∧(∀d,o.dst=some d→lk T d=ρ i)∧
  ∀t∈readsOf l o,∀v,lk Ti t=some v→(∃j∈done,listed.getD j true=false∧Anc l i j∧dstAt l j=some t∧ρ j=some v)∨
   ((∀j∈done,listed.getD j true=false→j≠i→dstAt l j=some t→Anc l j i)∧∃c,a.tmps[t]?=some c∧Rep st w v c)
theorem hits_iff {d:Option Nat} {L:List Nat}:hits d L=true↔∃t,d=some t∧t∈L:=by
 cases d<;>simp[hits]
theorem getD_tf {listed:Array Bool} {j:Nat} (h:listed.getD j true=false):listed.getD j false=false:=getD_both h
theorem lk_putR {d:Option Tmp} {r:Option AV} {T:Tmps} {t:Nat} (h:d≠some t):lk (putR d r T) t=lk T t:=by
 cases d with
 |none=>rfl
 |some d=>
  cases r with
  |none=>rfl
  |some v=>
   have:d≠t:=fun e=>h (by rw[e])
   simp[putR,lk,beq_ne this]
section draw
variable {l:List Oper} {π:List Nat} {E:Env0} {ro:Option Nat} {B0:Bs} {mv:Nat→Bool} {M:List Nat→Tmps→AHeap→Prop}
def PR (l:List Oper) (LD:LDs) (mv:Nat→Bool) (i k:Nat):Prop:=
 (hardAt l LD.sc i=true→Anc l k i∨(mv i=true∧mv k=true))∧(hardAt l LD.sc i=false→∀t,dstAt l i=some t→t∈readsAt l k→Anc l k i)∧(∀t,dstAt l k=some t→t∈readsAt l i→Anc l k i)∧
   ((hardAt l LD.sc i=false∨hardAt l LD.sc k=false)→∀d,dstAt l i=some d→dstAt l k≠some d)∧(hardAt l LD.sc i=false→∀t,LD.ld i t=true→hardAt l LD.sc k=true→(keepAt l k&&LD.kp k t)=false→Anc l k i)
structure Checked (l:List Oper) (N:Nat) (LD:LDs) (mv:Nat→Bool) (π:List Nat):Prop where
 bound:∀i∈π,∀d,dstAt l i=some d→d<N
 all:∀i,i<l.length→i∈π
 lt:∀i∈π,i<l.length
 ne:π.Pairwise fun i k=>i≠k
 edge:∀(i:Nat) (o:Oper) (e:Edge),l[i]?=some o→e∈o.after→Region.binds .any e=true→e.on<i
 one:∀i∈π,oneOk LD.sc l i=true
 pair:π.Pairwise (PR l LD mv)
theorem pw_either {R:Nat→Nat→Prop} {i j:Nat} (hne:i≠j):∀{L:List Nat},L.Pairwise R→i∈L→j∈L→R i j∨R j i:=by
 intro L hL
 induction hL with
 |nil=>intro hi;cases hi
 | @cons x L hx _ ih=>
   intro hiL hjL
   rcases List.mem_cons.1 hiL with hix|hiL
   ·rcases List.mem_cons.1 hjL with hjx|hjL
    ·exact absurd (hix.trans hjx.symm) hne
    ·rw[hix];exact .inl (hx j hjL)
   ·rcases List.mem_cons.1 hjL with hjx|hjL
    ·rw[hjx];exact .inr (hx i hiL)
    ·exact ih hiL hjL
theorem Checked.either {l:List Oper} {N:Nat} {π done rest:List Nat} (C:Checked l N LD mv π) (hs:π=done++rest) {i j:Nat} (hi:i∈done) (hj:j∈done) (hne:i≠j):
  PR l LD mv i j∨PR l LD mv j i:=by
 have h:=C.pair
 rw[hs]at h
 exact pw_either hne (List.pairwise_append.1 h).1 hi hj
theorem ix_get:∀(l:List Oper) (k i:Nat) (o:Oper),l[i]?=some o→(k+i,o)∈ix k l
 |[],k,i,o,h=>by simp at h
 |x::l,k,0,o,h=>by simp at h;subst h;simp[ix]
 |x::l,k,i+1,o,h=>by
  have:=ix_get l (k+1) i o (by simpa using h)
  rw[Nat.add_assoc,Nat.add_comm 1 i]at this
  simp[ix,this]
theorem pairOkM_spec {sc:List Nat} {i k:Nat} (h:pairOkM sc l (ancsOf l []) mv i k=true):
  (hardAt l (fun x=>sc.contains x) i=true→Anc l k i∨(mv i=true∧mv k=true))∧(hardAt l (fun x=>sc.contains x) i=false→∀t,dstAt l i=some t→t∈readsAt l k→Anc l k i)∧(∀t,dstAt l k=some t→t∈readsAt l i→Anc l k i)∧
  ((hardAt l (fun x=>sc.contains x) i=false∨hardAt l (fun x=>sc.contains x) k=false)→∀d,dstAt l i=some d→dstAt l k≠some d):=by
 simp only[pairOkM,Bool.and_eq_true]at h
 obtain⟨⟨⟨h1,h2⟩,h3⟩,h4⟩:=h
 refine⟨fun hi=>?_,fun hi t ht hm=>?_,fun t ht hm=>?_,fun hik d hd hd'=>?_⟩
 ·rw[hi]at h1
  simp only[Bool.not_true,Bool.false_or,Bool.or_eq_true,Bool.and_eq_true]at h1
  exact h1.imp (fun h=>ancB_spec h) id
 ·rw[hi,hits_iff.2 ⟨t,ht,hm⟩]at h2
  exact ancB_spec (by simpa using h2)
 ·rw[hits_iff.2 ⟨t,ht,hm⟩]at h3
  exact ancB_spec (by simpa using h3)
 ·have hn:(hardAt l (fun x=>sc.contains x) i&&hardAt l (fun x=>sc.contains x) k)=false:=by rcases hik with e|e<;>simp only[e,Bool.false_and,Bool.and_false]
  rw[hn,hd,hd']at h4
  simp at h4
theorem checked_of (sc:List Nat) (kc:List (Nat×List Nat)) (h:drawOkM sc l N mv π=true):Checked l N (ldOf sc l (ancsOf l []) kc π) mv π:=by
 simp only[drawOkM,Bool.and_eq_true]at h
 obtain⟨h0,⟨⟨⟨⟨h1,h2⟩,h3⟩,h4⟩,h5⟩,h6⟩:=h
 have hne:π.Pairwise fun i k=>i≠k:=(pairsOk_spec h3).imp fun {i k} h=>by
  rintro rfl
  simp at h
 have hld:π.Pairwise fun i k=>∀t,loadOk sc l (ancsOf l []) kc t π i=true→hardAt l (fun x=>sc.contains x) k=true→(keepAt l k&&kpOf kc k t)=false→ancB (ancsOf l []) k i=true:=
  pairwise_pos π [] (by simpa using hne) fun p' i r' e hn k hk t hl hh hkk=>loadOk_spec hl p' r' (by simpa using e) hn k hk hh hkk
 refine⟨fun i hi d hd=>?_,fun i hi=>?_,fun i hi=>?_,hne,fun i o e ho he hb=>?_,fun i hi=>List.all_eq_true.1 h5 i hi,(pairwise_and (pairsOk_spec h6) hld).imp fun {i k} h=>?_⟩
 ·have:=List.all_eq_true.1 h0 i hi
  simp only[boundOk,hd,dstOk]at this
  exact Nat.le_of_ble_eq_true this
 ·have:=List.all_eq_true.1 h1 i (List.mem_range.2 hi)
  simpa using this
 ·have:=List.all_eq_true.1 h2 i hi
  simpa [Nat.blt_eq]using this
 ·unfold edgesOk at h4
  have:=List.all_eq_true.1 h4 (i,o) (by have:=ix_get l 0 i o ho;rwa [Nat.zero_add]at this)
  have:=List.all_eq_true.1 this e (by simpa using he)
  simp only[hb,Bool.not_true,Bool.false_or]at this
  simpa [Nat.blt_eq]using this
 ·obtain⟨p1,p2,p3,p4⟩:=pairOkM_spec h.1
  exact⟨p1,p2,p3,p4,fun _ t hl hh hkk=>ancB_spec (h.2 t hl hh hkk)⟩
theorem hardAt_eq {sc:Nat→Bool} {i:Nat} {o:Oper} (h:l[i]?=some o):hardAt l sc i=(hardOp o.op&& !(isCallV o.op&&sc i)):=by simp[hardAt,h]
theorem dstAt_eq {i:Nat} {o:Oper} (h:l[i]?=some o):dstAt l i=o.dst:=by simp[dstAt,gdst,h]
theorem readsAt_eq {i:Nat} {o:Oper} (h:l[i]?=some o):readsAt l i=readsOf l o:=by simp[readsAt,h]
variable {ρ:Nat→Option AV} {done rest:List Nat} {listed:Array Bool} {T:Tmps} {H:AHeap} {st:Stab} {w:World} {a:Act}
theorem DInv.advance (Ch:Chain P N l LD mv Q M) (C:Checked l N LD mv π) {i:Nat} (h:DInv P N l LD M π Q E ro B0 ρ done (i::rest) listed T H st w a) (hs:hardAt l LD.sc i=false):
  ∃ρ' T',DInv P N l LD M π Q E ro B0 ρ' (done++[i]) rest listed T' H st w a:=by
 have hiπ:i∈π:=by rw[h.split];simp
 have hilt:=C.lt i hiπ
 obtain⟨o,ho⟩:∃o,l[i]?=some o:=⟨l[i],by simp[hilt]⟩
 have hso:=hs
 obtain⟨res,need,h1,h2,h3,h4,h5⟩:=Ch.soft i rest T H o h.tr ho hso
 have hone:=C.one i hiπ
 simp only[oneOk,hs,Bool.false_or]at hone
 obtain⟨d,hd⟩:=Option.isSome_iff_exists.1 hone
 have hdo:o.dst=some d:=by rw[←dstAt_eq ho];exact hd
 have hiu:listed.getD i true=false:=h.unl i (by simp)
 have hpw:=C.pair
 have hne:=C.ne
 rw[h.split]at hpw hne
 have hcross:=(List.pairwise_append.1 hpw).2.2
 have hni:∀j∈done,j≠i:=fun j hj=>(List.pairwise_append.1 hne).2.2 j hj i (by simp)
 have hρ:∀j∈done,(if j=i then res else ρ j)=ρ j:=fun j hj=>if_neg (hni j hj)
 refine⟨fun k=>if k=i then res else ρ k,putR o.dst res T,⟨by rw[h.split];simp,h.lsize,h.closed,fun k hk=>h.unl k (by simp[hk]),h4,h.conc,h.size,h.defs,?_,?_⟩⟩
 ·intro t v ht hp
  have hne:o.dst≠some t:=by
   have:=hp i (by simp) hiu
   rwa [dstAt_eq ho]at this
  rw[lk_putR hne]at ht
  exact h.frame t v ht fun k hk hku=>hp k (by simp[hk]) hku
 ·intro k hk hku
  rcases List.mem_append.1 hk with hkd|hk
  ·obtain⟨o',need',Ti,g1,g2,g3,g4,g5,g6,g7⟩:=h.pend k hkd hku
   obtain⟨-,-,-,p4,-⟩:=hcross k hkd i (by simp)
   have hρk:=hρ k hkd
   simp only[hρk]
   refine⟨o',need',Ti,g1,g2,g3,g4,g5,fun d' hd'=>?_,fun t ht v hv=>?_⟩
   ·rw[lk_putR,g6 d' hd']
    intro e
    exact p4 (.inr hs) d' (by rw[dstAt_eq g1];exact hd') (by rw[dstAt_eq ho];exact e)
   ·rcases g7 t ht v hv with⟨j,hj,hju,ha,hjd,hjv⟩|⟨hno,hc⟩
    ·exact .inl ⟨j,by simp[hj],hju,ha,hjd,(hρ j hj).trans hjv⟩
    ·refine .inr ⟨fun j hj hju hjk hjd=>?_,hc⟩
     rcases List.mem_append.1 hj with hj|hj
     ·exact hno j hj hju hjk hjd
     ·simp at hj
      subst hj
      exact(hcross k hkd j (by simp)).2.2.1 t hjd (by rw[readsAt_eq g1];exact ht)
  ·simp at hk
   subst hk
   refine⟨o,need,T,ho,hso,fun H' hn=>?_,h2,h3,fun d' hd'=>?_,fun t ht v hv=>?_⟩
   ·simp only[if_true]
    exact h1 H' hn Q
   ·simp only[if_true]
    rw[hdo]at hd'
    cases hd'
    rw[hdo]
    cases res with
    |none=>exact h5 rfl d hdo
    |some v=>simp[putR,lk]
   ·by_cases hex:∃j∈done,listed.getD j true=false∧dstAt l j=some t
    ·obtain⟨j,hj,hju,hjd⟩:=hex
     obtain⟨oj,_,_,j1,j2,_,_,_,j6,_⟩:=h.pend j hj hju
     refine .inl ⟨j,by simp[hj],hju,?_,hjd,?_⟩
     ·exact(hcross j hj k (by simp)).2.1 j2 t hjd (by rw[readsAt_eq ho];exact ht)
     ·exact(hρ j hj).trans ((j6 t (by rw[←dstAt_eq j1];exact hjd)).symm.trans hv)
    ·refine .inr ⟨fun j hj hju hjk hjd=>?_,?_⟩
     ·rcases List.mem_append.1 hj with hj|hj
      ·exact absurd ⟨j,hj,hju,hjd⟩ hex
      ·simp at hj
       exact absurd hj hjk
     ·exact h.frame t v hv fun j hj hju hjd=>hex ⟨j,hj,hju,hjd⟩
theorem DInv.advances (Ch:Chain P N l LD mv Q M) (C:Checked l N LD mv π):∀(r1:List Nat) {ρ:Nat→Option AV} {done rest:List Nat} {T:Tmps},DInv P N l LD M π Q E ro B0 ρ done (r1++rest) listed T H st w a→(∀i∈r1,hardAt l LD.sc i=false)→
  ∃ρ' T',DInv P N l LD M π Q E ro B0 ρ' (done++r1) rest listed T' H st w a
 |[],ρ,done,rest,T,h,_=>⟨ρ,T,by simpa using h⟩
 |i::r1,ρ,done,rest,T,h,hs=>by
  obtain⟨ρ1,T1,h1⟩:=h.advance Ch C (hs i (by simp))
  obtain⟨ρ2,T2,h2⟩:=DInv.advances Ch C r1 h1 (fun k hk=>hs k (by simp[hk]))
  exact⟨ρ2,T2,by simpa using h2⟩
theorem set_closed {i:Nat} {o:Oper} (_hl:listed.size=l.length) (ho:l[i]?=some o)
  (hc:∀(i:Nat) (o:Oper) (e:Edge),l[i]?=some o→listed.getD i false=true→e∈o.after→Region.binds .any e=true→listed.getD e.on false=true)
  (hi:∀e∈o.after,Region.binds .any e=true→listed.getD e.on false=true):
  ∀(k:Nat) (o:Oper) (e:Edge),l[k]?=some o→(listed.setIfInBounds i true).getD k false=true→e∈o.after→Region.binds .any e=true→(listed.setIfInBounds i true).getD e.on false=true:=by
 intro k ok e hk hlk he hb
 by_cases hik:i=k
 ·subst hik
  rw[ho]at hk
  cases hk
  exact getD_set_true (hi e he hb)
 ·rw[getD_set_ne false hik]at hlk
  exact getD_set_true (hc k ok e hk hlk he hb)
theorem getD_set_self {i:Nat} (h:i<listed.size):(listed.setIfInBounds i true).getD i true=true:=by simp[h]
theorem DInv.late (C:Checked l N LD mv π) {i:Nat} {K:Act→World→Prop} (h:DInv P N l LD M π Q E ro B0 ρ done rest listed T H st w a) (hid:i∈done) (hiu:listed.getD i true=false)
  (hready:∀o,l[i]?=some o→∀e∈o.after,Region.binds .any e=true→listed.getD e.on false=true)
  (k:∀st' w' a',DInv P N l LD M π Q E ro B0 ρ done rest (listed.setIfInBounds i true) T H st' w' a'→K a' w'):wpOpIn (fen ro) 0 P l.toArray (Post E N ro B0 Q) i K a w:=by
 obtain⟨o,need,Ti,g1,g2,g3,g4,g5,g6,g7⟩:=h.pend i hid hiu
 have hiπ:i∈π:=by rw[h.split];simp[hid]
 have hilt:=C.lt i hiπ
 have hsi:hardAt l LD.sc i=false:=g2
 have hone:=C.one i hiπ
 simp only[oneOk,hsi,Bool.false_or]at hone
 obtain⟨d,hd⟩:=Option.isSome_iff_exists.1 hone
 have hdo:o.dst=some d:=by rw[←dstAt_eq g1];exact hd
 have hready':=fun(o:Oper) (e:Edge) ho he hb=>hready o ho e he hb
 have hreads:∀t∈readsOf l o,∀v,lk Ti t=some v→∃c,a.tmps[t]?=some c∧Rep st w v c:=by
  intro t ht v hv
  rcases g7 t ht v hv with⟨j,hj,hju,ha,_⟩|⟨_,hc⟩
  ·have:=anc_listed h.closed ha hready'
   rw[getD_tf hju]at this
   cases this
  ·exact hc
 have hstep:=g3 H (fun e he=>(g4 e he).1) E st w a ro B0 K h.conc h.size h.defs hreads ?_
 ·unfold wpOpIn
  have:l.toArray[i]?=some o:=by simpa using g1
  rw[this]
  exact wanted_in hstep
 ·rintro st' w' c r H' hc' hfr' hk' hr ⟨rfl,rfl⟩
  refine k st' w' _ ⟨h.split,by simp[h.lsize],set_closed h.lsize g1 h.closed (hready o g1),?_,h.tr,hc',by simp[Act.put,hdo,h.size],by rw[hdo];exact hfr',?_,?_⟩
  ·intro k hk
   have:i≠k:=by
    rintro rfl
    have hne:=C.ne
    rw[h.split]at hne
    exact(List.pairwise_append.1 hne).2.2 i hid i hk rfl
   rw[getD_set_ne true this]
   exact h.unl k hk
  ·intro t v ht hp
   rw[hdo]
   by_cases e:d=t
   ·subst e
    rw[g6 d hdo]at ht
    have hdN:=C.bound i hiπ d hd
    exact⟨c,by simp[Act.put,h.size,hdN],hr v ht⟩
   ·obtain⟨c',h1,h2⟩:=h.frame t v ht fun j hj hju=>by
     by_cases hji:i=j
     ·subst hji
      rw[hd]
      intro e2
      cases e2
      exact e rfl
     ·exact hp j hj (by rw[getD_set_ne true hji];exact hju)
    exact⟨c',by simp[Act.put,Array.getElem?_setIfInBounds_ne e,h1],h2.mono hk'⟩
  ·intro j hj hju
   have hji:i≠j:=by
    rintro rfl
    rw[getD_set_self (by rw[h.lsize];exact hilt)]at hju
    cases hju
   rw[getD_set_ne true hji]at hju
   obtain⟨o',need',Ti',f1,f2,f3,f4,f5,f6,f7⟩:=h.pend j hj hju
   refine⟨o',need',Ti',f1,f2,f3,f4,f5,f6,fun t ht v hv=>?_⟩
   rw[hdo]
   rcases f7 t ht v hv with⟨m,hm,hmu,ha,hmd,hmv⟩|⟨hno,c',h1,h2⟩
   ·by_cases him:i=m
    ·subst him
     rw[hd]at hmd
     cases hmd
     have hdN:=C.bound i hiπ d hd
     refine .inr ⟨fun q hq hqu hqj hqd=>?_,c,by simp[Act.put,h.size,hdN],hr v hmv⟩
     have hqi:i≠q:=by
      rintro rfl
      rw[getD_set_self (by rw[h.lsize];exact hilt)]at hqu
      cases hqu
     exfalso
     rw[getD_set_ne true hqi]at hqu
     obtain⟨oq,_,_,q1,q2,_⟩:=h.pend q hq hqu
     have hsq:hardAt l LD.sc q=false:=q2
     rcases C.either h.split hid hq hqi with hp|hp
     ·exact hp.2.2.2.1 (.inl hsi) d hd hqd
     ·exact hp.2.2.2.1 (.inl hsq) d hqd hd
    ·exact .inl ⟨m,hm,by rw[getD_set_ne true him];exact hmu,ha,hmd,hmv⟩
   ·refine .inr ⟨fun q hq hqu hqj hqd=>?_,?_⟩
    ·have hqi:i≠q:=by
      rintro rfl
      rw[getD_set_self (by rw[h.lsize];exact hilt)]at hqu
      cases hqu
     rw[getD_set_ne true hqi]at hqu
     exact hno q hq hqu hqj hqd
    ·have:d≠t:=by
      rintro rfl
      have ha:=hno i hid hiu hji hd
      have:=anc_listed h.closed ha hready'
      rw[getD_tf hju]at this
      cases this
     exact⟨c',by simp[Act.put,Array.getElem?_setIfInBounds_ne this,h1],h2.mono hk'⟩
theorem DInv.now (Ch:Chain P N l LD mv Q M) (C:Checked l N LD mv π) {i:Nat} {K:Act→World→Prop} (h:DInv P N l LD M π Q E ro B0 ρ done (i::rest) listed T H st w a) (hs:hardAt l LD.sc i=true)
  (hready:∀o,l[i]?=some o→∀e∈o.after,Region.binds .any e=true→listed.getD e.on false=true)
  (k:∀st' w' a' T' H',DInv P N l LD M π Q E ro B0 ρ (done++[i]) rest (listed.setIfInBounds i true) T' H' st' w' a'→K a' w'):wpOpIn (fen ro) 0 P l.toArray (Post E N ro B0 Q) i K a w:=by
 have hiπ:i∈π:=by rw[h.split];simp
 have hilt:=C.lt i hiπ
 obtain⟨o,ho⟩:∃o,l[i]?=some o:=⟨l[i],by simp[hilt]⟩
 have hso:=hs
 obtain⟨KK,h1,h2⟩:=Ch.hard i rest T H o h.tr ho hso
 have hready':=fun(o:Oper) (e:Edge) ho he hb=>hready o ho e he hb
 have hpw:=C.pair
 rw[h.split]at hpw
 have hcross:=fun j hj=>(List.pairwise_append.1 hpw).2.2 j hj i (by simp)
 have hsoft:∀j∈done,listed.getD j true=false→hardAt l LD.sc j=false:=fun j hj hju=>by
  obtain⟨oj,_,_,j1,j2,_⟩:=h.pend j hj hju
  exact j2
 have hnoanc:∀j∈done,listed.getD j true=false→¬Anc l i j:=fun j hj hju ha=>by
  have:=anc_listed h.closed ha hready'
  rw[getD_tf hju]at this
  cases this
 have hnotp:∀t∈readsOf l o,∀j∈done,listed.getD j true=false→dstAt l j≠some t:=by
  intro t ht j hj hju hdj
  exact hnoanc j hj hju ((hcross j hj).2.1 (hsoft j hj hju) t hdj (by rw[readsAt_eq ho];exact ht))
 have hstep:=h1 E st w a ro B0 K h.conc h.size h.defs (fun t ht v hv=>h.frame t v hv (hnotp t ht)) (fun t v hv=>h.frame t v (lk_keepT hv).1 fun j hj _ hjt=>by
  obtain⟨o',ho'⟩:∃o',l[j]?=some o':=⟨l[j]'(C.lt j (by rw[h.split];simp[hj])),by simp[C.lt j (by rw[h.split];simp[hj])]⟩
  rw[dstAt_eq ho']at hjt
  exact(lk_keepT hv).2 o' (List.mem_of_getElem? ho') hjt) ?_
 ·unfold wpOpIn
  have:l.toArray[i]?=some o:=by simpa using ho
  rw[this]
  exact wanted_in hstep
 ·rintro st' w' c r H' hc' hfr' hk' hr hK
  obtain⟨hT,hnone,hkeep⟩:=h2 r H' hK
  have hne:=C.ne
  rw[h.split]at hne
  have hnd:∀k∈rest,i≠k:=(List.pairwise_cons.1 (List.pairwise_append.1 hne).2.1).1
  refine k st' w' _ _ _ ⟨by rw[h.split];simp,by simp[h.lsize],set_closed h.lsize ho h.closed (hready o ho),?_,hT,hc',?_,?_,?_,?_⟩
  ·intro j hj
   rw[getD_set_ne true (hnd j hj)]
   exact h.unl j (by simp[hj])
  ·cases hd:o.dst<;>simp[Act.put,h.size]
  ·cases hd:o.dst<;>exact hfr'
  ·intro t v ht hp
   by_cases e:o.dst=some t
   ·have hdN:=C.bound i hiπ t (by rw[dstAt_eq ho];exact e)
    cases r with
    |none=>
     have hn:=hnone rfl t e
     rw[e]at ht
     simp only[putR]at ht
     rw[hn]at ht
     cases ht
    |some u=>
     rw[e]at ht ⊢
     simp only[putR,lk,Nat.beq_refl,cond_true]at ht
     cases ht
     exact⟨c,by simp[Act.put,h.size,hdN],hr _ rfl⟩
   ·rw[lk_putR e]at ht
    obtain⟨c',h1,h2⟩:=h.frame t v ht fun j hj hju=>by
     have hji:i≠j:=by
      rintro rfl
      exact(List.pairwise_append.1 hne).2.2 i hj i (by simp) rfl
     exact hp j (by simp[hj]) (by rw[getD_set_ne true hji];exact hju)
    refine⟨c',?_,h2.mono hk'⟩
    cases hd:o.dst with
    |none=>exact h1
    |some d=>
     have:d≠t:=fun e'=>e (by rw[hd,e'])
     simp[Act.put,Array.getElem?_setIfInBounds_ne this,h1]
  ·intro j hj hju
   rcases List.mem_append.1 hj with hj|hj
   ·have hji:i≠j:=by
     rintro rfl
     exact(List.pairwise_append.1 hne).2.2 i hj i (by simp) rfl
    rw[getD_set_ne true hji]at hju
    obtain⟨o',need',Ti,g1,g2,g3,g4,g5,g6,g7⟩:=h.pend j hj hju
    obtain⟨-,-,p3,p4,p5⟩:=hcross j hj
    have hsj:=hsoft j hj hju
    have hneed:∀e∈need',e∈H'∧∃b t u,e=.box b t u∧LD.ld j t=true:=by
     intro e he
     obtain⟨e1,b,t,u,rfl,e2⟩:=g4 e he
     refine⟨?_,b,t,u,rfl,e2⟩
     cases hkq:(keepAt l i&&LD.kp i t)with
     |true=>
      simp only[Bool.and_eq_true]at hkq
      exact hkeep (by simpa [keepAt,ho]using hkq.1) b t u hkq.2 e1
     |false=>exact absurd (p5 hsj t e2 hs hkq) (hnoanc j hj hju)
    refine⟨o',need',Ti,g1,g2,g3,hneed,g5,fun d' hd'=>?_,fun t ht v hv=>?_⟩
    ·rw[lk_putR,g6 d' hd']
     intro e
     exact p4 (.inl hsj) d' (by rw[dstAt_eq g1];exact hd') (by rw[dstAt_eq ho];exact e)
    ·rcases g7 t ht v hv with⟨m,hm,hmu,ha,hmd,hmv⟩|⟨hno,c',h1,h2⟩
     ·have him:i≠m:=by
       rintro rfl
       exact(List.pairwise_append.1 hne).2.2 i hm i (by simp) rfl
      exact .inl ⟨m,by simp[hm],by rw[getD_set_ne true him];exact hmu,ha,hmd,hmv⟩
     ·refine .inr ⟨fun q hq hqu hqj hqd=>?_,c',?_,h2.mono hk'⟩
      ·have hqi:i≠q:=by
        rintro rfl
        rw[getD_set_self (by rw[h.lsize];exact hilt)]at hqu
        cases hqu
       rw[getD_set_ne true hqi]at hqu
       rcases List.mem_append.1 hq with hq|hq
       ·exact hno q hq hqu hqj hqd
       ·simp at hq
        exact absurd hq.symm hqi
      ·cases hd:o.dst with
       |none=>exact h1
       |some d=>
        have:d≠t:=by
         rintro rfl
         exact hnoanc j hj hju (p3 d (by rw[dstAt_eq ho];exact hd) (by rw[readsAt_eq g1];exact ht))
        simp[Act.put,Array.getElem?_setIfInBounds_ne this,h1]
   ·simp at hj
    subst hj
    rw[getD_set_self (by rw[h.lsize];exact hilt)]at hju
    cases hju
theorem lt_of_unl {i:Nat} (h:listed.getD i true=false):i<listed.size:=by
 rcases Nat.lt_or_ge i listed.size with h'|h'
 ·exact h'
 ·simp[Array.getElem?_eq_none h']at h
theorem all_listed (C:Checked l N LD mv π) (hl:listed.size=l.length) (hn:Region.ready .any l.toArray listed=[]):∀n i,i<n→i<l.length→listed.getD i true=true
 |0,_,h,_=>by omega
 |n+1,i,h,hi=>by
  apply Classical.byContradiction
  intro hne
  have hu:listed.getD i true=false:=by simpa using hne
  obtain⟨o,ho⟩:∃o,l[i]?=some o:=⟨l[i],by simp[hi]⟩
  have:i∈Region.ready .any l.toArray listed:=by
   refine mem_ready.2 ⟨hu,o,by simpa using ho,fun e he hb=>?_⟩
   have hlt:=C.edge i o e ho he hb
   have hel:e.on<l.length:=by omega
   have:=all_listed C hl hn n e.on (by omega) hel
   have hsz:e.on<listed.size:=by omega
   simpa [hsz]using this
  rw[hn]at this
  cases this
theorem fin (Ch:Chain P N l LD mv Q M) (h:DInv P N l LD M π Q E ro B0 ρ done rest listed T H st w a) (hall:∀i,listed.getD i true=true):Post E N ro B0 Q .normal a w:=by
 have hrest:rest=[]:=by
  cases rest with
  |nil=>rfl
  |cons x r=>
   have:=h.unl x (by simp)
   rw[hall]at this
   cases this
 subst hrest
 have hq':Q .normal T H:=Ch.nil T H h.tr
 exact Post.mk h.conc ⟨h.size,fun t v ht=>h.frame t v ht fun i hi hiu=>by rw[hall]at hiu;cases hiu⟩ h.defs (x:=.normal) trivial hq'
def Shape (l:List Oper) (LD:LDs) (mv:Nat→Bool) (π:List Nat):Prop:=
 ∃σ A τ,π=σ++(A++τ)∧(∀j∈σ,mv j=false∧hardAt l LD.sc j=false)∧(∀a∈A,mv a=true)∧∀t∈τ,mv t=false
theorem cut_in {i:Nat} {r2 τ:List Nat} (hτ:∀t∈τ,t≠i):∀(L A:List Nat),L++i::r2=A++τ→∃A1 A2,A=A1++i::A2∧L=A1∧r2=A2++τ
 |L,[],e=>absurd rfl (hτ i (by rw[List.nil_append]at e;rw[←e];simp))
 |[],a::A,e=>by
  simp only[List.nil_append,List.cons_append,List.cons.injEq]at e
  exact⟨[],A,by rw[e.1];rfl,rfl,e.2⟩
 |b::L,a::A,e=>by
  simp only[List.cons_append,List.cons.injEq]at e
  obtain⟨A1,A2,e1,e2,e3⟩:=cut_in hτ L A e.2
  exact⟨b::A1,A2,by rw[←e.1,e1];rfl,by rw[e2],e3⟩
theorem cut_mid {i:Nat} {r2 A τ:List Nat} (hτ:∀t∈τ,t≠i):∀(σ L:List Nat),(∀j∈σ,j≠i)→L++i::r2=σ++(A++τ)→∃A1 A2,A=A1++i::A2∧L=σ++A1∧r2=A2++τ
 |[],L,_,e=>by
  obtain⟨A1,A2,e1,e2,e3⟩:=cut_in hτ L A e
  exact⟨A1,A2,e1,e2,e3⟩
 |q::σ,[],h,e=>by
  simp only[List.nil_append,List.cons_append,List.cons.injEq]at e
  exact absurd e.1.symm (h q (by simp))
 |q::σ,b::L,h,e=>by
  simp only[List.cons_append,List.cons.injEq]at e
  obtain⟨A1,A2,e1,e2,e3⟩:=cut_mid hτ σ L (fun j hj=>h j (by simp[hj])) e.2
  exact⟨A1,A2,e1,by rw[e.1,e2];rfl,e3⟩
theorem Shape.cut {done r1 r2:List Nat} {i:Nat} (h:Shape l LD mv (done++(r1++i::r2))) (hi:mv i=true):
  ∃s B,r1=s++B∧(∀j∈s,hardAt l LD.sc j=false)∧(∀b∈B,mv b=true)∧Shape l LD mv ((done++s)++(i::(B++r2))):=by
 obtain⟨σ,A,τ,e,h1,h2,h3⟩:=h
 have e':(done++r1)++i::r2=σ++(A++τ):=by rw[←e];simp
 obtain⟨A1,A2,rfl,e1,rfl⟩:=cut_mid (fun t ht x=>by rw[x]at ht;rw[h3 i ht]at hi;cases hi) σ _ (fun j hj x=>by rw[x]at hj;rw[(h1 i hj).1]at hi;cases hi) e'
 have hA1:∀b∈A1,mv b=true:=fun b hb=>h2 b (by simp[hb])
 have hA2:∀b∈A2,mv b=true:=fun b hb=>h2 b (by simp[hb])
 rcases List.append_eq_append_iff.1 e1 with⟨s,x1,x2⟩|⟨c,x1,x2⟩
 ·refine⟨s,A1,x2,fun j hj=>(h1 j (by rw[x1];simp[hj])).2,hA1,σ,i::(A1++A2),τ,by rw[x1];simp,h1,fun a ha=>?_,h3⟩
  simp only[List.mem_cons,List.mem_append]at ha
  rcases ha with rfl|ha|ha
  ·exact hi
  ·exact hA1 a ha
  ·exact hA2 a ha
 ·refine⟨[],r1,rfl,fun j hj=>absurd hj List.not_mem_nil,fun b hb=>hA1 b (by rw[x2];simp[hb]),σ,c++i::(r1++A2),τ,by rw[x1];simp,h1,fun a ha=>?_,h3⟩
  simp only[List.mem_cons,List.mem_append]at ha
  rcases ha with ha|rfl|ha|ha
  ·exact hA1 a (by rw[x2];simp[ha])
  ·exact hi
  ·exact hA1 a (by rw[x2];simp[ha])
  ·exact hA2 a ha
theorem draw_main (Ch:Chain P N l LD mv Q M) (hsym:∀a b,mv a=true→mv b=true→a≠b→¬Anc l a b→PR l LD mv a b):∀(fuel:Nat) (U:List Nat) {π:List Nat} {ρ:Nat→Option AV} {done rest:List Nat} {listed:Array Bool} {T:Tmps} {H:AHeap} {st:Stab} {w:World} {a:Act},
  Checked l N LD mv π→Shape l LD mv π→DInv P N l LD M π Q E ro B0 ρ done rest listed T H st w a→(∀i,listed.getD i true=false→i∈U)→U.length≤fuel→wpAnyIn (fen ro) 0 P .any l.toArray (Post E N ro B0 Q) fuel listed a w:=by
 intro fuel
 induction fuel with
 |zero=>
  intro U π ρ done rest listed T H st w a C S h hU hf
  have hU0:U=[]:=List.eq_nil_of_length_eq_zero (by omega)
  subst hU0
  have hall:∀i,listed.getD i true=true:=fun i=>by
   cases hh:listed.getD i true with
   |true=>rfl
   |false=>exact absurd (hU i hh) (by simp)
  refine⟨?_,?_⟩
  ·cases hr:Region.ready .any l.toArray listed with
   |nil=>rfl
   |cons x xs=>
    have:x∈Region.ready .any l.toArray listed:=by rw[hr];simp
    have:=(mem_ready.1 this).1
    rw[hall]at this
    cases this
  ·exact fin Ch h hall
 |succ fuel ih=>
  intro U π ρ done rest listed T H st w a C S h hU hf
  have next:∀{i:Nat} {π':List Nat} {ρ':Nat→Option AV} {done' rest':List Nat} {T':Tmps} {H':AHeap} {st':Stab} {w':World} {a':Act},listed.getD i true=false→Checked l N LD mv π'→Shape l LD mv π'→
    DInv P N l LD M π' Q E ro B0 ρ' done' rest' (listed.setIfInBounds i true) T' H' st' w' a'→wpAnyIn (fen ro) 0 P .any l.toArray (Post E N ro B0 Q) fuel (listed.setIfInBounds i true) a' w':=by
   intro i π' ρ' done' rest' T' H' st' w' a' hi C' S' hd
   have hiU:=hU i hi
   refine ih (U.erase i) C' S' hd (fun j hj=>?_) ?_
   ·have hji:i≠j:=by
     rintro rfl
     rw[getD_set_self (lt_of_unl hi)]at hj
     cases hj
    rw[getD_set_ne true hji]at hj
    exact(List.mem_erase_of_ne (Ne.symm hji)).2 (hU j hj)
   ·rw[List.length_erase_of_mem hiU]
    have:=List.length_pos_of_mem hiU
    omega
  refine⟨fun hn=>fin Ch h fun i=>?_,fun i hi=>?_⟩
  ·rcases Nat.lt_or_ge i l.length with hlt|hge
   ·exact all_listed C h.lsize hn (i+1) i (by omega) hlt
   ·have:¬i<listed.size:=by rw[h.lsize];omega
    simp[this]
  ·obtain⟨hiu,o,ho,hr⟩:=mem_ready.1 hi
   have ho':l[i]?=some o:=by simpa using ho
   have hready:∀o,l[i]?=some o→∀e∈o.after,Region.binds .any e=true→listed.getD e.on false=true:=fun o2 h2=>by
    rw[ho']at h2
    cases h2
    exact hr
   have hilt:i<l.length:=by have:=lt_of_unl hiu;rw[h.lsize]at this;exact this
   have hiπ:=C.all i hilt
   rw[h.split]at hiπ
   rcases List.mem_append.1 hiπ with hid|hir
   ·exact h.late C hid hiu hready fun st' w' a' hd=>next hiu C S hd
   ·obtain⟨r1,r2,hr12⟩:=List.append_of_mem hir
    subst hr12
    have hkey:∀j∈r1,hardAt l LD.sc j=true→mv j=true∧mv i=true:=by
     intro j hj hh
     have hpw:=C.pair
     rw[h.split]at hpw
     have:=(List.pairwise_append.1 (List.pairwise_append.1 hpw).2.1).2.2 j hj i (by simp)
     rcases this.1 hh with ha|hm
     ·have:=anc_listed h.closed ha (fun o e ho he hb=>hready o ho e he hb)
      rw[getD_tf (h.unl j (by simp[hj]))]at this
      cases this
     ·exact hm
    cases hmi:mv i with
    |false=>
     have hsoft:∀j∈r1,hardAt l LD.sc j=false:=by
      intro j hj
      cases hh:hardAt l LD.sc j with
      |false=>rfl
      |true=>
       have:=(hkey j hj hh).2
       rw[hmi]at this
       cases this
     obtain⟨ρ1,T1,h1⟩:=h.advances Ch C r1 hsoft
     cases hh:hardAt l LD.sc i with
     |true=>exact h1.now Ch C hh hready fun st' w' a' T' H' hd=>next hiu C S hd
     |false=>
      obtain⟨ρ2,T2,h2⟩:=h1.advance Ch C hh
      exact h2.late C (by simp) hiu hready fun st' w' a' hd=>next hiu C S hd
    |true=>
     have hS:=S
     rw[h.split]at hS
     obtain⟨s,B,rfl,hs1,hs2,S'⟩:=hS.cut hmi
     rw[List.append_assoc]at h
     obtain⟨ρ1,T1,h1⟩:=h.advances Ch C s hs1
     have hsp:=h1.split
     have hne:∀b∈B,i≠b:=fun b hb e=>by
      have hn:=C.ne
      rw[hsp]at hn
      exact(List.pairwise_append.1 (List.pairwise_append.1 hn).2.1).2.2 b hb i (by simp) e.symm
     have hnb:∀b∈B,¬Anc l i b:=fun b hb ha=>by
      have hl:=anc_listed h1.closed ha (fun o e ho he hb=>hready o ho e he hb)
      rw[getD_tf (h1.unl b (by simp[hb]))]at hl
      cases hl
     have hmem:∀x,x∈(done++s)++(i::(B++r2))↔x∈π:=fun x=>by
      rw[hsp]
      simp only[List.mem_append,List.mem_cons]
      constructor<;>(intro h;rcases h with h|h|h|h<;>simp[h])
     have C':Checked l N LD mv ((done++s)++(i::(B++r2))):=by
      have hne':=C.ne
      have hpr:=C.pair
      rw[hsp]at hne' hpr
      exact⟨fun x hx=>C.bound x ((hmem x).1 hx),fun x hx=>(hmem x).2 (C.all x hx),fun x hx=>C.lt x ((hmem x).1 hx),pairwise_move hne' hne,C.edge,fun x hx=>C.one x ((hmem x).1 hx),
       pairwise_move hpr fun b hb=>hsym i b hmi (hs2 b hb) (hne b hb) (hnb b hb)⟩
     have h2:DInv P N l LD M ((done++s)++(i::(B++r2))) Q E ro B0 ρ1 (done++s) (i::(B++r2)) listed T1 H st w a:=
      ⟨rfl,h1.lsize,h1.closed,fun x hx=>h1.unl x (by simp only[List.mem_cons,List.mem_append]at hx ⊢;rcases hx with h|h|h<;>simp[h]),Ch.move B i r2 T1 H hmi hs2 hnb h1.tr,h1.conc,h1.size,h1.defs,h1.frame,h1.pend⟩
     cases hh:hardAt l LD.sc i with
     |true=>exact h2.now Ch C' hh hready fun st' w' a' T' H' hd=>next hiu C' S' (by simpa using hd)
     |false=>
      obtain⟨ρ2,T2,h3⟩:=h2.advance Ch C' hh
      exact h3.late C' (by simp) hiu hready fun st' w' a' hd=>next hiu C' S' (by simpa using hd)
end draw
theorem areg_chain (hm:P.follows .mixedOrders=true) {LD:LDs} {mv:Nat→Bool} {M:List Nat→Tmps→AHeap→Prop} (π:List Nat) {id:Nat} {l:List Oper} {T:Tmps} {H:AHeap} (Ch:Chain P N l LD mv Q M)
  (hsym:∀a b,mv a=true→mv b=true→a≠b→¬Anc l a b→PR l LD mv a b) (C:Checked l N LD mv π) (S:Shape l LD mv π) (h:M π T H):AWP P N (.region id l.toArray true) T H Q:=by
 intro E st w a ro B0 hc hf hd
 refine wpIn_region_any hm ?_
 refine draw_main Ch hsym _ (List.range l.length) (ρ:=fun _=>none) (done:=[]) (rest:=π) C S ⟨rfl,by simp,?_,?_,h,hc.draw,hf.size,(let ⟨ms,e,hd⟩:=hd;⟨ms,e,⟨hd.marks,hd.nodup,hd.size,hd.lrec,hd.gl⟩⟩),?_,?_⟩ ?_ (by simp)
 ·intro i o e _ hi
  exfalso
  simp only[Array.getD_eq_getD_getElem?,Array.getElem?_replicate]at hi
  split at hi<;>simp at hi
 ·intro i hi
  have:=C.lt i hi
  simp[this]
 ·intro t v ht _
  obtain⟨c,h1,h2⟩:=hf.val t v ht
  exact⟨c,h1,h2.mono (Keeps.draw _ _)⟩
 ·intro i hi
  cases hi
 ·intro i hi
  have:=lt_of_unl hi
  simpa using this
theorem chain_tr (hty:TyOk P ty) {l:List Oper} {LD:LDs}:Chain P N l LD (fun _=>false) Q (fun rest T H=>TR P N ty l LD false (pQ l Q) (sel l rest) T H) where
 soft:=fun i rest T H o h ho hs=>by
  simp only[sel,ho]at h
  exact TR.soft hty h rfl (by rw[hardAt_eq ho]at hs;exact hs)
 hard:=fun i rest T H o h ho hs=>by
  simp only[sel,ho]at h
  exact TR.step hty h rfl (by rw[hardAt_eq ho]at hs;exact hs)
 nil:=fun T H h=>by
  simp only[sel]at h
  cases h with
  |nil h=>exact h
  |know t x b hW=>cases hW
 move:=fun A i r T H hi _ _ _=>by cases hi
theorem areg_soft (hm:P.follows .mixedOrders=true) (hty:TyOk P ty) (sc:List Nat) (kc:List (Nat×List Nat)) (π:List Nat) {id:Nat} {l:List Oper} {T:Tmps} {H:AHeap} (hchk:drawOk sc l N π=true)
  (h:TR P N ty l (ldOf sc l (ancsOf l []) kc π) false (pQ l Q) (sel l π) T H):AWP P N (.region id l.toArray true) T H Q:=
 areg_chain hm π (chain_tr hty) (fun _ _ h=>by cases h) (checked_of sc kc (drawOkM_of hchk)) ⟨[],[],π,by simp,fun _ h=>absurd h List.not_mem_nil,fun _ h=>absurd h List.not_mem_nil,fun _ _=>rfl⟩ h
theorem areg_kept (hm:P.follows .mixedOrders=true) (hty:TyOk P ty) (kc:List (Nat×List Nat)) (π:List Nat) {id:Nat} {l:List Oper} {T:Tmps} {H:AHeap} (hchk:drawOk [] l N π=true)
  (h:TR P N ty l (ldOf [] l (ancsOf l []) kc π) false (pQ l Q) (sel l π) T H):AWP P N (.region id l.toArray true) T H Q:=
 areg_soft hm hty [] kc π hchk h
theorem areg_draw (hm:P.follows .mixedOrders=true) (hty:TyOk P ty) (π:List Nat) {id:Nat} {l:List Oper} {T:Tmps} {H:AHeap} (hchk:drawOk [] l N π=true)
  (h:TR P N ty l (ldOf [] l (ancsOf l []) (kcAuto l) π) false (pQ l Q) (sel l π) T H):AWP P N (.region id l.toArray true) T H Q:=
 areg_kept hm hty (kcAuto l) π hchk h
def OneO (P:Program) (N:Nat) (l:List Oper) (LD:LDs) (a:Nat) (T:Tmps) (H:AHeap) (M:Tmps→AHeap→Prop):Prop:=
 ∃(o:Oper) (K:Option AV→AHeap→Prop),l[a]?=some o∧(∀Q2,StepH P N l o T H K Q2)∧∀r H',K r H'→M (putR o.dst r T) H'∧(r=none→∀d,o.dst=some d→lk T d=none)∧(keepOp o.op=true→KeepB LD a H H')
theorem OneO.mono {l:List Oper} {LD:LDs} {a:Nat} {T:Tmps} {H:AHeap} {M M':Tmps→AHeap→Prop} (h:OneO P N l LD a T H M) (hm:∀T H,M T H→M' T H):OneO P N l LD a T H M':=
 let ⟨o,K,h1,h2,h3⟩:=h;⟨o,K,h1,h2,fun r H' hK=>⟨hm _ _ (h3 r H' hK).1,(h3 r H' hK).2⟩⟩
def AllO (P:Program) (N:Nat) (ty:TypeId→Option TyI) (l:List Oper) (LD:LDs) (Q:APost) (τ:List Nat):Nat→List Nat→Tmps→AHeap→Prop
 |0,_,T,H=>TR P N ty l LD false (pQ l Q) (sel l τ) T H
 |n+1,A,T,H=>∀a∈A,OneO P N l LD a T H (AllO P N ty l LD Q τ n (A.erase a))
theorem AllO.perm {l:List Oper} {LD:LDs} {τ:List Nat}:∀(n:Nat) {A A':List Nat} {T:Tmps} {H:AHeap},A.Perm A'→AllO P N ty l LD Q τ n A T H→AllO P N ty l LD Q τ n A' T H
 |0,_,_,_,_,_,h=>h
 |n+1,A,A',T,H,hp,h=>fun a ha=>by
  exact(h a (hp.mem_iff.2 ha)).mono fun T H h=>AllO.perm n (hp.erase a) h
theorem step_alloc (hty:TyOk P ty) {o:Oper} {t:TypeId} {ti:TyI} {T:Tmps} {H:AHeap} {l0:List Oper} (ho:o.op=.alloc t) (hg:o.guard=none) (ht:ty t=some ti):
  StepH P N l0 o T H (fun r H'=>∃b,r=some (.ptr b 0)∧H'=.box b t ti.zero::H) Q:=by
 intro E st w a ro B0 next hc hsz hd2 hf _ hk
 rw[if_pos (wanted_none hg)]
 refine(hard_alloc (F:=fun _=>none) hty ho ht (Env0.of w st H) st w a ro next (Post E N ro B0 Q) hc.start (fun y u hy=>by cases hy) hd2.gl ?_ ?_)
 ·intro st' w' v c H' h1 h2 h3 h4
  obtain⟨b,e1,e2⟩:=h4
  cases e1
  exact hk st' w' c (some _) H' (hc.trans h1) (hd2.keep h1) h2 (fun u hu=>by cases hu;exact h3) ⟨b,rfl,e2⟩
 ·intro st' w' v c H' h1 h2 h3 h4
  obtain⟨b,e1,_⟩:=h4
  cases e1
theorem one_alloc (hty:TyOk P ty) {l:List Oper} {LD:LDs} {a:Nat} {o:Oper} {t:TypeId} {ti:TyI} {d:Nat} {T:Tmps} {H:AHeap} {M:Tmps→AHeap→Prop} (hl:l[a]?=some o) (ho:o.op=.alloc t) (hg:o.guard=none) (hd:o.dst=some d)
  (ht:ty t=some ti) (k:∀b,M ((d,.ptr b 0)::T) (.box b t ti.zero::H)):OneO P N l LD a T H M:=by
 refine⟨o,_,hl,fun Q2=>step_alloc hty ho hg ht,?_⟩
 rintro r H' ⟨b,rfl,rfl⟩
 refine⟨?_,fun h=>(by cases h),fun _=>KeepB.cons _ _⟩
 rw[hd]
 exact k b
def Qs (P:Program) (N:Nat) (ty:TypeId→Option TyI) (l:List Oper) (LD:LDs) (Q:APost) (τ A:List Nat):APost:=fun x T H=>match x with
 |.normal=>AllO P N ty l LD Q τ A.length A T H
 |x=>Q x T H
def CH (P:Program) (N:Nat) (ty:TypeId→Option TyI) (l:List Oper) (LD:LDs) (mv:Nat→Bool) (Q:APost) (τ:List Nat) (rest:List Nat) (T:Tmps) (H:AHeap):Prop:=
 (TR P N ty l LD false (pQ l Q) (sel l rest) T H∧∀t∈rest,mv t=false)∨
 ∃s A,rest=s++(A++τ)∧A≠[]∧(∀j∈s,mv j=false∧hardAt l LD.sc j=false)∧(∀a∈A,mv a=true)∧TR P N ty l LD false (pQ l (Qs P N ty l LD Q τ A)) (sel l s) T H
theorem chain_ch (hty:TyOk P ty) {l:List Oper} {LD:LDs} {mv:Nat→Bool} {τ:List Nat} (hmh:∀a,mv a=true→hardAt l LD.sc a=true) (hτ:∀t∈τ,mv t=false):Chain P N l LD mv Q (CH P N ty l LD mv Q τ) where
 soft:=fun i rest T H o h ho hs=>by
  have hsi:hardAt l LD.sc i=false:=hs
  rcases h with⟨h,hn⟩|⟨s,A,e,hA,h1,h2,h⟩
  ·simp only[sel,ho]at h
   obtain⟨res,need,g1,g2,g3,g4,g5⟩:=TR.soft hty h rfl (by rw[hardAt_eq ho]at hs;exact hs)
   exact⟨res,need,g1,g2,g3,.inl ⟨g4,fun t ht=>hn t (by simp[ht])⟩,g5⟩
  ·cases s with
   |nil=>
    cases A with
    |nil=>exact absurd rfl hA
    |cons a A=>
     simp only[List.nil_append,List.cons_append,List.cons.injEq]at e
     have:=hmh a (h2 a (by simp))
     rw[←e.1,hsi]at this
     cases this
   |cons q s=>
    simp only[List.cons_append,List.cons.injEq]at e
    obtain⟨rfl,rfl⟩:=e
    simp only[sel,ho]at h
    obtain⟨res,need,g1,g2,g3,g4,g5⟩:=TR.soft hty h rfl (by rw[hardAt_eq ho]at hs;exact hs)
    exact⟨res,need,g1,g2,g3,.inr ⟨s,A,rfl,hA,fun j hj=>h1 j (by simp[hj]),h2,g4⟩,g5⟩
 hard:=fun i rest T H o h ho hs=>by
  have hsi:hardAt l LD.sc i=true:=hs
  rcases h with⟨h,hn⟩|⟨s,A,e,hA,h1,h2,h⟩
  ·simp only[sel,ho]at h
   obtain⟨K,g1,g2⟩:=TR.step hty h rfl (by rw[hardAt_eq ho]at hs;exact hs)
   exact⟨K,g1,fun r H' hK=>⟨.inl ⟨(g2 r H' hK).1,fun t ht=>hn t (by simp[ht])⟩,(g2 r H' hK).2⟩⟩
  ·cases s with
   |cons q s=>
    simp only[List.cons_append,List.cons.injEq]at e
    have:=(h1 q (by simp)).2
    rw[←e.1,hsi]at this
    cases this
   |nil=>
    cases A with
    |nil=>exact absurd rfl hA
    |cons a A=>
     simp only[List.nil_append,List.cons_append,List.cons.injEq]at e
     obtain⟨rfl,rfl⟩:=e
     simp only[sel]at h
     have h':AllO P N ty l LD Q τ (i::A).length (i::A) T H:=by
      cases h with
      |nil h=>exact h
      |know t x b hW=>cases hW
     obtain⟨o',K,e1,e2,e3⟩:=h' i (by simp)
     rw[ho]at e1
     cases e1
     refine⟨K,e2 Q,?_⟩
     intro r H' hK
     obtain⟨g1,g2,g3⟩:=e3 r H' hK
     refine⟨?_,g2,g3⟩
     rw[List.erase_cons_head]at g1
     cases A with
     |nil=>exact .inl ⟨g1,hτ⟩
     |cons a A=>exact .inr ⟨[],a::A,rfl,by simp,fun j hj=>absurd hj List.not_mem_nil,fun x hx=>h2 x (by simp[hx]),.nil g1⟩
 nil:=fun T H h=>by
  rcases h with⟨h,_⟩|⟨s,A,e,hA,_⟩
  ·simp only[sel]at h
   cases h with
   |nil h=>exact h
   |know t x b hW=>cases hW
  ·cases s<;>cases A<;>simp at e hA
 move:=fun A0 i r T H hi h0 _ h=>by
  rcases h with⟨_,hn⟩|⟨s,A,e,hA,h1,h2,h⟩
  ·have:=hn i (by simp)
   rw[hi]at this
   cases this
  ·have hs:s=[]:=by
    cases s with
    |nil=>rfl
    |cons q s=>
     have hq:=(h1 q (by simp)).1
     cases A0 with
     |nil=>
      simp only[List.nil_append,List.cons_append,List.cons.injEq]at e
      rw[←e.1,hi]at hq
      cases hq
     |cons b B=>
      simp only[List.cons_append,List.cons.injEq]at e
      have:=h0 b (by simp)
      rw[e.1,hq]at this
      cases this
   subst hs
   obtain⟨A1,A2,rfl,rfl,rfl⟩:=cut_in (fun t ht x=>by rw[x]at ht;rw[hτ i ht]at hi;cases hi) A0 A (by simpa using e)
   simp only[sel]at h
   have h':AllO P N ty l LD Q τ (A0++i::A2).length (A0++i::A2) T H:=by
    cases h with
    |nil h=>exact h
    |know t x b hW=>cases hW
   have hp:(A0++i::A2).Perm (i::(A0++A2)):=List.perm_middle
   refine .inr ⟨[],i::(A0++A2),by simp,by simp,fun j hj=>absurd hj List.not_mem_nil,fun x hx=>h2 x (hp.mem_iff.2 hx),.nil ?_⟩
   have:=AllO.perm _ hp h'
   rw[hp.length_eq]at this
   exact this
def allocsOk (l:List Oper) (σ A τ:List Nat):Bool:=
 A.all (hardAt l (fun x=>([]:List Nat).contains x))&&A.all (fun a=>A.all fun b=>Nat.beq a b || pairOkM [] l (ancsOf l []) (fun i=>A.contains i) a b)&&σ.all (fun j=> !A.contains j&& !hardAt l (fun x=>([]:List Nat).contains x) j)&&τ.all (fun t=> !A.contains t)&& !A.isEmpty
theorem areg_allocs (hm:P.follows .mixedOrders=true) (hty:TyOk P ty) (σ A τ:List Nat) {id:Nat} {l:List Oper} {T:Tmps} {H:AHeap} (hchk:drawOkM [] l N (fun i=>A.contains i) (σ++(A++τ))=true) (hA:allocsOk l σ A τ=true)
  (h:TR P N ty l (ldOf [] l (ancsOf l []) [] (σ++(A++τ))) false (pQ l (Qs P N ty l (ldOf [] l (ancsOf l []) [] (σ++(A++τ))) Q τ A)) (sel l σ) T H):AWP P N (.region id l.toArray true) T H Q:=by
 simp only[allocsOk,Bool.and_eq_true,List.all_eq_true,Bool.not_eq_true',Bool.or_eq_true]at hA
 obtain⟨⟨⟨⟨a1,a2⟩,a3⟩,a4⟩,a5⟩:=hA
 have hmem:∀a,A.contains a=true→a∈A:=fun a ha=>by simpa using ha
 have hmem':∀a∈A,A.contains a=true:=fun a ha=>by simpa using ha
 have hmh:∀a,A.contains a=true→hardAt l (fun x=>([]:List Nat).contains x) a=true:=fun a ha=>a1 a (hmem a ha)
 refine areg_chain hm (mv:=fun i=>A.contains i) (σ++(A++τ)) (chain_ch hty hmh a4) (fun a b ha hb hne _=>?_) (checked_of [] [] hchk) ⟨σ,A,τ,rfl,a3,hmem',a4⟩
  (.inr ⟨σ,A,rfl,by rintro rfl;simp at a5,a3,hmem',h⟩)
 have hp:pairOkM [] l (ancsOf l []) (fun i=>A.contains i) a b=true:=by
  rcases a2 a (hmem a ha) b (hmem b hb)with e|e
  ·exact absurd (Nat.eq_of_beq_eq_true e) hne
  ·exact e
 obtain⟨p1,p2,p3,p4⟩:=pairOkM_spec hp
 refine⟨p1,p2,p3,p4,fun hs=>?_⟩
 exact absurd (show true=false from (hmh a ha).symm.trans hs) (by simp)
theorem sel_range':∀(suf pre l:List Oper),l=pre++suf→sel l (List.range' pre.length suf.length)=ix pre.length suf
 |[],_,_,_=>rfl
 |o::suf,pre,l,e=>by
  have h:l[pre.length]?=some o:=by rw[e];simp
  have:=sel_range' suf (pre++[o]) l (by rw[e];simp)
  simp only[List.length_append,List.length_cons,List.length_nil,Nat.zero_add]at this
  simp only[List.length_cons,List.range'_succ,sel,h,ix,this]
theorem sel_range (l:List Oper):sel l (List.range l.length)=ix 0 l:=by
 rw[List.range_eq_range']
 exact sel_range' l [] l rfl
theorem areg_text (hm:P.follows .mixedOrders=true) (hty:TyOk P ty) {id:Nat} {l:List Oper} {T:Tmps} {H:AHeap} (hchk:drawOk [] l N (List.range l.length)=true)
  (h:TR P N ty l (ldOf [] l (ancsOf l []) (kcAuto l) (List.range l.length)) false (pQ l Q) (ix 0 l) T H):AWP P N (.region id l.toArray true) T H Q:=
 areg_draw hm hty _ hchk (by rw[sel_range];exact h)
end
end Go.Ab
namespace Go.Ab
theorem sl_tail {α:Type} [Inhabited α] (f:α→List AV) (sz:Nat) (x:α) (xs:List α) (o:Own):
  Sub (.slice sz ((x::xs).length-(1:Int).toNat) (fun i=>f ((x::xs).getD ((1:Int).toNat+i) default)) o) (sl f sz xs o):=by
 refine Sub.el fun i _=>?_
 have:(1:Int).toNat+i=i+1:=by omega
 rw[this]
 rfl
theorem Sub.nilso (sz:Nat) (el:Nat→List AV):Sub .nils (.slice sz 0 el (.own none 0)):=by
 intro st w c h
 cases h
 exact .slice sz 0 el (.own none 0) none 0 0 0 (fun _ _=>undef) (Nat.le_refl _) (.inl rfl) (fun i hi=>absurd hi (by omega)) (fun i j hi=>absurd hi (by omega)) (fun i j v hi=>absurd hi (by omega)) ⟨rfl,rfl⟩ (fun i j hi=>absurd hi (by omega))
section
variable {P:Program} {N:Nat} {ty:TypeId→Option TyI} {l0:List Oper} {LD:LDs} {W:Bool} {Q:APost} {n:Nat} {o:Oper} {l:List (Nat×Oper)} {T:Tmps} {H:AHeap}
theorem TR.pureB (b:Bool) {p:Prop} {c:Bool} {d:Nat} (hg:o.guard=none) (hd:o.dst=some d) (hN:Nat.ble (d+1) N=true) (hv:aeval ty (opvL (tmpsOf o.op) T) o.op=some (p,.bool c))
  (ho:optN True T (tmpsOf o.op)) (hc:c=b) (hp:p) (k:TR P N ty l0 LD W Q l ((d,.bool b)::T) H):TR P N ty l0 LD W Q ((n,o)::l) T H:=
 TR.pure p (.bool c) d hg hd hN hv ho hp (by rw[hc];exact k)
theorem TR.hcallA {cf:Operand} {args:Array Operand} {ats:Array TypeId} {f:FuncId} {first captured vs:List AV} {K:ARes→AHeap→Prop} (hg:o.guard=none)
  (ho:o.op=.call {callee:=.value cf,args:=args,argTypes:=ats}) (hN:dstOk o.dst N=true) (hon:optN True T (tmpsOf o.op))
  (hf:opvL (tmpsOf o.op) T cf=some (.func (.func f) first captured)) (hm:mapF (opvL (tmpsOf o.op) T) args.toList=some vs) (h:ACalls P f (first++vs++captured) H K)
  (k:∀v H',K (.ret v) H'→TR P N ty l0 LD W Q l (putO o.dst v T) H') (kp:∀v H',K (.panic v) H'→Q (.panic v) T H') (hkb:∀v H',K (.ret v) H'→KeepB LD n H H':=by intro _ _ _ _ _ _ h _;cases h) (hsc:LD.sc n=false:=by exact rfl):TR P N ty l0 LD W Q ((n,o)::l) T H:=
 TR.hcall (G:=[]) hg ho hN hon hf hm (by rw[List.append_nil]) h (fun v H' hk=>by rw[List.append_nil];exact k v H' hk) (fun v H' hk=>by rw[List.append_nil];exact kp v H' hk) (fun v H' hk=>by rw[List.append_nil];exact hkb v H' hk) hsc
theorem fnQ_none {rs:List ResultVar} {K:AHeap→Prop} {x:AX} (hx:isRet x=true) (hr:rs=[]) (h:K H):fnQ ty rs (fun r H'=>r=.ret (.tuple [])∧K H') x T H:=
 fnQ_ret (vs:=[]) 0 hx (by rw[hr];exact .nil) (Sub.refl _) ⟨rfl,h⟩
theorem TR.hcallT {cf:Operand} {args:Array Operand} {ats:Array TypeId} {f:FuncId} {first captured vs:List AV} (G:AHeap) {Hc:AHeap} {K:ARes→AHeap→Prop} (hg:o.guard=none)
  (ho:o.op=.call {callee:=.value cf,args:=args,argTypes:=ats}) (hN:dstOk o.dst N=true) (hon:optN True T (tmpsOf o.op))
  (hf:opvL (tmpsOf o.op) T cf=some (.func (.func f) first captured)) (hm:mapF (opvL (tmpsOf o.op) T) args.toList=some vs) (hp:H=G++Hc) (h:ACalls P f (first++vs++captured) Hc K)
  (k:∀v H',K (.ret v) H'→TR P N ty l0 LD W Q l (putO o.dst v T) (G++H')) (kp:∀v H',K (.panic v) H'→Q (.panic v) T (G++H')) (hkb:∀v H',K (.ret v) H'→KeepB LD n H (G++H'):=by intro _ _ _ _ _ _ h _;cases h) (hsc:LD.sc n=false:=by exact rfl):TR P N ty l0 LD W Q ((n,o)::l) T H:=by
 refine TR.hard (fun r H'=>∃Hc',H'=G++Hc'∧K r Hc') (.inr (by rw[ho];rfl)) hg hN hon ?_ ?_ ?_ (fun _ v H' ⟨Hc',e,hK⟩=>e▸hkb v Hc' hK) (fun _=>hsc)
 ·intro E st w a r next Q hc hF hout hr hpn
  refine hard_call (Hc:=Hc) (G:=G) ho hf hm (by rw[hp];exact List.perm_append_comm) h E st w a r next Q hc hF hout ?_ ?_
  ·rintro st' w' u c H' h1 h2 h3 ⟨Hc',rfl,h4⟩
   exact hr st' w' u c _ (h1.perm List.perm_append_comm) h2 h3 ⟨Hc',rfl,h4⟩
  ·rintro st' w' u c H' h1 h2 h3 ⟨Hc',rfl,h4⟩
   exact hpn st' w' u c _ (h1.perm List.perm_append_comm) h2 h3 ⟨Hc',rfl,h4⟩
 ·rintro v H' ⟨Hc',rfl,e⟩
  exact k v Hc' e
 ·rintro v H' ⟨Hc',rfl,e⟩
  exact kp v Hc' e
theorem Conc.tok0 {E:Env0} {st:Stab} {w:World} (h:Conc E st H w) (sz:Nat) (e:TypeId):Conc E st (.tok none 0 0 sz e::H) w:=by
 have hno:∀k,¬(Ent.tok none 0 0 sz e).owns k:=fun k hk=>absurd hk.1 (by omega)
 refine⟨h.os,h.tape,h.output,h.size,h.old,h.keep,h.stle,h.stnew,h.stlt,?_,?_,?_,?_,h.fz⟩
 ·rintro k ⟨e',he,hk⟩
  rcases List.mem_cons.1 he with rfl|he
  ·exact absurd hk (hno k)
  ·exact h.ownnew k ⟨e',he,hk⟩
 ·rintro k ⟨e',he,hk⟩
  rcases List.mem_cons.1 he with rfl|he
  ·exact absurd hk (hno k)
  ·exact h.ownlt k ⟨e',he,hk⟩
 ·intro e' he
  rcases List.mem_cons.1 he with rfl|he
  ·exact .inl rfl
  ·exact h.ents e' he
 ·exact List.pairwise_cons.2 ⟨fun e' _ k hk=>absurd hk (hno k),h.sep⟩
theorem awp_tok0 {c:Code} (sz:Nat) (e:TypeId) (h:AWP P N c T (.tok none 0 0 sz e::H) Q):AWP P N c T H Q:=
 fun E st w a r B h1 h2 h3=>h E st w a r B (h1.tok0 sz e) h2 (h3.sub fun k ⟨e2,he,hk⟩=>by
  rcases List.mem_cons.1 he with rfl|he
  ·exact absurd hk.1 (by omega)
  ·exact⟨e2,he,hk⟩)
theorem awp_loopP {c:Code} {ι:Type} (I:ι→Tmps) (J:ι→AHeap) (μ:ι→Nat) (i0:ι) (h0:Weak T (I i0)) (hJ:∃F,H.Perm (F++J i0))
  (round:∀i,AWP P N c (I i) (J i) (thenQ (fun T' H'=>∃i',Weak T' (I i')∧(∃F,H'.Perm (F++J i'))∧μ i'<μ i) Q)):AWP P N (.loop c) T H Q:=by
 refine awp_loop ι I J μ ?_ fun i=>awp_mono (round i) ?_
 ·intro E st w a h1 h2
  obtain⟨F,hF⟩:=hJ
  exact⟨st,I i0,J i0,(h1.perm hF).drop_front,h2.weaken h0.spec,i0,rfl,rfl⟩
 ·intro x T' H' hx
  cases x with
  |normal=>
   obtain⟨i',h3,⟨F,hF⟩,h5⟩:=hx
   intro E st w a h1 h2
   exact⟨st,I i',J i',(h1.perm hF).drop_front,h2.weaken h3.spec,i',rfl,rfl,h5⟩
  |_=>exact hx
theorem dropP1 {e:Ent} {J J':AHeap} (h:J=J'):∃F,(e::J).Perm (F++J'):=⟨[e],by rw[h];exact List.Perm.refl _⟩
end
end Go.Ab
namespace Go.Ab
inductive EntAt:AHeap→Ent→(Ent→AHeap)→Prop
 |here {e:Ent} {H:AHeap}:EntAt (e::H) e (fun x=>x::H)
 |there {y e:Ent} {H:AHeap} {F:Ent→AHeap} (h:EntAt H e F):EntAt (y::H) e (fun x=>y::F x)
theorem EntAt.spec {H:AHeap} {e:Ent} {F:Ent→AHeap} (h:EntAt H e F):∃i,H[i]?=some e∧∀x,F x=H.set i x:=by
 induction h with
 |here=>exact⟨0,rfl,fun _=>rfl⟩
 |there _ ih=>
  obtain⟨i,h1,h2⟩:=ih
  exact⟨i+1,by simpa using h1,fun x=>by simp only[h2,List.set_cons_succ]⟩
inductive AppL:AHeap→AHeap→AHeap→Prop
 |nil {G:AHeap}:AppL [] G G
 |cons {e:Ent} {l G H:AHeap} (h:AppL l G H):AppL (e::l) G (e::H)
theorem AppL.eq {l G H:AHeap} (h:AppL l G H):H=l++G:=by
 induction h with
 |nil=>rfl
 |cons _ ih=>rw[ih,List.cons_append]
section
variable {P:Program} {N:Nat} {ty:TypeId→Option TyI} {l0:List Oper} {LD:LDs} {W:Bool} {Q:APost} {n:Nat} {o:Oper} {l:List (Nat×Oper)} {T:Tmps} {H:AHeap}
theorem qp {p:Prop} {v:AV} {d:Nat} (k:TR P N ty l0 LD W Q l ((d,v)::T) H) (hg:o.guard=none:=by exact rfl) (hd:o.dst=some d:=by exact rfl) (hN:Nat.ble (d+1) N=true:=by exact rfl)
  (hv:aeval ty (opvL (tmpsOf o.op) T) o.op=some (p,v):=by exact rfl) (ho:optN True T (tmpsOf o.op):=by(first|exact True.intro|exact⟨id,True.intro⟩|exact⟨id,id,True.intro⟩|exact⟨id,id,id,True.intro⟩)) (hp:p:=by(first|exact True.intro|assumption|omega|(simp only[List.length_cons,List.length_nil];omega)|(simp only[inK];omega)|exact fun _=>True.intro|(intro _;omega)|(intro h1 h2;rw[h1,h2];rfl)|(intro h1 h2;simp only[h1,h2];done)|(intro h1 h2;simp[h1,h2];done)|(intro _;simp only[inK];omega)|(intro hx;simp only[Bool.and_eq_true,Bool.or_eq_false_iff,Bool.and_eq_false_imp,Bool.or_eq_true,decide_eq_true_eq,decide_eq_false_iff_not,bne_iff_ne,beq_iff_eq,bne_eq_false_iff_eq,beq_eq_false_iff_ne,ne_eq,Bool.not_eq_true',Bool.not_eq_false']at hx;(try simp only[inK]);omega)|exact id|decide|(intro _;decide))):TR P N ty l0 LD W Q ((n,o)::l) T H:=TR.pure p v d hg hd hN hv ho hp k
theorem qt {p:Prop} {c:Bool} {d:Nat} (k:TR P N ty l0 LD W Q l ((d,.bool true)::T) H) (hg:o.guard=none:=by exact rfl) (hd:o.dst=some d:=by exact rfl) (hN:Nat.ble (d+1) N=true:=by exact rfl)
  (hv:aeval ty (opvL (tmpsOf o.op) T) o.op=some (p,.bool c):=by exact rfl) (ho:optN True T (tmpsOf o.op):=by(first|exact True.intro|exact⟨id,True.intro⟩|exact⟨id,id,True.intro⟩|exact⟨id,id,id,True.intro⟩)) (hc:c=true:=by first|exact rfl|(first|(refine decide_eq_true ?_;first|assumption|omega|(simp only[List.length_cons,List.length_nil];omega))|(refine beq_iff_eq.2 ?_;omega)|(refine bne_iff_ne.2 ?_;omega))) (hp:p:=by(first|exact True.intro|assumption|omega|(simp only[List.length_cons,List.length_nil];omega)|(simp only[inK];omega)|exact fun _=>True.intro|(intro _;omega)|(intro h1 h2;rw[h1,h2];rfl)|(intro h1 h2;simp only[h1,h2];done)|(intro h1 h2;simp[h1,h2];done)|(intro _;simp only[inK];omega)|(intro hx;simp only[Bool.and_eq_true,Bool.or_eq_false_iff,Bool.and_eq_false_imp,Bool.or_eq_true,decide_eq_true_eq,decide_eq_false_iff_not,bne_iff_ne,beq_iff_eq,bne_eq_false_iff_eq,beq_eq_false_iff_ne,ne_eq,Bool.not_eq_true',Bool.not_eq_false']at hx;(try simp only[inK]);omega)|exact id|decide|(intro _;decide))):
  TR P N ty l0 LD W Q ((n,o)::l) T H:=TR.pureB true hg hd hN hv ho hc hp k
theorem qf {p:Prop} {c:Bool} {d:Nat} (k:TR P N ty l0 LD W Q l ((d,.bool false)::T) H) (hg:o.guard=none:=by exact rfl) (hd:o.dst=some d:=by exact rfl) (hN:Nat.ble (d+1) N=true:=by exact rfl)
  (hv:aeval ty (opvL (tmpsOf o.op) T) o.op=some (p,.bool c):=by exact rfl) (ho:optN True T (tmpsOf o.op):=by(first|exact True.intro|exact⟨id,True.intro⟩|exact⟨id,id,True.intro⟩|exact⟨id,id,id,True.intro⟩)) (hc:c=false:=by first|exact rfl|(first|(refine decide_eq_false ?_;first|assumption|omega|(simp only[List.length_cons,List.length_nil];omega))|(refine beq_eq_false_iff_ne.2 ?_;omega)|(refine bne_eq_false_iff_eq.2 ?_;omega))) (hp:p:=by(first|exact True.intro|assumption|omega|(simp only[List.length_cons,List.length_nil];omega)|(simp only[inK];omega)|exact fun _=>True.intro|(intro _;omega)|(intro h1 h2;rw[h1,h2];rfl)|(intro h1 h2;simp only[h1,h2];done)|(intro h1 h2;simp[h1,h2];done)|(intro _;simp only[inK];omega)|(intro hx;simp only[Bool.and_eq_true,Bool.or_eq_false_iff,Bool.and_eq_false_imp,Bool.or_eq_true,decide_eq_true_eq,decide_eq_false_iff_not,bne_iff_ne,beq_iff_eq,bne_eq_false_iff_eq,beq_eq_false_iff_ne,ne_eq,Bool.not_eq_true',Bool.not_eq_false']at hx;(try simp only[inK]);omega)|exact id|decide|(intro _;decide))):
  TR P N ty l0 LD W Q ((n,o)::l) T H:=TR.pureB false hg hd hN hv ho hc hp k
theorem qon {j:Nat} {b:Bool} {dj:Nat} (k:TR P N ty l0 LD W Q ((n,{o with guard:=none})::l) T H) (hg:o.guard=some (j,b):=by exact rfl) (hj:gdst l0 j=some dj:=by exact rfl)
  (hb:lk T dj=some (.bool b):=by exact rfl):TR P N ty l0 LD W Q ((n,o)::l) T H:=TR.on j b dj hg hj hb k
theorem qoff {j:Nat} {b:Bool} {u:AV} {dj d:Nat} (k:TR P N ty l0 LD W Q l ((d,.tuple [])::T) H) (hg:o.guard=some (j,b):=by exact rfl) (hj:gdst l0 j=some dj:=by exact rfl) (hb:lk T dj=some u:=by exact rfl)
  (hx:isOff u b=true:=by exact rfl) (hd:o.dst=some d:=by exact rfl) (hN:Nat.ble (d+1) N=true:=by exact rfl):TR P N ty l0 LD W Q ((n,o)::l) T H:=TR.off j b u dj d hg hj hb hx hd hN k
theorem qopt {p:Prop} {v:AV} {d j:Nat} {g b x:Bool} {dj:Nat} (k:TR P N ty l0 LD W Q l ((d,.opt x b v)::T) H) (hg:o.guard=some (j,g):=by exact rfl) (hj:gdst l0 j=some dj:=by exact rfl)
  (hb:gcond (lk T dj) g=some (x,b):=by exact rfl) (hd:o.dst=some d:=by exact rfl) (hN:Nat.ble (d+1) N=true:=by exact rfl) (hv:aeval ty (opvL (tmpsOf o.op) T) o.op=some (p,v):=by exact rfl)
  (ho:optN (x=b) T (tmpsOf o.op):=by(first|exact True.intro|exact⟨id,True.intro⟩|exact⟨id,id,True.intro⟩|exact⟨id,id,id,True.intro⟩)) (hp:x=b→p:=by(first|exact True.intro|assumption|omega|(simp only[List.length_cons,List.length_nil];omega)|(simp only[inK];omega)|exact fun _=>True.intro|(intro _;omega)|(intro h1 h2;rw[h1,h2];rfl)|(intro h1 h2;simp only[h1,h2];done)|(intro h1 h2;simp[h1,h2];done)|(intro _;simp only[inK];omega)|(intro hx;simp only[Bool.and_eq_true,Bool.or_eq_false_iff,Bool.and_eq_false_imp,Bool.or_eq_true,decide_eq_true_eq,decide_eq_false_iff_not,bne_iff_ne,beq_iff_eq,bne_eq_false_iff_eq,beq_eq_false_iff_ne,ne_eq,Bool.not_eq_true',Bool.not_eq_false']at hx;(try simp only[inK]);omega)|exact id|decide|(intro _;decide))):TR P N ty l0 LD W Q ((n,o)::l) T H:=TR.opt p v d j g b x dj hg hj hb hd hN hv ho hp k
theorem qhopt {t:TypeId} {y:Operand} {ti:TyI} {bb off:Nat} {ty0:TypeId} {u v:AV} {p:Prop} {d j:Nat} {g b x:Bool} {dj:Nat} (k:TR P N ty l0 LD W Q l ((d,.opt x b v)::T) H)
  (hg:o.guard=some (j,g):=by exact rfl) (hj:gdst l0 j=some dj:=by exact rfl) (hb:gcond (lk T dj) g=some (x,b):=by exact rfl) (ho:o.op=.load t y:=by exact rfl) (hd:o.dst=some d:=by exact rfl)
  (hN:Nat.ble (d+1) N=true:=by exact rfl) (hx:opvL (tmpsOf o.op) T y=some (.ptr bb off):=by exact rfl) (hon:optN (x=b) T (tmpsOf o.op):=by(first|exact True.intro|exact⟨id,True.intro⟩|exact⟨id,id,True.intro⟩|exact⟨id,id,id,True.intro⟩)) (ht:ty t=some ti:=by exact rfl)
  (hm:Ent.box bb ty0 u∈H:=by(first|exact(List.Mem.head _)|exact List.Mem.tail _ ((List.Mem.head _))|exact List.Mem.tail _ (List.Mem.tail _ ((List.Mem.head _)))|exact List.Mem.tail _ (List.Mem.tail _ (List.Mem.tail _ ((List.Mem.head _))))|exact List.Mem.tail _ (List.Mem.tail _ (List.Mem.tail _ (List.Mem.tail _ ((List.Mem.head _)))))|exact List.Mem.tail _ (List.Mem.tail _ (List.Mem.tail _ (List.Mem.tail _ (List.Mem.tail _ ((List.Mem.head _))))))|exact List.Mem.tail _ (List.Mem.tail _ (List.Mem.tail _ (List.Mem.tail _ (List.Mem.tail _ (List.Mem.tail _ ((List.Mem.head _)))))))|exact List.Mem.tail _ (List.Mem.tail _ (List.Mem.tail _ (List.Mem.tail _ (List.Mem.tail _ (List.Mem.tail _ (List.Mem.tail _ ((List.Mem.head _))))))))|exact List.Mem.tail _ (List.Mem.tail _ (List.Mem.tail _ (List.Mem.tail _ (List.Mem.tail _ (List.Mem.tail _ (List.Mem.tail _ (List.Mem.tail _ ((List.Mem.head _))))))))))) (hv:boxAt ti u off=some (p,v):=by exact rfl) (hl:LD.ld n ty0=true:=by first|exact rfl|decide +kernel) (hp:x=b→p:=by(first|exact True.intro|assumption|omega|(simp only[List.length_cons,List.length_nil];omega)|(simp only[inK];omega)|exact fun _=>True.intro|(intro _;omega)|(intro h1 h2;rw[h1,h2];rfl)|(intro h1 h2;simp only[h1,h2];done)|(intro h1 h2;simp[h1,h2];done)|(intro _;simp only[inK];omega)|(intro hx;simp only[Bool.and_eq_true,Bool.or_eq_false_iff,Bool.and_eq_false_imp,Bool.or_eq_true,decide_eq_true_eq,decide_eq_false_iff_not,bne_iff_ne,beq_iff_eq,bne_eq_false_iff_eq,beq_eq_false_iff_ne,ne_eq,Bool.not_eq_true',Bool.not_eq_false']at hx;(try simp only[inK]);omega)|exact id|decide|(intro _;decide))):
  TR P N ty l0 LD W Q ((n,o)::l) T H:=TR.hopt t y ti bb off ty0 u p v d j g b x dj hg hj hb ho hd hN hx hon ht hm hv hp hl k
theorem qgp {c a b':Operand} {y:Bool} {va vb v:AV} {pc p:Prop} {d j:Nat} {g b x:Bool} {dj:Nat} (k:TR P N ty l0 LD W Q l ((d,.opt x b v)::T) H) (hg:o.guard=some (j,g):=by exact rfl) (hj:gdst l0 j=some dj:=by exact rfl)
  (hb:gcond (lk T dj) g=some (x,b):=by exact rfl) (ho:o.op=.pick c a b':=by exact rfl) (hd:o.dst=some d:=by exact rfl) (hN:Nat.ble (d+1) N=true:=by exact rfl) (hc:copd (opv T c)=some (pc,y):=by exact rfl)
  (ha:opv T a=some va:=by exact rfl) (hb':opv T b'=some vb:=by exact rfl) (hv:apick y va vb=some (p,v):=by exact rfl) (hpc:x=b→pc:=by(first|exact True.intro|assumption|omega|(simp only[List.length_cons,List.length_nil];omega)|(simp only[inK];omega)|exact fun _=>True.intro|(intro _;omega)|(intro h1 h2;rw[h1,h2];rfl)|(intro h1 h2;simp only[h1,h2];done)|(intro h1 h2;simp[h1,h2];done)|(intro _;simp only[inK];omega)|(intro hx;simp only[Bool.and_eq_true,Bool.or_eq_false_iff,Bool.and_eq_false_imp,Bool.or_eq_true,decide_eq_true_eq,decide_eq_false_iff_not,bne_iff_ne,beq_iff_eq,bne_eq_false_iff_eq,beq_eq_false_iff_ne,ne_eq,Bool.not_eq_true',Bool.not_eq_false']at hx;(try simp only[inK]);omega)|exact id|decide|(intro _;decide))) (hp:x=b→p:=by(first|exact True.intro|assumption|omega|(simp only[List.length_cons,List.length_nil];omega)|(simp only[inK];omega)|exact fun _=>True.intro|(intro _;omega)|(intro h1 h2;rw[h1,h2];rfl)|(intro h1 h2;simp only[h1,h2];done)|(intro h1 h2;simp[h1,h2];done)|(intro _;simp only[inK];omega)|(intro hx;simp only[Bool.and_eq_true,Bool.or_eq_false_iff,Bool.and_eq_false_imp,Bool.or_eq_true,decide_eq_true_eq,decide_eq_false_iff_not,bne_iff_ne,beq_iff_eq,bne_eq_false_iff_eq,beq_eq_false_iff_ne,ne_eq,Bool.not_eq_true',Bool.not_eq_false']at hx;(try simp only[inK]);omega)|exact id|decide|(intro _;decide))):TR P N ty l0 LD W Q ((n,o)::l) T H:=
 TR.gpick c a b' y va vb v pc p d j g b x dj hg hj hb ho hd hN hc hpc ha hb' hv hp k
theorem qld {t:TypeId} {x:Operand} {ti:TyI} {b off:Nat} {ty0:TypeId} {u v:AV} {p:Prop} {d:Nat} (k:TR P N ty l0 LD W Q l ((d,v)::T) H) (hg:o.guard=none:=by exact rfl) (ho:o.op=.load t x:=by exact rfl)
  (hd:o.dst=some d:=by exact rfl) (hN:Nat.ble (d+1) N=true:=by exact rfl) (hx:opvL (tmpsOf o.op) T x=some (.ptr b off):=by exact rfl) (hon:optN True T (tmpsOf o.op):=by(first|exact True.intro|exact⟨id,True.intro⟩|exact⟨id,id,True.intro⟩|exact⟨id,id,id,True.intro⟩)) (ht:ty t=some ti:=by exact rfl)
  (hm:Ent.box b ty0 u∈H:=by(first|exact(List.Mem.head _)|exact List.Mem.tail _ ((List.Mem.head _))|exact List.Mem.tail _ (List.Mem.tail _ ((List.Mem.head _)))|exact List.Mem.tail _ (List.Mem.tail _ (List.Mem.tail _ ((List.Mem.head _))))|exact List.Mem.tail _ (List.Mem.tail _ (List.Mem.tail _ (List.Mem.tail _ ((List.Mem.head _)))))|exact List.Mem.tail _ (List.Mem.tail _ (List.Mem.tail _ (List.Mem.tail _ (List.Mem.tail _ ((List.Mem.head _))))))|exact List.Mem.tail _ (List.Mem.tail _ (List.Mem.tail _ (List.Mem.tail _ (List.Mem.tail _ (List.Mem.tail _ ((List.Mem.head _)))))))|exact List.Mem.tail _ (List.Mem.tail _ (List.Mem.tail _ (List.Mem.tail _ (List.Mem.tail _ (List.Mem.tail _ (List.Mem.tail _ ((List.Mem.head _))))))))|exact List.Mem.tail _ (List.Mem.tail _ (List.Mem.tail _ (List.Mem.tail _ (List.Mem.tail _ (List.Mem.tail _ (List.Mem.tail _ (List.Mem.tail _ ((List.Mem.head _))))))))))) (hv:boxAt ti u off=some (p,v):=by exact rfl) (hl:LD.ld n ty0=true:=by first|exact rfl|decide +kernel) (hp:p:=by(first|exact True.intro|assumption|omega|(simp only[List.length_cons,List.length_nil];omega)|(simp only[inK];omega)|exact fun _=>True.intro|(intro _;omega)|(intro h1 h2;rw[h1,h2];rfl)|(intro h1 h2;simp only[h1,h2];done)|(intro h1 h2;simp[h1,h2];done)|(intro _;simp only[inK];omega)|(intro hx;simp only[Bool.and_eq_true,Bool.or_eq_false_iff,Bool.and_eq_false_imp,Bool.or_eq_true,decide_eq_true_eq,decide_eq_false_iff_not,bne_iff_ne,beq_iff_eq,bne_eq_false_iff_eq,beq_eq_false_iff_ne,ne_eq,Bool.not_eq_true',Bool.not_eq_false']at hx;(try simp only[inK]);omega)|exact id|decide|(intro _;decide))):TR P N ty l0 LD W Q ((n,o)::l) T H:=
 TR.hload t x ti b off ty0 u p v d hg ho hd hN hx hon ht hm hv hp hl k
theorem qpick {c a b:Operand} {x:Bool} {va vb v:AV} {p:Prop} {d:Nat} (k:TR P N ty l0 LD W Q l ((d,v)::T) H) (hg:o.guard=none:=by exact rfl) (ho:o.op=.pick c a b:=by exact rfl) (hd:o.dst=some d:=by exact rfl)
  (hN:Nat.ble (d+1) N=true:=by exact rfl) (hc:opv T c=some (.bool x):=by exact rfl) (ha:opv T a=some va:=by exact rfl) (hb:opv T b=some vb:=by exact rfl) (hv:apick x va vb=some (p,v):=by exact rfl)
  (hp:p:=by(first|exact True.intro|assumption|omega|(simp only[List.length_cons,List.length_nil];omega)|(simp only[inK];omega)|exact fun _=>True.intro|(intro _;omega)|(intro h1 h2;rw[h1,h2];rfl)|(intro h1 h2;simp only[h1,h2];done)|(intro h1 h2;simp[h1,h2];done)|(intro _;simp only[inK];omega)|(intro hx;simp only[Bool.and_eq_true,Bool.or_eq_false_iff,Bool.and_eq_false_imp,Bool.or_eq_true,decide_eq_true_eq,decide_eq_false_iff_not,bne_iff_ne,beq_iff_eq,bne_eq_false_iff_eq,beq_eq_false_iff_ne,ne_eq,Bool.not_eq_true',Bool.not_eq_false']at hx;(try simp only[inK]);omega)|exact id|decide|(intro _;decide))):TR P N ty l0 LD W Q ((n,o)::l) T H:=TR.pick c a b x va vb v p d hg ho hd hN hc ha hb hv hp k
theorem qal (hty:TyOk P ty) {elem:TypeId} {i:TyI} {d:Nat} (k:∀b,TR P N ty l0 LD W Q l ((d,.ptr b 0)::T) (.box b elem i.zero::H)) (hg:o.guard=none:=by exact rfl) (ho:o.op=.alloc elem:=by exact rfl)
  (hd:o.dst=some d:=by exact rfl) (hN:dstOk o.dst N=true:=by exact rfl) (ht:ty elem=some i:=by exact rfl):TR P N ty l0 LD W Q ((n,o)::l) T H:=TR.alloc hty hg ho hd hN ht k
theorem qbox {elem:TypeId} {x:Operand} {v:AV} {vs:List AV} {d:Nat} (k:∀b,TR P N ty l0 LD W Q l ((d,.ptr b 0)::T) (.box b elem v::H)) (hg:o.guard=none:=by exact rfl) (ho:o.op=.box elem x:=by exact rfl)
  (hd:o.dst=some d:=by exact rfl) (hN:dstOk o.dst N=true:=by exact rfl) (hon:optN True T (tmpsOf o.op):=by exact True.intro) (hx:opvL (tmpsOf o.op) T x=some v:=by exact rfl) (hv:cellsOf v=some vs:=by exact rfl)
  (h1:vs.all AV.one=true:=by exact rfl):TR P N ty l0 LD W Q ((n,o)::l) T H:=TR.box hg ho hd hN hon hx hv h1 k
theorem qst (hty:TyOk P ty) {t:TypeId} {x y:Operand} {ti:TyI} {b off:Nat} {ty0:TypeId} {u u' v:AV} {p:Prop} {F:Ent→AHeap} (k:TR P N ty l0 LD W Q l T (F (.box b ty0 u'))) (hg:o.guard=none:=by exact rfl)
  (ho:o.op=.store t x y:=by exact rfl) (hd:o.dst=none:=by exact rfl) (hon:optN True T (tmpsOf o.op):=by(first|exact True.intro|exact⟨id,True.intro⟩|exact⟨id,id,True.intro⟩|exact⟨id,id,id,True.intro⟩)) (hx:opvL (tmpsOf o.op) T x=some (.ptr b off):=by exact rfl) (hy:opvL (tmpsOf o.op) T y=some v:=by exact rfl)
  (ht:ty t=some ti:=by exact rfl) (hi:EntAt H (.box b ty0 u) F:=by(first|exact .here|exact .there (.here)|exact .there (.there (.here))|exact .there (.there (.there (.here)))|exact .there (.there (.there (.there (.here))))|exact .there (.there (.there (.there (.there (.here)))))|exact .there (.there (.there (.there (.there (.there (.here))))))|exact .there (.there (.there (.there (.there (.there (.there (.here)))))))|exact .there (.there (.there (.there (.there (.there (.there (.there (.here))))))))|exact .there (.there (.there (.there (.there (.there (.there (.there (.there (.here)))))))))|exact .there (.there (.there (.there (.there (.there (.there (.there (.there (.there (.here))))))))))|exact .there (.there (.there (.there (.there (.there (.there (.there (.there (.there (.there (.here)))))))))))|exact .there (.there (.there (.there (.there (.there (.there (.there (.there (.there (.there (.there (.here))))))))))))|exact .there (.there (.there (.there (.there (.there (.there (.there (.there (.there (.there (.there (.there (.here)))))))))))))|exact .there (.there (.there (.there (.there (.there (.there (.there (.there (.there (.there (.there (.there (.there (.here))))))))))))))|exact .there (.there (.there (.there (.there (.there (.there (.there (.there (.there (.there (.there (.there (.there (.there (.here))))))))))))))))) (hs:boxSet ti u off v=some (p,u'):=by exact rfl) (hp:p:=by(first|exact True.intro|assumption|omega|(simp only[List.length_cons,List.length_nil];omega)|(simp only[inK];omega)|exact fun _=>True.intro|(intro _;omega)|(intro h1 h2;rw[h1,h2];rfl)|(intro h1 h2;simp only[h1,h2];done)|(intro h1 h2;simp[h1,h2];done)|(intro _;simp only[inK];omega)|(intro hx;simp only[Bool.and_eq_true,Bool.or_eq_false_iff,Bool.and_eq_false_imp,Bool.or_eq_true,decide_eq_true_eq,decide_eq_false_iff_not,bne_iff_ne,beq_iff_eq,bne_eq_false_iff_eq,beq_eq_false_iff_ne,ne_eq,Bool.not_eq_true',Bool.not_eq_false']at hx;(try simp only[inK]);omega)|exact id|decide|(intro _;decide))) (hkb:LD.kp n ty0=false:=by first|exact rfl|decide +kernel):TR P N ty l0 LD W Q ((n,o)::l) T H:=by
 obtain⟨i,h1,h2⟩:=hi.spec
 rw[h2]at k
 exact TR.store hty i hg ho hd hon hx hy ht h1 hs hp k hkb
theorem qbs (hty:TyOk P ty) {t e:TypeId} {len:Nat} {parts:Array (Nat×Operand)} {ti ei:TyI} {vs:List (Nat×AV)} {cells:List AV} {d:Nat} (k:TR P N ty l0 LD W Q l ((d,.slice ei.size len (chunk cells ei.size) .full)::T) H)
  (hg:o.guard=none:=by exact rfl) (ho:o.op=.buildSlice t len parts:=by exact rfl) (hd:o.dst=some d:=by exact rfl) (hN:dstOk o.dst N=true:=by exact rfl) (hon:optN True T (tmpsOf o.op):=by exact True.intro)
  (hti:ty t=some ti:=by exact rfl) (hk:ti.k=.slice e:=by exact rfl) (hei:ty e=some ei:=by exact rfl) (hm:mapP (opvL (tmpsOf o.op) T) parts.toList=some vs:=by exact rfl) (hpos:Nat.ble 1 ei.size=true:=by exact rfl)
  (hlen:Nat.ble (len*ei.size) 16777216=true:=by exact rfl) (hcells:abuild (partsFs e ei.size 0 len) ty (List.replicate (len*ei.size) junk) vs=some cells:=by exact rfl) (hone:cells.all AV.one=true:=by exact rfl):
  TR P N ty l0 LD W Q ((n,o)::l) T H:=TR.bslice hty _ hg ho hd hN hon hti hk hei hm hpos hlen hcells hone (Sub.refl _) k
theorem r1 {rs:List ResultVar} {x:AX} {t k:Nat} {v u:AV} (hs:Sub v u) (hx:isRet x=true:=by exact rfl) (hr:rs=[.tmp t]:=by exact rfl) (hl:lk T t=some v:=by exact rfl) (hd:H.drop k=[]:=by(first|exact(rfl:List.drop 0 _=_)|exact(rfl:List.drop 1 _=_)|exact(rfl:List.drop 2 _=_)|exact(rfl:List.drop 3 _=_)|exact(rfl:List.drop 4 _=_)|exact(rfl:List.drop 5 _=_)|exact(rfl:List.drop 6 _=_))):
  fnQ ty rs (fun r H'=>r=.ret u∧H'=[]) x T H:=fnQ_p1 k hx hr hl hd hs
theorem r2 {rs:List ResultVar} {x:AX} {t1 t2 k:Nat} {v1 v2 u1 u2:AV} (h1:Sub v1 u1) (h2:Sub v2 u2) (hx:isRet x=true:=by exact rfl) (hr:rs=[.tmp t1,.tmp t2]:=by exact rfl) (hl1:lk T t1=some v1:=by exact rfl)
  (hl2:lk T t2=some v2:=by exact rfl) (hd:H.drop k=[]:=by(first|exact(rfl:List.drop 0 _=_)|exact(rfl:List.drop 1 _=_)|exact(rfl:List.drop 2 _=_)|exact(rfl:List.drop 3 _=_)|exact(rfl:List.drop 4 _=_)|exact(rfl:List.drop 5 _=_)|exact(rfl:List.drop 6 _=_))):fnQ ty rs (fun r H'=>r=.ret (.tuple [u1,u2])∧H'=[]) x T H:=fnQ_p2 k hx hr hl1 hl2 hd h1 h2
theorem r3 {rs:List ResultVar} {x:AX} {t1 t2 t3 k:Nat} {v1 v2 v3 u1 u2 u3:AV} (h1:Sub v1 u1) (h2:Sub v2 u2) (h3:Sub v3 u3) (hx:isRet x=true:=by exact rfl) (hr:rs=[.tmp t1,.tmp t2,.tmp t3]:=by exact rfl)
  (hl1:lk T t1=some v1:=by exact rfl) (hl2:lk T t2=some v2:=by exact rfl) (hl3:lk T t3=some v3:=by exact rfl) (hd:H.drop k=[]:=by(first|exact(rfl:List.drop 0 _=_)|exact(rfl:List.drop 1 _=_)|exact(rfl:List.drop 2 _=_)|exact(rfl:List.drop 3 _=_)|exact(rfl:List.drop 4 _=_)|exact(rfl:List.drop 5 _=_)|exact(rfl:List.drop 6 _=_))):
  fnQ ty rs (fun r H'=>r=.ret (.tuple [u1,u2,u3])∧H'=[]) x T H:=fnQ_p3 k hx hr hl1 hl2 hl3 hd h1 h2 h3
theorem qpc {cf:Operand} {args:Array Operand} {ats:Array TypeId} {f:FuncId} {first captured vs:List AV} {u:AV} {d:Nat} (ho:o.op=.call {callee:=.value cf,args:=args,argTypes:=ats})
  (hf:opvL (tmpsOf o.op) T cf=some (.func (.func f) first captured)) (hm:mapF (opvL (tmpsOf o.op) T) args.toList=some vs) (h:PCalls P f (first++vs++captured) u) (k:TR P N ty l0 LD W Q l ((d,u)::T) H)
  (hg:o.guard=none:=by exact rfl) (hd:o.dst=some d:=by exact rfl) (hN:dstOk o.dst N=true:=by exact rfl) (hon:optN True T (tmpsOf o.op):=by exact True.intro):TR P N ty l0 LD W Q ((n,o)::l) T H:=
 TR.pcall hg ho hd hN hon hf hm h k
theorem qpo {cf:Operand} {args:Array Operand} {ats:Array TypeId} {f:FuncId} {first captured vs:List AV} {u:AV} {d j:Nat} {g b x:Bool} {dj:Nat} (hg:o.guard=some (j,g)) (hj:gdst l0 j=some dj)
  (hb:gcond (lk T dj) g=some (x,b)) (ho:o.op=.call {callee:=.value cf,args:=args,argTypes:=ats}) (hf:opvL (tmpsOf o.op) T cf=some (.func (.func f) first captured)) (hm:mapF (opvL (tmpsOf o.op) T) args.toList=some vs)
  (h:x=b→PCalls P f (first++vs++captured) u) (k:TR P N ty l0 LD W Q l ((d,.opt x b u)::T) H) (hd:o.dst=some d:=by exact rfl) (hN:Nat.ble (d+1) N=true:=by exact rfl)
  (hon:optN (x=b) T (tmpsOf o.op):=by(first|exact True.intro|exact⟨id,True.intro⟩|exact⟨id,id,True.intro⟩|exact⟨id,id,id,True.intro⟩)) (hsc:LD.sc n=false:=by exact rfl):TR P N ty l0 LD W Q ((n,o)::l) T H:=TR.pcallopt hg hj hb ho hd hN hon hf hm h k hsc
structure Hld (R:Prop):Prop where out:R
theorem ofG {G:Prop} (_:G→True) (k:G):G:=k
theorem wK {G R:Prop} (k:R) (h:Hld R→(G→True)→G:=by intro k_ g_;first|((repeat(first|refine awp_region tyok ?_|refine awp_block ?_|((with_reducible refine tr_id ?_);first|refine qp ?_|refine TR.nil ?_|refine qcat ?_|(refine tr_guarded rfl ?_;first|refine qon ?_|refine qoff ?_|refine qopt ?_|refine qhopt ?_|refine qgp ?_|refine qeqo tyok eqok ?_|refine qneo tyok eqok ?_)|refine qld ?_|refine qpick ?_|refine qeq tyok eqok ?_|refine qne tyok eqok ?_|refine qstV tyok ?_|refine qst tyok ?_|refine qbs tyok ?_)|refine awp_cond_true rfl ?_|refine awp_cond_false rfl ?_|refine awp_skip ?_|refine awp_exit ?_|refine awp_ret ?_|refine awp_label ?_|(with_reducible refine pQ_normal ?_)|(with_reducible refine thenQ_normal ?_)|(with_reducible refine blockQ_normal ?_)|(with_reducible refine thenQ_exit ?_)|(with_reducible refine blockQ_hit ?_)|refine blockQ_miss rfl ?_|(with_reducible refine thenQ_ret ?_)|(with_reducible refine blockQ_ret ?_)|(with_reducible refine pQ_panic ?_)|(with_reducible refine thenQ_panic ?_)|(with_reducible refine blockQ_panic ?_)|fail));(fail_if_success (with_reducible refine ofG g_ ?_));exact k_.out)|fail):G:=h ⟨k⟩ fun _=>trivial
theorem wKB {G R:Prop} (k:R) (h:Hld R→(G→True)→G:=by intro k_ g_;first|((repeat(first|refine awp_region tyok ?_|refine awp_block ?_|((with_reducible refine tr_id ?_);first|refine qt ?_|refine qf ?_|refine qp ?_|refine TR.nil ?_|refine qcat ?_|(refine tr_guarded rfl ?_;first|refine qon ?_|refine qoff ?_|refine qopt ?_|refine qhopt ?_|refine qgp ?_|refine qeqo tyok eqok ?_|refine qneo tyok eqok ?_)|refine qld ?_|refine qpick ?_|refine qeq tyok eqok ?_|refine qne tyok eqok ?_|refine qstV tyok ?_|refine qst tyok ?_|refine qbs tyok ?_)|refine awp_cond_true rfl ?_|refine awp_cond_false rfl ?_|refine awp_skip ?_|refine awp_exit ?_|refine awp_ret ?_|refine awp_label ?_|(with_reducible refine pQ_normal ?_)|(with_reducible refine thenQ_normal ?_)|(with_reducible refine blockQ_normal ?_)|(with_reducible refine thenQ_exit ?_)|(with_reducible refine blockQ_hit ?_)|refine blockQ_miss rfl ?_|(with_reducible refine thenQ_ret ?_)|(with_reducible refine blockQ_ret ?_)|(with_reducible refine pQ_panic ?_)|(with_reducible refine thenQ_panic ?_)|(with_reducible refine blockQ_panic ?_)|fail));(fail_if_success (with_reducible refine ofG g_ ?_));exact k_.out)|fail):G:=h ⟨k⟩ fun _=>trivial
theorem wKE {G R:Prop} (k:R) (h:Hld R→(G→True)→G:=by intro k_ g_;first|((repeat(first|refine awp_region tyok ?_|refine awp_block ?_|((with_reducible refine tr_id ?_);first|refine qself ?_|refine qnself ?_|refine qp ?_|refine TR.nil ?_|refine qcat ?_|(refine tr_guarded rfl ?_;first|refine qon ?_|refine qoff ?_|refine qopt ?_|refine qhopt ?_|refine qgp ?_|refine qeqo tyok eqok ?_|refine qneo tyok eqok ?_)|refine qld ?_|refine qpick ?_|refine qeq tyok eqok ?_|refine qne tyok eqok ?_|refine qstV tyok ?_|refine qst tyok ?_|refine qbs tyok ?_)|refine awp_cond_true rfl ?_|refine awp_cond_false rfl ?_|refine awp_skip ?_|refine awp_exit ?_|refine awp_ret ?_|refine awp_label ?_|(with_reducible refine pQ_normal ?_)|(with_reducible refine thenQ_normal ?_)|(with_reducible refine blockQ_normal ?_)|(with_reducible refine thenQ_exit ?_)|(with_reducible refine blockQ_hit ?_)|refine blockQ_miss rfl ?_|(with_reducible refine thenQ_ret ?_)|(with_reducible refine blockQ_ret ?_)|(with_reducible refine pQ_panic ?_)|(with_reducible refine thenQ_panic ?_)|(with_reducible refine blockQ_panic ?_)|fail));(fail_if_success (with_reducible refine ofG g_ ?_));exact k_.out)|fail):G:=h ⟨k⟩ fun _=>trivial
theorem wD {G R:Prop} (k:R) (h:Hld R→(G→True)→G:=by intro k_ g_;first|((repeat(first|refine awp_region tyok ?_|refine awp_block ?_|((with_reducible refine tr_id ?_);first|refine qp ?_|refine TR.nil ?_|refine qcat ?_|(refine tr_guarded rfl ?_;first|refine qon ?_|refine qoff ?_|refine qopt ?_|refine qhopt ?_|refine qgp ?_|refine qeqo tyok eqok ?_|refine qneo tyok eqok ?_)|refine qld ?_|refine qpick ?_|refine qeq tyok eqok ?_|refine qne tyok eqok ?_|refine qstV tyok ?_|refine qst tyok ?_|refine qbs tyok ?_)|refine awp_cond_true rfl ?_|refine awp_cond_false rfl ?_|refine awp_skip ?_|refine awp_exit ?_|refine awp_ret ?_|refine awp_label ?_|(with_reducible refine pQ_normal ?_)|(with_reducible refine thenQ_normal ?_)|(with_reducible refine blockQ_normal ?_)|(with_reducible refine thenQ_exit ?_)|(with_reducible refine blockQ_hit ?_)|refine blockQ_miss rfl ?_|(with_reducible refine thenQ_ret ?_)|(with_reducible refine blockQ_ret ?_)|(with_reducible refine pQ_panic ?_)|(with_reducible refine thenQ_panic ?_)|(with_reducible refine blockQ_panic ?_)|refine areg_text mixed tyok (by decide +kernel) ?_|fail));(fail_if_success (with_reducible refine ofG g_ ?_));exact k_.out)|fail):G:=h ⟨k⟩ fun _=>trivial
theorem wDB {G R:Prop} (k:R) (h:Hld R→(G→True)→G:=by intro k_ g_;first|((repeat(first|refine awp_region tyok ?_|refine awp_block ?_|((with_reducible refine tr_id ?_);first|refine qt ?_|refine qf ?_|refine qp ?_|refine TR.nil ?_|refine qcat ?_|(refine tr_guarded rfl ?_;first|refine qon ?_|refine qoff ?_|refine qopt ?_|refine qhopt ?_|refine qgp ?_|refine qeqo tyok eqok ?_|refine qneo tyok eqok ?_)|refine qld ?_|refine qpick ?_|refine qeq tyok eqok ?_|refine qne tyok eqok ?_|refine qstV tyok ?_|refine qst tyok ?_|refine qbs tyok ?_)|refine awp_cond_true rfl ?_|refine awp_cond_false rfl ?_|refine awp_skip ?_|refine awp_exit ?_|refine awp_ret ?_|refine awp_label ?_|(with_reducible refine pQ_normal ?_)|(with_reducible refine thenQ_normal ?_)|(with_reducible refine blockQ_normal ?_)|(with_reducible refine thenQ_exit ?_)|(with_reducible refine blockQ_hit ?_)|refine blockQ_miss rfl ?_|(with_reducible refine thenQ_ret ?_)|(with_reducible refine blockQ_ret ?_)|(with_reducible refine pQ_panic ?_)|(with_reducible refine thenQ_panic ?_)|(with_reducible refine blockQ_panic ?_)|refine areg_text mixed tyok (by decide +kernel) ?_|fail));(fail_if_success (with_reducible refine ofG g_ ?_));exact k_.out)|fail):G:=h ⟨k⟩ fun _=>trivial
theorem wDE {G R:Prop} (k:R) (h:Hld R→(G→True)→G:=by intro k_ g_;first|((repeat(first|refine awp_region tyok ?_|refine awp_block ?_|((with_reducible refine tr_id ?_);first|refine qself ?_|refine qnself ?_|refine qp ?_|refine TR.nil ?_|refine qcat ?_|(refine tr_guarded rfl ?_;first|refine qon ?_|refine qoff ?_|refine qopt ?_|refine qhopt ?_|refine qgp ?_|refine qeqo tyok eqok ?_|refine qneo tyok eqok ?_)|refine qld ?_|refine qpick ?_|refine qeq tyok eqok ?_|refine qne tyok eqok ?_|refine qstV tyok ?_|refine qst tyok ?_|refine qbs tyok ?_)|refine awp_cond_true rfl ?_|refine awp_cond_false rfl ?_|refine awp_skip ?_|refine awp_exit ?_|refine awp_ret ?_|refine awp_label ?_|(with_reducible refine pQ_normal ?_)|(with_reducible refine thenQ_normal ?_)|(with_reducible refine blockQ_normal ?_)|(with_reducible refine thenQ_exit ?_)|(with_reducible refine blockQ_hit ?_)|refine blockQ_miss rfl ?_|(with_reducible refine thenQ_ret ?_)|(with_reducible refine blockQ_ret ?_)|(with_reducible refine pQ_panic ?_)|(with_reducible refine thenQ_panic ?_)|(with_reducible refine blockQ_panic ?_)|refine areg_text mixed tyok (by decide +kernel) ?_|fail));(fail_if_success (with_reducible refine ofG g_ ?_));exact k_.out)|fail):G:=h ⟨k⟩ fun _=>trivial
theorem wT {G R:Prop} (k:R) (h:Hld R→(G→True)→G:=by intro k_ g_;first|((repeat(first|((with_reducible refine tr_id ?_);first|refine qp ?_|refine TR.nil ?_|refine qcat ?_|(refine tr_guarded rfl ?_;first|refine qon ?_|refine qoff ?_|refine qopt ?_|refine qhopt ?_|refine qgp ?_|refine qeqo tyok eqok ?_|refine qneo tyok eqok ?_)|refine qld ?_|refine qpick ?_|refine qeq tyok eqok ?_|refine qne tyok eqok ?_|refine qstV tyok ?_|refine qst tyok ?_|refine qbs tyok ?_)|fail));(fail_if_success (with_reducible refine ofG g_ ?_));exact k_.out)|fail):G:=h ⟨k⟩ fun _=>trivial
theorem wTB {G R:Prop} (k:R) (h:Hld R→(G→True)→G:=by intro k_ g_;first|((repeat(first|((with_reducible refine tr_id ?_);first|refine qt ?_|refine qf ?_|refine qp ?_|refine TR.nil ?_|refine qcat ?_|(refine tr_guarded rfl ?_;first|refine qon ?_|refine qoff ?_|refine qopt ?_|refine qhopt ?_|refine qgp ?_|refine qeqo tyok eqok ?_|refine qneo tyok eqok ?_)|refine qld ?_|refine qpick ?_|refine qeq tyok eqok ?_|refine qne tyok eqok ?_|refine qstV tyok ?_|refine qst tyok ?_|refine qbs tyok ?_)|fail));(fail_if_success (with_reducible refine ofG g_ ?_));exact k_.out)|fail):G:=h ⟨k⟩ fun _=>trivial
theorem wTE {G R:Prop} (k:R) (h:Hld R→(G→True)→G:=by intro k_ g_;first|((repeat(first|((with_reducible refine tr_id ?_);first|refine qself ?_|refine qnself ?_|refine qp ?_|refine TR.nil ?_|refine qcat ?_|(refine tr_guarded rfl ?_;first|refine qon ?_|refine qoff ?_|refine qopt ?_|refine qhopt ?_|refine qgp ?_|refine qeqo tyok eqok ?_|refine qneo tyok eqok ?_)|refine qld ?_|refine qpick ?_|refine qeq tyok eqok ?_|refine qne tyok eqok ?_|refine qstV tyok ?_|refine qst tyok ?_|refine qbs tyok ?_)|fail));(fail_if_success (with_reducible refine ofG g_ ?_));exact k_.out)|fail):G:=h ⟨k⟩ fun _=>trivial
theorem wP {G R:Prop} (k:R) (h:Hld R→(G→True)→G:=by intro k_ g_;first|((repeat(first|(with_reducible refine pQ_normal ?_)|(with_reducible refine thenQ_normal ?_)|(with_reducible refine blockQ_normal ?_)|(with_reducible refine thenQ_exit ?_)|(with_reducible refine blockQ_hit ?_)|refine blockQ_miss rfl ?_|(with_reducible refine thenQ_ret ?_)|(with_reducible refine blockQ_ret ?_)|(with_reducible refine pQ_panic ?_)|(with_reducible refine thenQ_panic ?_)|(with_reducible refine blockQ_panic ?_)|fail));(fail_if_success (with_reducible refine ofG g_ ?_));exact k_.out)|fail):G:=h ⟨k⟩ fun _=>trivial
theorem wHa {P:Program} {N:Nat} {c:Code} {Q:APost} {T:Tmps} {H:AHeap} {K:Tmps→AHeap→Prop} (k:K T H) (_:∀T' H',AWP P N c T' H' Q→K T' H':=by assumption):K T H:=k
theorem wC {G R C:Prop} (g:C) (k:R) (h:Hld C→Hld R→G:=by intro g_ k_;first|(refine qpc rfl rfl rfl g_.out ?_;exact k_.out)|(refine qpo rfl rfl rfl rfl rfl rfl (fun _=>g_.out) ?_;exact k_.out)|fail):G:=h ⟨g⟩ ⟨k⟩
theorem wH {G R:Prop} (k:R) (h:Hld R→G:=by intro k_;first|(first|exact hK _ _ k_.out|exact wHa k_.out)|fail):G:=h ⟨k⟩
end
end Go.Ab
namespace Go.Ab
section
variable {P:Program} {N:Nat} {ty:TypeId→Option TyI} {l0:List Oper} {LD:LDs} {W:Bool} {Q:APost} {n:Nat} {o:Oper} {l:List (Nat×Oper)} {T:Tmps} {H:AHeap}
theorem hard_boxV {F:Operand→Option AV} {elem:TypeId} {x:Operand} {m:Nat} {el:Nat→AV} (ho:o.op=.box elem x) (hx:F x=some (.vec m el)):
  AHard P o F H fun r H'=>∃b,r=.ret (.ptr b 0)∧H'=.box b elem (.vec m el)::H:=by
 intro E st w a r next Q hc hF _ hr _
 have hrep:=hF x _ hx
 have hone:∀y∈(a.eval x).cells.toList,y.oneCell'=true:=by
  generalize a.eval x=c at hrep
  cases hrep with
  |vec _ _ cs hl h hone=>exact fun y hy=>hone y (by simpa [Value.cells]using hy)
 have hnb:=hc.newBox (ty:=elem) hrep hone
 refine upon_value_ok (c:=.pointer (some ⟨w.heap.size,0,none⟩)) (w':=w.alloc (.cells (a.eval x).cells elem)) ?_ (hr st _ (.ptr w.heap.size 0) _ _ hnb.1 hnb.2 (.ptr _ _) ⟨_,rfl,rfl⟩)
 simp[execOp,ho,Instr.box,newVar,newRow]
theorem qboxV {elem:TypeId} {x:Operand} {m:Nat} {el:Nat→AV} {d:Nat} (k:∀b,TR P N ty l0 LD W Q l ((d,.ptr b 0)::T) (.box b elem (.vec m el)::H)) (hg:o.guard=none:=by exact rfl) (ho:o.op=.box elem x:=by exact rfl)
  (hd:o.dst=some d:=by exact rfl) (hN:dstOk o.dst N=true:=by exact rfl) (hon:optN True T (tmpsOf o.op):=by exact True.intro) (hx:opvL (tmpsOf o.op) T x=some (.vec m el):=by exact rfl):
  TR P N ty l0 LD W Q ((n,o)::l) T H:=by
 refine TR.hard _ (.inr (by rw[ho];rfl)) hg hN hon (hard_boxV ho hx) ?_ ?_ (fun _ v H' ⟨_,_,e⟩=>e▸KeepB.cons _ _) (fun h=>by rw[ho]at h;cases h)
 ·rintro u H' ⟨b,e,rfl⟩
  cases e
  rw[hd]
  exact k b
 ·rintro u H' ⟨b,e,rfl⟩
  cases e
theorem wN {α:Type} {G:Prop} {R:α→Prop} (k:∀b,R b) (h:Hld (∀b,R b)→G:=by intro k_;first|exact qal tyok k_.out|exact qbox k_.out|exact qboxV k_.out|fail):G:=h ⟨k⟩
theorem om {G:Prop} (h:G:=by first|omega|(simp only;omega)|(simp only[List.length_append,List.length_cons,List.length_nil];omega)|fail):G:=h
theorem omr {G:Prop} (h:G:=by first|omega|(simp only;omega)|(simp;done)|(simp;omega)|fail):G:=h
theorem dp {G:Prop} (h:G:=by(first|exact⟨0,rfl⟩|exact⟨1,rfl⟩|exact⟨2,rfl⟩|exact⟨3,rfl⟩|exact⟨4,rfl⟩)):G:=h
theorem wk {G:Prop} (h:G:=by first|((repeat(first|exact True.intro|refine⟨⟨_,rfl,Sub.refl _⟩,?_⟩|refine⟨⟨_,rfl,Sub.nilso _ _⟩,?_⟩|refine⟨⟨_,rfl,sl_tail _ _ _ _ _⟩,?_⟩|refine⟨⟨_,rfl,Sub.of_eq (by first|rfl|(congr 1;first|omega|(simp only;omega))|(simp;done)|(simp;omega))⟩,?_⟩|refine⟨⟨_,rfl,Sub.view _ _ _ _⟩,?_⟩)))|fail):G:=h
theorem qstV (hty:TyOk P ty) {t:TypeId} {x y:Operand} {ti:TyI} {b off:Nat} {ty0:TypeId} {m:Nat} {kk:IntKind} {g:Nat→Int} {z:Int} {F:Ent→AHeap}
  (k:TR P N ty l0 LD W Q l T (F (.box b ty0 (.vec m fun j=>.int kk (if j=off then z else g j))))) (hg:o.guard=none:=by exact rfl)
  (ho:o.op=.store t x y:=by exact rfl) (hd:o.dst=none:=by exact rfl) (hon:optN True T (tmpsOf o.op):=by(first|exact True.intro|exact⟨id,True.intro⟩|exact⟨id,id,True.intro⟩|exact⟨id,id,id,True.intro⟩)) (hx:opvL (tmpsOf o.op) T x=some (.ptr b off):=by exact rfl) (hy:opvL (tmpsOf o.op) T y=some (.int kk z):=by exact rfl)
  (ht:ty t=some ti:=by exact rfl) (hi:EntAt H (.box b ty0 (.vec m fun j=>.int kk (g j))) F:=by(first|exact .here|exact .there (.here)|exact .there (.there (.here))|exact .there (.there (.there (.here)))|exact .there (.there (.there (.there (.here))))|exact .there (.there (.there (.there (.there (.here)))))|exact .there (.there (.there (.there (.there (.there (.here))))))|exact .there (.there (.there (.there (.there (.there (.there (.here)))))))|exact .there (.there (.there (.there (.there (.there (.there (.there (.here))))))))|exact .there (.there (.there (.there (.there (.there (.there (.there (.there (.here)))))))))|exact .there (.there (.there (.there (.there (.there (.there (.there (.there (.there (.here))))))))))|exact .there (.there (.there (.there (.there (.there (.there (.there (.there (.there (.there (.here)))))))))))|exact .there (.there (.there (.there (.there (.there (.there (.there (.there (.there (.there (.there (.here))))))))))))|exact .there (.there (.there (.there (.there (.there (.there (.there (.there (.there (.there (.there (.there (.here)))))))))))))|exact .there (.there (.there (.there (.there (.there (.there (.there (.there (.there (.there (.there (.there (.there (.here))))))))))))))|exact .there (.there (.there (.there (.there (.there (.there (.there (.there (.there (.there (.there (.there (.there (.there (.here))))))))))))))))) (hs:Nat.beq ti.size 1=true:=by exact rfl) (hp:off<m:=by(first|exact True.intro|assumption|omega|(simp only[List.length_cons,List.length_nil];omega)|(simp only[inK];omega)|exact fun _=>True.intro|(intro _;omega)|(intro h1 h2;rw[h1,h2];rfl)|(intro h1 h2;simp only[h1,h2];done)|(intro h1 h2;simp[h1,h2];done)|(intro _;simp only[inK];omega)|(intro hx;simp only[Bool.and_eq_true,Bool.or_eq_false_iff,Bool.and_eq_false_imp,Bool.or_eq_true,decide_eq_true_eq,decide_eq_false_iff_not,bne_iff_ne,beq_iff_eq,bne_eq_false_iff_eq,beq_eq_false_iff_ne,ne_eq,Bool.not_eq_true',Bool.not_eq_false']at hx;(try simp only[inK]);omega)|exact id|decide|(intro _;decide))) (hkb:LD.kp n ty0=false:=by first|exact rfl|decide +kernel):TR P N ty l0 LD W Q ((n,o)::l) T H:=by
 obtain⟨i,g1,g2⟩:=hi.spec
 rw[g2]at k
 refine TR.store hty (u':=.vec m fun j=>if j=off then .int kk z else .int kk (g j)) (p:=off<m) i hg ho hd hon hx hy ht g1 ?_ hp ?_ hkb
 ·simp[boxSet,hs,AV.one]
 ·have e:(fun j=>if j=off then AV.int kk z else AV.int kk (g j))=fun j=>AV.int kk (if j=off then z else g j):=by
   funext j
   split<;>rfl
  rw[e]
  exact k
def selT (T:Tmps):List Nat→Option Tmps
 |[]=>some []
 |t::ts=>match lk T t with
  |some v=>match selT T ts with
   |some l=>some ((t,v)::l)
   |none=>none
  |none=>none
theorem selT_weak:∀{L:List Nat} {T0:Tmps},selT T L=some T0→Weak T T0
 |[],T0,h=>by simp only[selT,Option.some.injEq]at h;subst h;trivial
 |t::L,T0,h=>by
  simp only[selT]at h
  cases h1:lk T t with
  |none=>simp[h1]at h
  |some v=>
   cases h2:selT T L with
   |none=>simp[h1,h2]at h
   |some l=>
    simp only[h1,h2,Option.some.injEq]at h
    subst h
    exact⟨⟨v,h1,Sub.refl v⟩,selT_weak h2⟩
theorem Weak.append:∀{A B:Tmps},Weak T A→Weak T B→Weak T (A++B)
 |[],_,_,h=>h
 |_::_,_,h,k=>⟨h.1,Weak.append h.2 k⟩
theorem awp_loopK {Q:APost} {c:Code} {ι:Type} (keep:List Nat) {T0:Tmps} (hsel:selT T keep=some T0) (I:ι→Tmps) (J:ι→AHeap) (μ:ι→Nat) (i0:ι) (h0:Weak T (I i0)) (hJ:∃k,H.drop k=J i0)
  (round:∀i,AWP P N c (I i++T0) (J i) (thenQ (fun T' H'=>∃i',Weak T' (I i'++T0)∧(∃k,H'.drop k=J i')∧μ i'<μ i) Q)):AWP P N (.loop c) T H Q:=
 awp_loop0 (fun i=>I i++T0) J μ i0 (Weak.append h0 (selT_weak hsel)) hJ round
theorem awp_loopKP {Q:APost} {c:Code} {ι:Type} (keep:List Nat) {T0:Tmps} (hsel:selT T keep=some T0) (I:ι→Tmps) (J:ι→AHeap) (μ:ι→Nat) (i0:ι) (h0:Weak T (I i0)) (hJ:∃F,H.Perm (F++J i0))
  (round:∀i,AWP P N c (I i++T0) (J i) (thenQ (fun T' H'=>∃i',Weak T' (I i'++T0)∧(∃F,H'.Perm (F++J i'))∧μ i'<μ i) Q)):AWP P N (.loop c) T H Q:=
 awp_loopP (fun i=>I i++T0) J μ i0 (Weak.append h0 (selT_weak hsel)) hJ round
end
end Go.Ab
namespace Go.Ab
section
variable {P:Program} {N:Nat} {ty:TypeId→Option TyI} {T:Tmps} {H:AHeap} {Q:APost}
theorem Conc.lay {E:Env0} {st:Stab} {w:World} (h:Conc E st H w) (o:Obj):Conc E st H (w.alloc o)∧Keeps st st w (w.alloc o):=by
 have:=Conc.grow (Hn:=[]) (w':=w.alloc o) h rfl rfl rfl (by simp) (fun k hk=>heap_alloc_old w _ hk) (fun _ _ h=>h) (fun b o hs=>.inl hs) (by simp) (fun k hk=>by obtain⟨e,he,_⟩:=hk;cases he) .nil
 simpa using this
theorem Conc.take {E:Env0} {st:Stab} {w:World} (h:Conc E st H w) {e:Ent} {l:Nat} (ho:∀k,e.owns k↔k=l) (hl:l<w.heap.size) (hn:E.O l∨E.w0.heap.size≤l) (hno:¬AHeap.owns H l) (he:e.holds st w):
  Conc E st (e::H) w:=by
 refine⟨h.os,h.tape,h.output,h.size,h.old,h.keep,h.stle,h.stnew,h.stlt,?_,?_,?_,?_,h.fz⟩
 ·rintro k ⟨e',he',hk⟩
  rcases List.mem_cons.1 he' with rfl|he'
  ·rw[(ho k).1 hk];exact hn
  ·exact h.ownnew k ⟨e',he',hk⟩
 ·rintro k ⟨e',he',hk⟩
  rcases List.mem_cons.1 he' with rfl|he'
  ·rw[(ho k).1 hk];exact hl
  ·exact h.ownlt k ⟨e',he',hk⟩
 ·intro e' he'
  rcases List.mem_cons.1 he' with rfl|he'
  ·exact he
  ·exact h.ents e' he'
 ·refine List.pairwise_cons.2 ⟨fun e' he' k hk hk'=>?_,h.sep⟩
  rw[(ho k).1 hk]at hk'
  exact hno ⟨e',he',hk'⟩
theorem not_owns_of_sep {E:Env0} {st:Stab} {w:World} {e:Ent} {l:Nat} (h:Conc E st (e::H) w) (he:e.owns l):¬AHeap.owns H l:=by
 rintro⟨e',he',hk⟩
 exact(List.pairwise_cons.1 h.sep).1 e' he' l he hk
theorem Conc.tail {E:Env0} {st:Stab} {w:World} {e:Ent} (h:Conc E st (e::H) w):Conc E st H w:=Conc.drop_front (F:=[e]) h
theorem Keeps.putObj {st:Stab} {w:World} {b:Nat} {x y:Obj} (h:w.heap[b]?=some x) (hx:∀c t f,x≠.cells c t f) (hy:∀c t f,y≠.cells c t f):Keeps st st w (w.putObj b y):=
 ⟨fun _ _ h=>h,fun _ _ _=>cell_putObj h hx hy _⟩
def rangeQ (P:Program) (N:Nat) (l:Nat) (ps:Array Tmp) (assign body:Code) (T:Tmps) (G:AHeap) (Q:APost) (r:ARes) (H':AHeap):Prop:=
 match r with
 |.ret _=>(∃Hd,H'.Perm (.loop l N T ps assign body::Hd)∧Q .normal T (Hd++G))∨(∃c Hd,H'.Perm (.done l c::Hd)∧AWP P N c T (Hd++G) Q)
 |.panic v=>Q (.panic v) [] (H'++G)
def putPs:List Nat→List AV→Tmps→Tmps
 |p::ps,v::vs,T=>putPs ps vs ((p,v)::T)
 |_,_,T=>T
def yieldQ (l N:Nat) (T0:Tmps) (ps:Array Tmp) (assign body:Code) (K:ARes→AHeap→Prop):APost
 |.normal,_,H=>K (.ret (.bool true)) (.loop l N T0 ps assign body::H)
 |.ret,_,H=>K (.ret (.bool false)) (.done l .ret::H)
 |.exit id,_,H=>K (.ret (.bool false)) (.done l (.exit id)::H)
 |.goto t,_,H=>K (.ret (.bool false)) (.done l (.goto t)::H)
 |.panic _,_,_=>False
end
end Go.Ab
namespace Go.Ab
open Go.RowKit
section
variable {P:Program} {N:Nat} {ty:TypeId→Option TyI} {T:Tmps} {H:AHeap} {Q:APost} {o:Oper} {F:Operand→Option AV}
def YCall (P:Program) (Y:AV) (vs:List AV) (H:AHeap) (K:ARes→AHeap→Prop):Prop:=
 ∀(o:Oper) (F:Operand→Option AV) (cf:Operand) (args:Array Operand) (ats:Array TypeId),o.op=.call {callee:=.value cf,args:=args,argTypes:=ats}→F cf=some Y→mapF F args.toList=some vs→AHard P o F H K
def SeqC (P:Program) (f:FuncId) (first captured:List AV) (H0:AHeap) (xs:List (List AV)) (H1:AHeap→Prop):Prop:=
 ∀(yf:Fn) (y1 y2:List AV) (I:Nat→AHeap→Prop) (Z:AHeap→Prop) (Hs:AHeap),I 0 Hs→
  (∀k Hk vs,xs[k]?=some vs→I k Hk→YCall P (.func yf y1 y2) vs Hk (fun r H'=>(r=.ret (.bool true)∧I (k+1) H')∨(r=.ret (.bool false)∧Z H')))→
  ACalls P f (first++[.func yf y1 y2]++captured) (H0++Hs) (fun r H'=>r=.ret (.tuple [])∧∃Hend Hs',H'=Hend++Hs'∧H1 Hend∧(I xs.length Hs'∨Z Hs'))
def roundQ (H1:AHeap→Prop) (T:Tmps) (Q:APost) (J:AHeap→Prop):APost
 |.normal,_,H=>J H
 |.ret,_,H=>∀He,H1 He→Q .ret T (He++H)
 |.exit id,_,H=>∀He,H1 He→Q (.exit id) T (He++H)
 |.goto t,_,H=>∀He,H1 He→Q (.goto t) T (He++H)
 |.panic _,_,_=>False
variable {l0:List Oper} {LD:LDs} {W:Bool} {l:List (Nat×Oper)} {n:Nat}
theorem below_conc {E:Env0} {st:Stab} {w w':World} (h:Conc E st H w) (b:Below w.heap.size w w'):Conc E st H w'∧Keeps st st w w':=by
 have:=Conc.grow (Hn:=[]) (w':=w') h b.os b.tape b.output b.size (fun k hk=>b.block k hk) (fun _ _ h=>h) (fun b o hs=>.inl hs) (by simp) (fun k hk=>by obtain⟨e,he,_⟩:=hk;cases he) .nil
 simpa using this
theorem pcalls_of_below {f:FuncId} {vs:List AV} {u:AV} (hcb:Callable P f)
  (h:∀st w xs,RepL st w vs xs→Gl [] w→Calls P f ⟨xs⟩ w fun e w'=>∃c,e=.returned c∧(∀st' w2,Rep st' w2 u c)∧Below w.heap.size w w'):PCalls P f vs u:=by
 refine⟨hcb,fun st w xs hc hx hg=>(h st w xs hx hg).mono ?_⟩
 rintro e w' ⟨c,rfl,hr,hb⟩
 exact⟨st,.ret u,[],(below_conc hc hb).1,hr st w',rfl,rfl⟩
theorem hard_range {t:TypeId} {x:Operand} {s:List UInt8} {ti:TyI} (hty:TyOk P ty) (ho:o.op=.range t x) (ht:ty t=some ti) (hk:ti.k=.str) (hx:F x=some (.str s)):
  AHard P o F H fun r H'=>∃b,r=.ret (.ptr b 0)∧H'=.obj b (.stringIter ⟨s.toArray⟩ 0)::H:=by
 intro E st w a r next Q hc hF _ hr _
 have he:=(hF x _ hx).str_eq
 obtain⟨⟨d,hd,hfit⟩,_⟩:=hty t ti ht
 rw[hk]at hfit
 obtain rfl:d=.string:=hfit
 have hrun:(execOp a.eval o).run P w=.ok (.value (.pointer (some ⟨w.heap.size,0,none⟩))) (w.alloc (.stringIter ⟨s.toArray⟩ 0)):=by
  simp[execOp,ho,Instr.range,he,underlying,hd,Sem.run_bind,Result.andThen]
 obtain⟨c1,k1⟩:=hc.lay (.stringIter ⟨s.toArray⟩ 0)
 have hno:¬AHeap.owns H w.heap.size:=fun h=>by have:=hc.ownlt _ h;omega
 refine upon_value_ok hrun (hr st _ (.ptr w.heap.size 0) _ _ (c1.take (e:=.obj w.heap.size (.stringIter ⟨s.toArray⟩ 0)) (l:=w.heap.size) (fun k=>⟨fun e=>e.symm,fun e=>e.symm⟩) (by simp) (.inr hc.size) hno ⟨fun o ho=>?_,World.alloc_heap_new w _,by simp⟩) k1 (.ptr _ _) ⟨_,rfl,rfl⟩)
 have:=hc.stlt _ _ ho
 omega
theorem Conc.obj {E:Env0} {st:Stab} {w:World} {b:Nat} {x y:Obj} {G:AHeap} (h:Conc E st (.obj b x::G) w) (hy:∀c t f,y≠.cells c t f):Conc E st (.obj b y::G) (w.putObj b y)∧Keeps st st w (w.putObj b y):=by
 obtain⟨g1,g2,g3⟩:=h.ents (.obj b x) (by simp)
 have hnl:=not_owns_of_sep h (show Ent.owns (.obj b x) b from rfl)
 have hnew:=h.ownnew b ⟨_,List.mem_cons_self,rfl⟩
 have hlt:=(Array.getElem?_eq_some_iff.1 g2).1
 exact⟨(h.tail.putObj g2 g3 hy hnew hnl).take (l:=b) (fun k=>⟨fun e=>e.symm,fun e=>e.symm⟩) (by simpa using hlt) hnew hnl ⟨g1,World.putObj_heap_same hlt,hy⟩,Keeps.putObj g2 g3 hy⟩
def nextV (s:List UInt8) (i:Nat):AV:=if i<s.length then .tuple [.bool true,.int .i64 i,.int .i32 (Utf8.decode ⟨s.toArray⟩ i).1] else .tuple [.bool false]
def nextI (s:List UInt8) (i:Nat):Nat:=if i<s.length then i+(Utf8.decode ⟨s.toArray⟩ i).2 else i
theorem hard_next {t:TypeId} {x:Operand} {s:List UInt8} {i b:Nat} {G:AHeap} (ho:o.op=.next x true) (_ht:o.type=t) (hx:F x=some (.ptr b 0)) (hp:H.Perm (.obj b (.stringIter ⟨s.toArray⟩ i)::G)):
  AHard P o F H fun r H'=>r=.ret (nextV s i)∧H'=.obj b (.stringIter ⟨s.toArray⟩ (nextI s i))::G:=by
 intro E st w a r next Q hc hF _ hr _
 have hrep:=hF x _ hx
 have hc1:=hc.perm hp
 obtain⟨g1,g2,g3⟩:=hc1.ents (.obj b (.stringIter ⟨s.toArray⟩ i)) (by simp)
 generalize hcv:a.eval x=cv at hrep
 cases hrep with
 |ptr _ _=>
 have hsz:(ByteArray.mk s.toArray).size=s.length:=by simp[ByteArray.size]
 have hg:(getObj b).run P w=.ok (.stringIter ⟨s.toArray⟩ i) w:=by simp[getObj,Sem.run,g2]
 by_cases hi:i<s.length
 ·have hrun:(execOp a.eval o).run P w=.ok (.value (.tuple #[.bool true,.int .i64 i,.int .i32 (Utf8.decode ⟨s.toArray⟩ i).1])) (w.putObj b (.stringIter ⟨s.toArray⟩ (i+(Utf8.decode ⟨s.toArray⟩ i).2))):=by
   have hs:(setObj b (.stringIter ⟨s.toArray⟩ (i+(Utf8.decode ⟨s.toArray⟩ i).2))).run P w=.ok () (w.putObj b (.stringIter ⟨s.toArray⟩ (i+(Utf8.decode ⟨s.toArray⟩ i).2))):=by simp[setObj,Sem.run,g2,World.putObj]
   simp[execOp,ho,Instr.next,hcv,Sem.run_bind,hg,Result.andThen,hsz,hi,hs,goInt]
  obtain⟨c2,k2⟩:=hc1.obj (y:=.stringIter ⟨s.toArray⟩ (i+(Utf8.decode ⟨s.toArray⟩ i).2)) (by simp)
  refine upon_value_ok hrun (hr st _ (nextV s i) _ (.obj b (.stringIter ⟨s.toArray⟩ (nextI s i))::G) (by rw[nextI,if_pos hi];exact c2) k2 ?_ ⟨rfl,rfl⟩)
  rw[nextV,if_pos hi]
  exact .tuple _ _ rfl fun j v x hv hx=>by
   match j,hv,hx with
   |0,hv,hx=>simp at hv hx;subst hv;subst hx;exact .bool _
   |1,hv,hx=>simp at hv hx;subst hv;subst hx;exact .int _ _
   |2,hv,hx=>simp at hv hx;subst hv;subst hx;exact .int _ _
 ·have hrun:(execOp a.eval o).run P w=.ok (.value (.tuple #[.bool false])) w:=by
   simp[execOp,ho,Instr.next,hcv,Sem.run_bind,hg,Result.andThen,hsz,hi]
  refine upon_value_ok hrun (hr st _ (nextV s i) _ (.obj b (.stringIter ⟨s.toArray⟩ (nextI s i))::G) (by rw[nextI,if_neg hi];exact hc1) (Keeps.refl _ _) ?_ ⟨rfl,rfl⟩)
  rw[nextV,if_neg hi]
  exact .tuple _ _ rfl fun j v x hv hx=>by
   match j,hv,hx with
   |0,hv,hx=>simp at hv hx;subst hv;subst hx;exact .bool _
theorem TR.range (hty:TyOk P ty) {t:TypeId} {x:Operand} {s:List UInt8} {ti:TyI} {d:Nat} (k:∀b,TR P N ty l0 LD W Q l ((d,.ptr b 0)::T) (.obj b (.stringIter ⟨s.toArray⟩ 0)::H)) (hg:o.guard=none:=by exact rfl)
  (ho:o.op=.range t x:=by exact rfl) (hd:o.dst=some d:=by exact rfl) (ht:ty t=some ti:=by exact rfl) (hk:ti.k=.str:=by exact rfl) (hN:Nat.ble (d+1) N=true:=by exact rfl) (hon:optN True T (tmpsOf o.op):=by exact True.intro)
  (hx:opvL (tmpsOf o.op) T x=some (.str s):=by exact rfl):TR P N ty l0 LD W Q ((n,o)::l) T H:=by
 refine TR.hard (fun r H'=>∃b,r=.ret (.ptr b 0)∧H'=.obj b (.stringIter ⟨s.toArray⟩ 0)::H) (.inr (by rw[ho];rfl)) hg (by rw[hd];exact hN) hon (hard_range hty ho ht hk hx) ?_ ?_ (fun h=>by rw[ho]at h;cases h) (fun h=>by rw[ho]at h;cases h)
 ·rintro v H' ⟨b,e,rfl⟩
  cases e
  rw[hd]
  exact k b
 ·rintro v H' ⟨b,e,_⟩
  cases e
theorem TR.next {x:Operand} {s:List UInt8} {i b:Nat} {G:AHeap} {d:Nat} (hp:H.Perm (.obj b (.stringIter ⟨s.toArray⟩ i)::G)) (k:TR P N ty l0 LD W Q l ((d,nextV s i)::T) (.obj b (.stringIter ⟨s.toArray⟩ (nextI s i))::G))
  (hg:o.guard=none:=by exact rfl) (ho:o.op=.next x true:=by exact rfl) (hd:o.dst=some d:=by exact rfl) (hN:Nat.ble (d+1) N=true:=by exact rfl) (hon:optN True T (tmpsOf o.op):=by exact True.intro)
  (hx:opvL (tmpsOf o.op) T x=some (.ptr b 0):=by exact rfl):TR P N ty l0 LD W Q ((n,o)::l) T H:=by
 refine TR.hard (fun r H'=>r=.ret (nextV s i)∧H'=.obj b (.stringIter ⟨s.toArray⟩ (nextI s i))::G) (.inr (by rw[ho];rfl)) hg (by rw[hd];exact hN) hon (hard_next ho rfl hx hp) ?_ ?_ (fun h=>by rw[ho]at h;cases h) (fun h=>by rw[ho]at h;cases h)
 ·rintro v H' ⟨e,rfl⟩
  cases e
  rw[hd]
  exact k
 ·rintro v H' ⟨e,_⟩
  cases e
end
end Go.Ab
namespace Go.Ab
def eqChk (P:Program) (t:TypeId):Bool:=
 !P.stoodInHeld t&& !P.eqGuardType P.depth t&&(match P.underlying t with
 |some (.struct a)=>a.toList.all fun f=>f.name != "_"
 |_=>false)
def EqOk (P:Program) (es:List TypeId):Prop:=∀t∈es,eqChk P t=true
theorem eqOk_of {P:Program} {es:List TypeId} (h:es.all (eqChk P)=true):EqOk P es:=fun t ht=>List.all_eq_true.1 h t ht
def aeqFs (ty:TypeId→Option TyI) (R:TypeId→AV→AV→Option Bool) (xs ys:List AV):List (Nat×TypeId)→Option Bool
 |[]=>some true
 |(off,ft)::fs=>match ty ft with
  |some fi=>match partOf fi (xs.drop off)with
   |some a=>match partOf fi (ys.drop off)with
    |some b=>match R ft a b with
     |some r=>match aeqFs ty R xs ys fs with
      |some r'=>some (r&&r')
      |none=>none
     |none=>none
    |none=>none
   |none=>none
  |none=>none
def aeqv (ty:TypeId→Option TyI) (es:List TypeId):Nat→TypeId→AV→AV→Option Bool
 |0,_,_,_=>none
 |d+1,t,x,y=>match ty t with
  |none=>none
  |some i=>match i.k with
   |.bool=>match x with
    |.bool a=>match y with
     |.bool b=>some (a==b)
     |_=>none
    |_=>none
   |.int _=>match x with
    |.int k a=>match y with
     |.int k' b=>if k=k' then some (a==b) else none
     |_=>none
    |_=>none
   |.str=>match x with
    |.str a=>match y with
     |.str b=>some (a==b)
     |_=>none
    |_=>none
   |.iface=>match x with
    |.nilIface=>match y with
     |.nilIface=>some true
     |.iface _ _=>some false
     |_=>none
    |.iface _ _=>match y with
     |.nilIface=>some false
     |_=>none
    |_=>none
   |.struct fs=>cond (es.contains t) (match x with
    |.agg xs=>match y with
     |.agg ys=>aeqFs ty (aeqv ty es d) xs ys fs
     |_=>none
    |_=>none) none
   |_=>none
section
variable {P:Program} {N:Nat} {ty:TypeId→Option TyI} {es:List TypeId}
theorem str_beq (a b:List UInt8):((⟨a.toArray⟩:ByteArray)==⟨b.toArray⟩)=(a==b):=by
 show((a.toArray:Array UInt8)==b.toArray)=(a==b)
 simp
theorem aeqv_sound (hty:TyOk P ty) (hes:EqOk P es) {st:Stab} {w:World}:∀(d:Nat) (t:TypeId) (x y:AV) (cx cy:Value) (b:Bool),aeqv ty es d t x y=some b→Rep st w x cx→Rep st w y cy→
  ∀D,d≤D→(Op.equalIn D t cx cy).run P w=.ok b w:=by
 intro d
 induction d with
 |zero=>intro t x y cx cy b h;simp[aeqv]at h
 |succ d ih=>
  intro t x y cx cy b h hx hy D hD
  obtain⟨D,rfl⟩:∃D',D=D'+1:=⟨D-1,by omega⟩
  unfold aeqv at h
  cases hi:ty t with
  |none=>rw[hi]at h;cases h
  |some i=>
   rw[hi]at h
   obtain⟨⟨ds,hd,hk⟩,-⟩:=hty t i hi
   simp only at h
   cases hik:i.k<;>rw[hik]at h hk<;>simp only[reduceCtorEq]at h
   case int k0=>
    obtain rfl:ds=.int k0:=hk
    cases x<;>simp only[reduceCtorEq]at h
    cases y<;>simp only[reduceCtorEq]at h
    split at h
    ·rename_i e
     subst e
     cases hx;cases hy
     simp only[Option.some.injEq]at h
     subst h
     exact run_equalIn_int w D t _ _ _ _ hd
    ·cases h
   case bool=>
    obtain rfl:ds=.bool:=hk
    cases x<;>simp only[reduceCtorEq]at h
    cases y<;>simp only[reduceCtorEq]at h
    cases hx;cases hy
    simp only[Option.some.injEq]at h
    subst h
    exact run_equalIn_bool' w D t _ _ hd
   case str=>
    obtain rfl:ds=.string:=hk
    cases x<;>simp only[reduceCtorEq]at h
    cases y<;>simp only[reduceCtorEq]at h
    cases hx;cases hy
    simp only[Option.some.injEq]at h
    subst h
    simp[Op.equalIn,run_underlying hd,str_beq]
   case iface=>
    obtain⟨m,rfl⟩:=hk
    cases x<;>simp only[reduceCtorEq]at h<;>cases y<;>simp only[reduceCtorEq,Option.some.injEq]at h<;>subst h<;>cases hx<;>cases hy<;>simp[Op.equalIn,run_underlying hd]
   case struct fs=>
    obtain⟨a,rfl,ha⟩:=hk
    cases hc:es.contains t with
    |false=>rw[hc]at h;cases h
    |true=>
     rw[hc,cond_true]at h
     have hm:t∈es:=by simpa using hc
     have hchk:=hes t hm
     simp only[eqChk,hd,Bool.and_eq_true,Bool.not_eq_true']at hchk
     obtain⟨⟨h1,_⟩,h3⟩:=hchk
     have hfo:P.fieldsOf t=a:=by simp[Program.fieldsOf,hd]
     cases x<;>simp only[reduceCtorEq]at h
     cases y<;>simp only[reduceCtorEq]at h
     rename_i xs ys
     cases hx with
     |agg _ csx hlx hrx=>
     cases hy with
     |agg _ csy hly hry=>
     rw[run_equalIn_agg w D t _ _ (by rw[hfo];exact hd) h1,hfo]
     have key:∀(fl:List Field) (fs:List (Nat×TypeId)) (b:Bool),fl.map (fun f=>(f.offset,f.type))=fs→(∀f∈fl,f.name≠ "_")→aeqFs ty (aeqv ty es d) xs ys fs=some b→(Op.eqFields D ⟨csx⟩ ⟨csy⟩ fl).run P w=.ok b w:=by
      intro fl
      induction fl with
      |nil=>
       intro fs b e _ h
       simp at e
       subst e
       simp only[aeqFs,Option.some.injEq]at h
       subst h
       simp[Op.eqFields]
      |cons f fl ihf=>
       intro fs b e hne h
       simp only[List.map_cons]at e
       subst e
       simp only[aeqFs]at h
       cases hft:ty f.type with
       |none=>simp[hft]at h
       |some fi=>
        simp only[hft]at h
        cases hpa:partOf fi (xs.drop f.offset)with
        |none=>simp[hpa]at h
        |some va=>
         simp only[hpa]at h
         cases hpb:partOf fi (ys.drop f.offset)with
         |none=>simp[hpb]at h
         |some vb=>
          simp only[hpb]at h
          cases hR:aeqv ty es d f.type va vb with
          |none=>simp[hR]at h
          |some r=>
           simp only[hR]at h
           cases hR':aeqFs ty (aeqv ty es d) xs ys (fl.map fun f=>(f.offset,f.type))with
           |none=>simp[hR']at h
           |some r'=>
            simp only[hR',Option.some.injEq]at h
            subst h
            obtain⟨ca,e1,e2⟩:=part_sound (P:=P) hty hft hlx hrx hpa
            obtain⟨cb,e3,e4⟩:=part_sound (P:=P) hty hft hly hry hpb
            have e5:=ih f.type va vb ca cb r hR e2 e4 D (by omega)
            have e6:=ihf _ r' rfl (fun g hg=>hne g (by simp[hg])) hR'
            simp only[Op.eqFields,if_pos (hne f (by simp)),Sem.run_bind,e1,Result.andThen_ok,e3,e5]
            cases r
            ·simp
            ·simpa using e6
     exact key a.toList fs b ha (fun f hf=>by have:=List.all_eq_true.1 h3 f hf;simpa using this) h
theorem run_binOp_eq {t:TypeId} {x y:Value} {w:World} {b:Bool} (h:(Op.equalIn 10000 t x y).run P w=.ok b w) (hx:(∃a,x=.agg a)∨(x=.nilIface)∨∃t v,x=.iface t v):
  (binOp .eql t x y).run P w=.ok (.bool b) w∧(binOp .neq t x y).run P w=.ok (.bool (!b)) w:=by
 rcases hx with⟨a,rfl⟩|rfl|⟨t',v,rfl⟩
 all_goals
  constructor
  ·cases y<;>simp[binOp,Op.equal,Op.maxDepth,h]
  ·cases y<;>simp[binOp,Op.equal,Op.maxDepth,h]
def isC:Operand→Bool
 |.const _=>true
 |_=>false
def eqPairOk (es:List TypeId) (t:TypeId) (x y:Operand) (vx vy:AV):Bool:=
 match vx with
 |.agg _=>es.contains t
 |.nilIface=>match vy with
  |.nilIface=>isC x || isC y
  |_=>true
 |.iface _ _=>true
 |_=>false
theorem eq_sem (hty:TyOk P ty) (hes:EqOk P es) {o:Oper} {F:Operand→Option AV} {op:BinOp} {t:TypeId} {x y:Operand} {rt:TypeId} {vx vy:AV} {b:Bool} (ho:o.op=.binOp op t x y rt) (hop:op=.eql∨op=.neq)
  (hx:F x=some vx) (hy:F y=some vy) (h:aeqv ty es 8 t vx vy=some b) (hp:eqPairOk es t x y vx vy=true):ASem P o F (.bool (if op=.eql then b else !b)):=by
 intro st w ρ hF
 have hrx:=hF x _ hx
 have hry:=hF y _ hy
 have he:=aeqv_sound hty hes 8 t vx vy _ _ b h hrx hry 10000 (by omega)
 have hshape:(∃a,ρ x=.agg a)∨(ρ x=.nilIface)∨∃t v,ρ x=.iface t v:=by
  generalize ρ x=cx at hrx
  cases hrx<;>simp[eqPairOk]at hp<;>simp
 obtain⟨r1,r2⟩:=run_binOp_eq he hshape
 have hg:(eqGuard op t x y (ρ x) (ρ y)).run P w=.ok () w:=by
  generalize ρ x=cx at*
  generalize ρ y=cy at*
  cases vx<;>simp only[eqPairOk,Bool.false_eq_true]at hp
  case agg xs=>
   have hm:t∈es:=by simpa using hp
   have hchk:=hes t hm
   simp only[eqChk,Bool.and_eq_true,Bool.not_eq_true']at hchk
   cases hrx
   cases vy<;>first|(cases hry;exact run_eqGuard_agg w op t x y _ _ hchk.1.2)|(unfold aeqv at h;cases hti:ty t<;>simp[hti]at h;rename_i i;cases hik:i.k<;>simp[hik]at h)
  case iface t' v=>
   cases hrx
   cases cy<;>(cases op<;>simp[eqGuard])
  case nilIface=>
   cases hrx
   cases vy<;>try (unfold aeqv at h;cases hti:ty t<;>simp[hti]at h;rename_i i;cases hik:i.k<;>simp[hik]at h;done)
   case nilIface=>
    cases hry
    simp only[isC]at hp
    cases x<;>cases y<;>simp at hp<;>(cases op<;>simp[eqGuard])
   case iface=>
    cases hry
    cases op<;>simp[eqGuard]
 obtain⟨dst,op',type,pos,after,guard⟩:=o
 simp only at ho
 subst ho
 rcases hop with rfl|rfl
 ·exact⟨_,by simp only[execOp,Sem.run_bind,hg,Result.andThen_ok,r1];rfl,.bool _⟩
 ·exact⟨_,by simp only[execOp,Sem.run_bind,hg,Result.andThen_ok,r2];rfl,.bool _⟩
variable {l0:List Oper} {LD:LDs} {W:Bool} {l:List (Nat×Oper)} {n:Nat} {T:Tmps} {H:AHeap} {Q:APost} {o:Oper}
theorem qeq (hty:TyOk P ty) (hes:EqOk P es) {t:TypeId} {x y:Operand} {rt:TypeId} {vx vy:AV} {b:Bool} {d:Nat} (k:TR P N ty l0 LD W Q l ((d,.bool b)::T) H) (hg:o.guard=none:=by exact rfl)
  (ho:o.op=.binOp .eql t x y rt:=by exact rfl) (hd:o.dst=some d:=by exact rfl) (hN:Nat.ble (d+1) N=true:=by exact rfl) (hon:optN True T (tmpsOf o.op):=by(first|exact True.intro|exact⟨id,True.intro⟩|exact⟨id,id,True.intro⟩|exact⟨id,id,id,True.intro⟩))
  (hx:opvL (tmpsOf o.op) T x=some vx:=by exact rfl) (hy:opvL (tmpsOf o.op) T y=some vy:=by exact rfl) (h:aeqv ty es 8 t vx vy=some b:=by exact rfl) (hp:eqPairOk es t x y vx vy=true:=by exact rfl):TR P N ty l0 LD W Q ((n,o)::l) T H:=
 TR.sem _ _ hg hd hN hon (by simpa using eq_sem hty hes ho (.inl rfl) hx hy h hp) k
theorem qne (hty:TyOk P ty) (hes:EqOk P es) {t:TypeId} {x y:Operand} {rt:TypeId} {vx vy:AV} {b:Bool} {d:Nat} (k:TR P N ty l0 LD W Q l ((d,.bool (!b))::T) H) (hg:o.guard=none:=by exact rfl)
  (ho:o.op=.binOp .neq t x y rt:=by exact rfl) (hd:o.dst=some d:=by exact rfl) (hN:Nat.ble (d+1) N=true:=by exact rfl) (hon:optN True T (tmpsOf o.op):=by(first|exact True.intro|exact⟨id,True.intro⟩|exact⟨id,id,True.intro⟩|exact⟨id,id,id,True.intro⟩))
  (hx:opvL (tmpsOf o.op) T x=some vx:=by exact rfl) (hy:opvL (tmpsOf o.op) T y=some vy:=by exact rfl) (h:aeqv ty es 8 t vx vy=some b:=by exact rfl) (hp:eqPairOk es t x y vx vy=true:=by exact rfl):TR P N ty l0 LD W Q ((n,o)::l) T H:=
 TR.sem _ _ hg hd hN hon (by simpa using eq_sem hty hes ho (.inr rfl) hx hy h hp) k
theorem qeqo (hty:TyOk P ty) (hes:EqOk P es) {t:TypeId} {x y:Operand} {rt:TypeId} {vx vy:AV} {r:Bool} {d j:Nat} {g b z:Bool} {dj:Nat} (k:TR P N ty l0 LD W Q l ((d,.opt z b (.bool r))::T) H) (hg:o.guard=some (j,g):=by exact rfl)
  (hj:gdst l0 j=some dj:=by exact rfl) (hb:gcond (lk T dj) g=some (z,b):=by exact rfl)
  (ho:o.op=.binOp .eql t x y rt:=by exact rfl) (hd:o.dst=some d:=by exact rfl) (hN:Nat.ble (d+1) N=true:=by exact rfl) (hon:optN (z=b) T (tmpsOf o.op):=by(first|exact True.intro|exact⟨id,True.intro⟩|exact⟨id,id,True.intro⟩|exact⟨id,id,id,True.intro⟩))
  (hx:opvL (tmpsOf o.op) T x=some vx:=by exact rfl) (hy:opvL (tmpsOf o.op) T y=some vy:=by exact rfl) (h:aeqv ty es 8 t vx vy=some r:=by exact rfl) (hp:eqPairOk es t x y vx vy=true:=by exact rfl):TR P N ty l0 LD W Q ((n,o)::l) T H:=
 TR.sopt _ _ _ _ _ _ _ hg hj hb hd hN hon (fun _=>by simpa using eq_sem hty hes ho (.inl rfl) hx hy h hp) k
theorem qneo (hty:TyOk P ty) (hes:EqOk P es) {t:TypeId} {x y:Operand} {rt:TypeId} {vx vy:AV} {r:Bool} {d j:Nat} {g b z:Bool} {dj:Nat} (k:TR P N ty l0 LD W Q l ((d,.opt z b (.bool (!r)))::T) H) (hg:o.guard=some (j,g):=by exact rfl)
  (hj:gdst l0 j=some dj:=by exact rfl) (hb:gcond (lk T dj) g=some (z,b):=by exact rfl)
  (ho:o.op=.binOp .neq t x y rt:=by exact rfl) (hd:o.dst=some d:=by exact rfl) (hN:Nat.ble (d+1) N=true:=by exact rfl) (hon:optN (z=b) T (tmpsOf o.op):=by(first|exact True.intro|exact⟨id,True.intro⟩|exact⟨id,id,True.intro⟩|exact⟨id,id,id,True.intro⟩))
  (hx:opvL (tmpsOf o.op) T x=some vx:=by exact rfl) (hy:opvL (tmpsOf o.op) T y=some vy:=by exact rfl) (h:aeqv ty es 8 t vx vy=some r:=by exact rfl) (hp:eqPairOk es t x y vx vy=true:=by exact rfl):TR P N ty l0 LD W Q ((n,o)::l) T H:=
 TR.sopt _ _ _ _ _ _ _ hg hj hb hd hN hon (fun _=>by simpa using eq_sem hty hes ho (.inr rfl) hx hy h hp) k
end
end Go.Ab
namespace Go.Ab
section
variable {P:Program} {N:Nat} {ty:TypeId→Option TyI} {T:Tmps} {H:AHeap} {Q:APost} {o:Oper} {l0:List Oper} {LD:LDs} {W:Bool} {l:List (Nat×Oper)} {n:Nat}
theorem SubL.length:∀{vs vs':List AV},SubL vs vs'→vs.length=vs'.length
 |_,_,.nil=>rfl
 |_,_,.cons _ h=>by simp[h.length]
theorem SubL.get:∀{vs vs':List AV},SubL vs vs'→∀(j:Nat) (v':AV),vs'[j]?=some v'→∃v,vs[j]?=some v∧Sub v v'
 |_,_,.nil,j,v',h=>by simp at h
 |_,_,.cons h _,0,v',e=>by simp at e;subst e;exact⟨_,rfl,h⟩
 |_,_,.cons _ h,j+1,v',e=>by simpa using h.get j v' (by simpa using e)
theorem Sub.els {sz n:Nat} {el el':Nat→List AV} {o:Own} (h:∀i,i<n→SubL (el i) (el' i)):Sub (.slice sz n el o) (.slice sz n el' o):=by
 intro st w c hr
 cases hr with
 |slice _ _ _ _ a cap b off c hn hbase hlen hcell hrep hown hone=>
  exact .slice sz n el' o a cap b off c hn hbase (fun i hi=>by rw[←(h i hi).length];exact hlen i hi) hcell (fun i j v' hi hv=>by
   obtain⟨v,h1,h2⟩:=(h i hi).get j v' hv
   exact h2 _ _ _ (hrep i j v hi h1)) hown hone
theorem glue_sl1S {α:Type} [Inhabited α] (f:α→List AV) (sz:Nat) (xs:List α) (x:α) (el2:Nat→List AV) (h:SubL (el2 0) (f x)) (o:Own):
  Sub (.slice sz (xs.length+1) (glue xs.length (fun i=>f (xs.getD i default)) el2) o) (sl f sz (xs++[x]) o):=by
 unfold sl
 rw[List.length_append]
 refine Sub.els fun i hi=>?_
 unfold glue
 by_cases hlt:i<xs.length
 ·rw[if_pos hlt]
  have:(xs++[x]).getD i default=xs.getD i default:=by simp[List.getD,List.getElem?_append_left hlt]
  rw[this]
  exact SubL.refl _
 ·have e:i=xs.length:=by have h1:[x].length=1:=rfl;omega
  subst e
  rw[if_neg hlt,Nat.sub_self]
  have:(xs++[x]).getD xs.length default=x:=by rw[List.getD_eq_getElem?_getD];simp
  rw[this]
  exact h
theorem glue_slS {α:Type} [Inhabited α] (f:α→List AV) (sz:Nat) (xs ys:List α) (el2:Nat→List AV) (h:∀i,i<ys.length→SubL (el2 i) (f (ys.getD i default))) (o:Own):
  Sub (.slice sz (xs.length+ys.length) (glue xs.length (fun i=>f (xs.getD i default)) el2) o) (sl f sz (xs++ys) o):=by
 unfold sl
 rw[List.length_append]
 refine Sub.els fun i hi=>?_
 unfold glue
 by_cases hlt:i<xs.length
 ·rw[if_pos hlt]
  have:(xs++ys).getD i default=xs.getD i default:=by simp[List.getD,List.getElem?_append_left hlt]
  rw[this]
  exact SubL.refl _
 ·rw[if_neg hlt]
  have:(xs++ys).getD i default=ys.getD (i-xs.length) default:=by simp[List.getD,List.getElem?_append_right (Nat.le_of_not_lt hlt)]
  rw[this]
  exact h _ (by omega)
theorem qapp {α:Type} [Inhabited α] (hty:TyOk P ty) (f:α→List AV) (xs:List α) (x:α) {s y:Operand} {t e:TypeId} {ti ei:TyI} {vx:AV} {sz:Nat} {el2:Nat→List AV} {ow:Own} {d:Nat} {a:Option Addr} {cap:Nat} {F:Ent→AHeap}
  (hel:SubL (el2 0) (f x)) (hb:(xs.length+1)*ei.bytes≤140737488355328∧xs.length+1≤9223372036854775807)
  (k:∀a cap,TR P N ty l0 LD W Q l ((d,sl f sz (xs++[x]) (.own a cap))::T) (F (.tok a cap (xs++[x]).length sz e)))
  (hg:o.guard=none:=by exact rfl) (ho:o.op=.call {callee:=.builtin .append,args:= #[s,y],argTypes:= #[t,t]}:=by exact rfl) (hd:o.dst=some d:=by exact rfl) (hN:Nat.ble (d+1) N=true:=by exact rfl)
  (hon:optN True T (tmpsOf o.op):=by exact True.intro) (hti:ty t=some ti:=by exact rfl) (hk:ti.k=.slice e:=by exact rfl) (hei:ty e=some ei:=by exact rfl) (hsz:ei.size=sz:=by exact rfl) (hpos:Nat.ble 1 sz=true:=by exact rfl)
  (hs:opvL (tmpsOf o.op) T s=some (sl f sz xs (.own a cap)):=by exact rfl) (hx:opvL (tmpsOf o.op) T y=some vx:=by exact rfl) (hvx:asSl sz vx=some (1,el2,ow):=by exact rfl)
  (hi:EntAt H (.tok a cap xs.length sz e) F:=by(first|exact .here|exact .there (.here)|exact .there (.there (.here))|exact .there (.there (.there (.here)))|exact .there (.there (.there (.there (.here))))|exact .there (.there (.there (.there (.there (.here)))))|exact .there (.there (.there (.there (.there (.there (.here))))))|exact .there (.there (.there (.there (.there (.there (.there (.here)))))))|exact .there (.there (.there (.there (.there (.there (.there (.there (.here))))))))|exact .there (.there (.there (.there (.there (.there (.there (.there (.there (.here)))))))))|exact .there (.there (.there (.there (.there (.there (.there (.there (.there (.there (.here))))))))))|exact .there (.there (.there (.there (.there (.there (.there (.there (.there (.there (.there (.here)))))))))))|exact .there (.there (.there (.there (.there (.there (.there (.there (.there (.there (.there (.there (.here))))))))))))|exact .there (.there (.there (.there (.there (.there (.there (.there (.there (.there (.there (.there (.there (.here)))))))))))))|exact .there (.there (.there (.there (.there (.there (.there (.there (.there (.there (.there (.there (.there (.there (.here))))))))))))))|exact .there (.there (.there (.there (.there (.there (.there (.there (.there (.there (.there (.there (.there (.there (.there (.here))))))))))))))))):TR P N ty l0 LD W Q ((n,o)::l) T H:=by
 obtain⟨i,g1,g2⟩:=hi.spec
 have hvs:asSl sz (sl f sz xs (.own a cap))=some (xs.length,fun i=>f (xs.getD i default),.own a cap):=by
  simp[asSl,sl]
 refine TR.appendO hty i (fun ad cp=>sl f sz (xs++[x]) (.own ad cp)) hg ho hd (by rw[hd];exact hN) hon hti hk hei hsz hpos hs hx hvs hvx g1 hb (fun ad cp=>glue_sl1S f sz xs x el2 hel _) fun ad cp=>?_
 have:=k ad cp
 rw[g2]at this
 rw[List.length_append]at this
 exact this
theorem awp_dropF {c:Code} {G:AHeap} (h:AWP P N c T H Q):AWP P N c T (G++H) Q:=awp_perm List.perm_append_comm (awp_drop h)
theorem Conc.boxSub {E:Env0} {st:Stab} {w:World} {G1 G2:AHeap} {b:Nat} {t:TypeId} {v v':AV} (h:Conc E st (G1++.box b t v::G2) w) (hs:Sub v v'):Conc E st (G1++.box b t v'::G2) w:=by
 have ho:∀k,AHeap.owns (G1++.box b t v'::G2) k→AHeap.owns (G1++.box b t v::G2) k:=by
  rintro k ⟨e,he,hk⟩
  rcases List.mem_append.1 he with he|he
  ·exact⟨e,List.mem_append.2 (.inl he),hk⟩
  ·rcases List.mem_cons.1 he with rfl|he
   ·exact⟨.box b t v,by simp,hk⟩
   ·exact⟨e,by simp[he],hk⟩
 refine⟨h.os,h.tape,h.output,h.size,h.old,h.keep,h.stle,h.stnew,h.stlt,fun k hk=>h.ownnew k (ho k hk),fun k hk=>h.ownlt k (ho k hk),?_,?_,h.fz⟩
 ·intro e he
  rcases List.mem_append.1 he with he|he
  ·exact h.ents e (List.mem_append.2 (.inl he))
  ·rcases List.mem_cons.1 he with rfl|he
   ·obtain⟨arr,cv,h1,h2,h3⟩:=h.ents (.box b t v) (by simp)
    exact⟨arr,cv,h1,hs _ _ _ h2,h3⟩
   ·exact h.ents e (by simp[he])
 ·have hp:=h.sep
  rw[List.pairwise_append,List.pairwise_cons]at hp ⊢
  obtain⟨h1,⟨h2,h3⟩,h4⟩:=hp
  refine⟨h1,⟨fun e he=>h2 e he,h3⟩,fun e he e' he'=>?_⟩
  rcases List.mem_cons.1 he' with rfl|he'
  ·exact fun k hk hk'=>h4 e he (.box b t v) (by simp) k hk hk'
  ·exact h4 e he e' (by simp[he'])
theorem owns_boxSub {G1 G2:AHeap} {b:Nat} {t:TypeId} {v v':AV} {k:Nat} (h:AHeap.owns (G1++.box b t v'::G2) k):AHeap.owns (G1++.box b t v::G2) k:=by
 obtain⟨e,he,hk⟩:=h
 rcases List.mem_append.1 he with he|he
 ·exact⟨e,List.mem_append.2 (.inl he),hk⟩
 ·rcases List.mem_cons.1 he with rfl|he
  ·exact⟨.box b t v,by simp,hk⟩
  ·exact⟨e,by simp[he],hk⟩
theorem awp_boxSub {c:Code} (G1:AHeap) {G2 H2:AHeap} {b:Nat} {t:TypeId} {v v':AV} (hs:Sub v v') (h:AWP P N c T H2 Q) (happ:AppL G1 (.box b t v'::G2) H2:=by(first|exact .nil|exact .cons (.nil)|exact .cons (.cons (.nil))|exact .cons (.cons (.cons (.nil)))|exact .cons (.cons (.cons (.cons (.nil))))|exact .cons (.cons (.cons (.cons (.cons (.nil)))))|exact .cons (.cons (.cons (.cons (.cons (.cons (.nil))))))|exact .cons (.cons (.cons (.cons (.cons (.cons (.cons (.nil)))))))|exact .cons (.cons (.cons (.cons (.cons (.cons (.cons (.cons (.nil))))))))|exact .cons (.cons (.cons (.cons (.cons (.cons (.cons (.cons (.cons (.nil)))))))))|exact .cons (.cons (.cons (.cons (.cons (.cons (.cons (.cons (.cons (.cons (.nil))))))))))|exact .cons (.cons (.cons (.cons (.cons (.cons (.cons (.cons (.cons (.cons (.cons (.nil))))))))))))):AWP P N c T (G1++.box b t v::G2) Q:=
 fun E st w a r B h1 h2 h3=>(happ.eq▸h:AWP P N c T (G1++.box b t v'::G2) Q) E st w a r B (h1.boxSub hs) h2 (h3.sub fun _ hk=>owns_boxSub hk)
theorem Conc.freeze {E:Env0} {st:Stab} {w:World} {G1 G2:AHeap} {b:Nat} {t:TypeId} {v:AV} {cells:List AV} (h:Conc E st (G1++.box b t v::G2) w) (hv:cellsOf v=some cells):
  ∃st',Conc E st' (G1++G2) w∧Keeps st st' w w∧Rep st' w (.rptr cells) (.pointer (some ⟨b,0,none⟩)):=by
 obtain⟨arr,cv,h1,h2,h3,h4,h5⟩:=h.ents (.box b t v) (by simp)
 have hown:AHeap.owns (G1++.box b t v::G2) b:=⟨.box b t v,by simp,rfl⟩
 have hp:=h.perm (List.perm_middle (l₁:=G1) (l₂:=G2) (a:=Ent.box b t v))
 have hno:=not_owns_of_sep hp rfl
 obtain⟨hl,hr⟩:=cellsOf_rep h2 hv
 rw[h3]at hl hr
 refine⟨fun b' o=>st b' o∨b'=b,?_,⟨fun _ _ h=>.inl h,fun _ _ _=>rfl⟩,?_⟩
 ·have ho:∀k,AHeap.owns (G1++G2) k→AHeap.owns (G1++.box b t v::G2) k:=by
   rintro k ⟨e,he,hk⟩
   rcases List.mem_append.1 he with he|he
   ·exact⟨e,by simp[he],hk⟩
   ·exact⟨e,by simp[he],hk⟩
  refine⟨h.os,h.tape,h.output,h.size,h.old,h.keep,fun b' o hs=>.inl (h.stle b' o hs),?_,?_,fun k hk=>h.ownnew k (ho k hk),fun k hk=>h.ownlt k (ho k hk),?_,hp.tail.sep,?_⟩
  ·rintro b' o (hs|rfl)
   ·exact h.stnew b' o hs
   ·rcases h.ownnew _ hown with x|x
    ·exact .inr (.inr x)
    ·exact .inr (.inl x)
  ·rintro b' o (hs|rfl)
   ·exact h.stlt b' o hs
   ·exact h.ownlt _ hown
  ·intro e he
   refine Ent.holds_keep (w:=w) ⟨fun _ _ h=>.inl h,fun _ _ _=>rfl⟩ (hp.tail.ents e he) (fun _ _=>rfl) ?_
   rintro b' o hb (hs|rfl)
   ·exact hs
   ·exact absurd ⟨e,he,hb⟩ hno
  ·rintro b' o (hs|rfl) hk
   ·exact h.fz b' o hs hk
   ·exact⟨_,_,h1⟩
 ·refine .rptr cells b 0 (fun j=>arr.toList.getD j undef) (fun j hj=>⟨.inr rfl,?_⟩) fun j v' hv'=>?_
  ·rw[Nat.zero_add]
   unfold World.cell?
   rw[h1]
   have:j<arr.size:=by rw[←Array.length_toList];omega
   simp[this]
  ·have hj:j<cells.length:=(List.getElem?_eq_some_iff.1 hv').1
   have e1:arr.toList[j]?=some (arr.toList.getD j undef):=by
    have:j<arr.toList.length:=by omega
    rw[List.getD_eq_getElem?_getD,List.getElem?_eq_getElem this]
    rfl
   exact(hr j v' _ hv' e1).mono ⟨fun _ _ h=>.inl h,fun _ _ _=>rfl⟩
theorem awp_freeze {c:Code} (G1:AHeap) {G2:AHeap} {b:Nat} {t:TypeId} {v:AV} {cells:List AV} {s:Nat} (hl:lk T s=some (.ptr b 0)) (hv:cellsOf v=some cells) (h:AWP P N c ((s,.rptr cells)::T) (G1++G2) Q):
  AWP P N c T (G1++.box b t v::G2) Q:=by
 refine awp_turn (S:=fun T' H'=>T'=(s,.rptr cells)::T∧H'=G1++G2) ?_ (fun T' H' e=>by obtain⟨rfl,rfl⟩:=e;exact h)
 intro E st w a h1 h2
 obtain⟨st',c1,k1,r1⟩:=h1.freeze hv
 refine⟨st',_,_,c1,⟨h2.size,fun t' v' ht'=>?_⟩,rfl,rfl⟩
 by_cases e:s=t'
 ·subst e
  simp[lk]at ht'
  subst ht'
  obtain⟨c,e1,e2⟩:=h2.val s _ hl
  cases e2
  exact⟨_,e1,r1⟩
 ·have hb:Nat.beq s t'=false:=beq_ne e
  simp[lk,hb]at ht'
  obtain⟨c,e1,e2⟩:=h2.val t' v' ht'
  exact⟨c,e1,e2.mono k1⟩
theorem cutK {K:Tmps→AHeap→Prop} {c:Code} {Wk:Tmps} {H0:AHeap} (hK:∀T' H',AWP P N c T' H' Q→K T' H') (hA:AWP P N c Wk H0 Q):∀T',Weak T' Wk→K T' H0:=
 fun _ hw=>hK _ _ (awp_weaken hw.spec hA)
end
end Go.Ab
namespace Go.Ab
section
variable {P:Program} {ty:TypeId→Option TyI} {T:Tmps} {H:AHeap} {Q:APost}
def FWP (P:Program) (fn:Func) (c:Code) (T:Tmps) (H:AHeap) (K:ARes→AHeap→Prop):Prop:=
 ∀E st w a,Conc E st H w→FR fn.ntmps st w T a→Fr none ⟨E.w0.heap.size,[]⟩ H w a.defers→c.wpIn (fen none) 0 P (bodyPostM (fen none) 0 P fn (FPost E K)) a w
theorem conc_dropK {E:Env0} {st:Stab} {w:World} {k:Nat} (h:Conc E st H w):Conc E st (H.drop k) w:=by
 rw[←List.take_append_drop k H]at h
 exact h.drop_front
theorem fin_res (hty:TyOk P ty) {E:Env0} {fn:Func} {K:ARes→AHeap→Prop} {st:Stab} {w:World} {a:Act} (h1:Conc E st H w) (h2:FR fn.ntmps st w T a)
  (h:∃k vs v,ResV ty T H fn.results.toList vs∧Sub (tup vs) v∧K (.ret v) (H.drop k)):∃v,(results fn a.tmps).run P w=.ok v w∧FPost E K (.returned v) w:=by
 obtain⟨k,us,v,h3,h4,h5⟩:=h
 obtain⟨cs,h6,h7⟩:=run_resV (P:=P) hty h1 h2 h3
 refine⟨_,?_,st,.ret v,H.drop k,conc_dropK h1,h4 _ _ _ (tup_rep h7),h5⟩
 rw[results_eq,Sem.run_bind,Array.mapM_eq_mapM_toList,Sem.run_map,h6]
 rfl
theorem body_of_post (hty:TyOk P ty) {E:Env0} {fn:Func} {K:ARes→AHeap→Prop} {e:Exit} {a:Act} {w:World} (hp:Post E fn.ntmps none ⟨E.w0.heap.size,[]⟩ (fnQ ty fn.results.toList K) e a w):
  bodyPostM (fen none) 0 P fn (FPost E K) e a w:=by
 have out:∀(u:FrameMode),u≠.run→∀st' T' H',Conc E st' H' w→FR fn.ntmps st' w T' a→Fr none ⟨E.w0.heap.size,[]⟩ H' w a.defers→
   (∀w2,Conc E st' H' w2→Keeps st' st' w w2→LeavesIn Fence.wide 0 P fn a.tmps (FPost E K) [] u w2)→
   LeavesInM Fence.wide 0 P fn a.tmps (FPost E K) a.defers u w:=
  fun u hu st' T' H' h1 h2 ⟨ms,hms,h3⟩ h4=>by
   rw[hms,List.append_nil]
   exact leaves_marks hu _ w h3 h1 fun w2 g1 g2 _=>h4 w2 g1 ⟨fun _ _ h=>h,fun b o _=>g2 _⟩
 cases e with
 |outgrown=>exact hp.elim
 |normal=>
  obtain⟨st',T',H',x,h1,h2,h3,h4,h5⟩:=hp
  cases x<;>first|exact h4.elim|skip
  exact out .returning (by simp) st' T' H' h1 h2 h3 fun w2 g1 g2=>by
   unfold LeavesIn
   exact fin_res hty g1 (h2.mono g2) h5
 |ret=>
  obtain⟨st',T',H',x,h1,h2,h3,h4,h5⟩:=hp
  cases x<;>first|exact h4.elim|skip
  exact out .returning (by simp) st' T' H' h1 h2 h3 fun w2 g1 g2=>by
   unfold LeavesIn
   exact fin_res hty g1 (h2.mono g2) h5
 |panic ch=>
  obtain⟨st',T',H',x,h1,h2,h3,h4,h5⟩:=hp
  cases x<;>first|exact h4.elim|skip
  rename_i v
  obtain⟨k,h6⟩:=h5
  refine out (.panicking ch) (by simp) st' T' H' h1 h2 h3 fun w2 g1 g2=>?_
  unfold LeavesIn
  obtain⟨c,rfl,h7⟩:=h4
  exact⟨st',.panic v,H'.drop k,conc_dropK g1,⟨c,rfl,h7.mono g2⟩,h6⟩
 |exit id=>
  obtain⟨st',T',H',x,h1,h2,h3,h4,h5⟩:=hp
  cases x<;>first|exact h4.elim|exact h5.elim
 |goto l=>
  obtain⟨st',T',H',x,h1,h2,h3,h4,h5⟩:=hp
  cases x<;>first|exact h4.elim|exact h5.elim
theorem acalls_of_fwp {f:FuncId} {fn:Func} {c:Code} {vs:List AV} {K:ARes→AHeap→Prop} (hcb:Callable P f) (hf:P.funcs[f]?=some fn) (hb:fn.body=some c)
  (hl:Nat.ble vs.length fn.ntmps=true) (h:FWP P fn c (args0 0 vs) H K):ACalls P f vs H K:=by
 refine⟨hcb,fun st w xs hc hx hg=>?_⟩
 have hl':=Nat.le_of_ble_eq_true hl
 refine callsIn_wide.1 (callsIn_of_wp_marks (n:=0) hf hb trivial (h (Env0.of w st H) st w _ hc ⟨?_,?_⟩ (Fr.none_nil hg)))
 ·simp[hx.1];omega
 ·intro t v ht
  obtain⟨_,h2⟩:=lk_args0 vs 0 t v ht
  simp only[Nat.sub_zero]at h2
  have htl:t<xs.length:=by
   have:=(List.getElem?_eq_some_iff.1 h2).1
   rw[hx.1];exact this
  refine⟨xs[t],?_,hx.2 t v _ h2 (by simp[htl])⟩
  rw[Array.getElem?_append_left (by simpa using htl)]
  simp[htl]
theorem fwp_seq (hty:TyOk P ty) {fn:Func} {x y:Code} {K:ARes→AHeap→Prop} (h:AWP P fn.ntmps x T H (thenQ (fun T' H'=>FWP P fn y T' H' K) (fnQ ty fn.results.toList K))):FWP P fn (.seq x y) T H K:=by
 intro E st w a h1 h2 h3
 refine wpIn_seq (wpIn_mono (h E st w a none _ h1 h2 h3) fun e a' w' hp=>?_)
 cases e with
 |outgrown=>exact hp.elim
 |normal=>
  obtain⟨st',T',H',x,g1,g2,g3,g4,g5⟩:=hp
  cases x<;>first|exact g4.elim|exact g5 E st' w' a' g1 g2 g3
 |_=>
  obtain⟨st',T',H',x,g1,g2,g3,g4,g5⟩:=hp
  cases x<;>first|exact g4.elim|exact body_of_post (K:=K) hty (Post.mk g1 g2 g3 g4 g5)
theorem fwp_seq_k (hty:TyOk P ty) {fn:Func} {x y:Code} {K:ARes→AHeap→Prop}
  (h:∀KK:Tmps→AHeap→Prop,(∀T' H',FWP P fn y T' H' K→KK T' H')→AWP P fn.ntmps x T H (thenQ KK (fnQ ty fn.results.toList K))):FWP P fn (.seq x y) T H K:=
 fwp_seq hty (h _ fun _ _ h=>h)
def UM (st:Stab) (w:World) (u:FrameMode):Option AV→Prop
 |none=>u=.returning
 |some v=>∃c,u=.panicking [{v:=c,recovered:=false}]∧Rep st w v c
def DCalls (P:Program) (f:FuncId) (vs:List AV) (pv:Option AV) (H:AHeap) (R:AHeap→Prop):Prop:=
 Callable P f∧∀st w xs u,Conc (Env0.of w st H) st H w→RepL st w vs xs→Gl H w→UM st w u pv→
  CallsDIn (fen none) 0 P f ⟨xs⟩ u w fun e u' w'=>∃v,e=.returned v∧settle u'=.returning∧∃st' H',Conc (Env0.of w st H) st' H' w'∧R H'
theorem going_marks {E:Env0} {st:Stab} {H:AHeap} (fr:Frame) (cs:List Frame) (hro:(fen none).room (cs.length+1+0)):
  ∀(ds:List Deferred) (w:World),Fr0 none E.w0.heap.size H w ds→Conc E st H w→
   ∃w',StepsIn (Machine.fenced P (fen none)) P (lone {fr with mode:=.returning,defers:=ds} cs w) (lone {fr with mode:=.returning,defers:=[]} cs w')∧Conc E st H w'∧(∀p,w'.cell? p=w.cell? p)
 |[],w,_,hc=>⟨w,StepsIn.refl _,hc,fun _=>rfl⟩
 |d::ds,w,hf,hc=>by
  obtain⟨b,rfl,h2,h3,h4⟩:=hf.marks d (by simp)
  have hnd:=List.nodup_cons.1 hf.nodup
  have hc':Conc E st H (w.putObj b (.deferred none)):=hc.putObj h2 (by simp) (by simp) (.inr h4) h3
  obtain⟨w',g1,g2,g3⟩:=going_marks fr cs hro ds _ ⟨fun d hd=>by
   obtain⟨b',k1,k2,k3,k4⟩:=hf.marks d (by simp[hd])
   refine⟨b',k1,?_,k3,k4⟩
   rw[World.putObj_heap_other]
   ·exact k2
   ·rintro rfl
    exact hnd.1 (k1▸hd),hnd.2,by simpa using hf.size,fun l hl=>(by cases hl),hf.gl.putObj h2 (by simp)⟩ hc'
  have hs:=step_collected (P:=P) (fr:={fr with mode:=.returning,defers:={target:=.collected b,args:= #[]}::ds}) (cs:=cs) (by simp) rfl rfl (run_takeDeferred h2)
  have hi:(lone {fr with mode:=.returning,defers:={target:=.collected b,args:= #[]}::ds} cs w).fenced P (fen none):=fenced_out (n:=0) trivial hro (by simp) rfl (fun g hg=>by simp[Target.leads]at hg)
  exact⟨w',.head hi hs g1,g2,fun p=>(g3 p).trans (cell_putObj h2 (by simp) (by simp) p)⟩
def ptrsOf:List (Nat×Nat)→List AV:=List.map fun p=>.ptr p.1 p.2
def ptrVals:List (Nat×Nat)→List Value:=List.map fun p=>.pointer (some ⟨p.1,p.2,none⟩)
theorem ptrs_rep {st:Stab} {w:World} (ps:List (Nat×Nat)):RepL st w (ptrsOf ps) (ptrVals ps):=by
 refine⟨by simp[ptrsOf,ptrVals],fun j v x hv hx=>?_⟩
 simp only[ptrsOf,ptrVals,List.getElem?_map,Option.map_eq_some_iff]at hv hx
 obtain⟨p,h1,rfl⟩:=hv
 obtain⟨q,h2,rfl⟩:=hx
 rw[h1]at h2
 cases h2
 exact .ptr _ _
theorem ptrs_eq {st:Stab} {w:World}:∀(ps:List (Nat×Nat)) (xs:List Value),RepL st w (ptrsOf ps) xs→xs=ptrVals ps
 |[],xs,h=>by
  have:=h.1
  simp only[ptrsOf,List.map_nil,List.length_nil]at this
  simp[ptrVals,List.eq_nil_of_length_eq_zero this]
 |p::ps,[],h=>by have:=h.1;simp[ptrsOf]at this
 |p::ps,x::xs,h=>by
  have h0:=h.2 0 (.ptr p.1 p.2) x rfl rfl
  have ht:=ptrs_eq ps xs ⟨by have:=h.1;simpa [ptrsOf]using this,fun j v y hv hy=>h.2 (j+1) v y (by simpa [ptrsOf]using hv) (by simpa using hy)⟩
  cases h0
  simp[ptrVals,ht]
def deferQ (P:Program) (ty:TypeId→Option TyI) (rs:List ResultVar) (f:FuncId) (ps:List (Nat×Nat)) (K:ARes→AHeap→Prop):APost
 |.normal,T,H=>DCalls P f (ptrsOf ps) none H fun H'=>∃k vs v,ResV ty T H' rs vs∧Sub (tup vs) v∧K (.ret v) (H'.drop k)
 |.ret,T,H=>DCalls P f (ptrsOf ps) none H fun H'=>∃k vs v,ResV ty T H' rs vs∧Sub (tup vs) v∧K (.ret v) (H'.drop k)
 |.panic v,T,H=>DCalls P f (ptrsOf ps) (some v) H fun H'=>∃k vs v,ResV ty T H' rs vs∧Sub (tup vs) v∧K (.ret v) (H'.drop k)
 |_,_,_=>False
theorem leaves_marks_then {E:Env0} {fn:Func} {a:Array Value} {R:Ending→World→Prop} {st:Stab} {H:AHeap} {u:FrameMode} (hu:u≠.run) {D:List Deferred}:
  ∀(ds:List Deferred) (w:World),Fr0 none E.w0.heap.size H w ds→Conc E st H w→
  (∀w',Conc E st H w'→Gl H w'→(∀p,w'.cell? p=w.cell? p)→LeavesInM (fen none) 0 P fn a R D u w')→LeavesInM (fen none) 0 P fn a R (ds++D) u w
 |[],w,hf,hc,h=>h w hc hf.gl (fun _=>rfl)
 |d::ds,w,hf,hc,h=>by
  obtain⟨b,rfl,h2,h3,h4⟩:=hf.marks d (by simp)
  have hnd:=List.nodup_cons.1 hf.nodup
  rw[List.cons_append]
  unfold LeavesInM
  refine⟨hu,.inl ⟨b,_,rfl,run_takeDeferred h2,?_⟩⟩
  have hc':Conc E st H (w.putObj b (.deferred none)):=hc.putObj h2 (by simp) (by simp) (.inr h4) h3
  refine leaves_marks_then hu ds _ ⟨fun d hd=>?_,hnd.2,by simpa using hf.size,fun l hl=>(by cases hl),hf.gl.putObj h2 (by simp)⟩ hc' fun w' g1 g2 g3=>h w' g1 g2 (fun p=>(g3 p).trans (cell_putObj h2 (by simp) (by simp) p))
  obtain⟨b',k1,k2,k3,k4⟩:=hf.marks d (by simp[hd])
  refine⟨b',k1,?_,k3,k4⟩
  rw[World.putObj_heap_other]
  ·exact k2
  ·rintro rfl
   exact hnd.1 (k1▸hd)
theorem fwp_defer (hty:TyOk P ty) {fn:Func} {id:Nat} {o1 o2:Oper} {d1:Nat} {f:FuncId} {caps:Array Operand} {at2:Array TypeId} (ps:List (Nat×Nat)) {y:Code} {K:ARes→AHeap→Prop}
  (h1:o1.op=.makeFunc (.func f) #[] caps) (hd1:o1.dst=some d1) (hg1:o1.guard=none) (hN:Nat.ble (d1+1) fn.ntmps=true)
  (h2:o2.op=.defer {callee:=.value (.tmp d1),args:= #[],argTypes:=at2}) (hd2:o2.dst=none) (hg2:o2.guard=none) (hcb:Callable P f)
  (hm:mapF (opv T) caps.toList=some (ptrsOf ps)) (h:AWP P fn.ntmps y ((d1,.func (.func f) [] (ptrsOf ps))::T) H (deferQ P ty fn.results.toList f ps K)):
  FWP P fn (.seq (.region id #[o1,o2] false) y) T H K:=by
 intro E st w a hc hf hfr
 have hcaps:caps.toList.map a.eval=ptrVals ps:=by
  obtain⟨hl,hmr⟩:=mapF_sound (fun x v hx=>opv_rep hf hx) _ _ hm
  exact ptrs_eq ps _ ⟨hl,hmr⟩
 have hcaps':caps.map a.eval=⟨ptrVals ps⟩:=by
  apply Array.ext'
  simp[hcaps]
 have hrun1:(execOp a.eval o1).run P w=.ok (.value (.func (.func f) #[] ⟨ptrVals ps⟩)) w:=by
  simp[execOp,h1,Instr.makeFunc,hcaps']
 have hfr1:FR fn.ntmps st w ((d1,.func (.func f) [] (ptrsOf ps))::T) (a.put (some d1) (.func (.func f) #[] ⟨ptrVals ps⟩)):=
  hf.put hN (.func _ _ _ _ _ rfl (ptrs_rep (st:=st) (w:=w) ps).1 (by simp) (ptrs_rep ps).2)
 have hdN:d1<a.tmps.size:=by rw[hf.size];exact Nat.le_of_ble_eq_true hN
 have hev:(a.put (some d1) (.func (.func f) #[] ⟨ptrVals ps⟩)).eval (.tmp d1)=.func (.func f) #[] ⟨ptrVals ps⟩:=by
  simp[Act.eval,Act.put,hdN]
 have hrun2:(execOp (a.put (some d1) (.func (.func f) #[] ⟨ptrVals ps⟩)).eval o2).run P w=.ok (.defer {target:=.fn (.func f) ⟨ptrVals ps⟩,args:= #[]}) w:=by
  simp[execOp,h2,resolve,hev,Deferred.ofValue]
 refine wpIn_seq (wpIn_region ?_)
 show wpOpsIn (fen none) 0 P #[o1,o2] _ [0,1] a w
 rw[wpOpsIn_cons]
 unfold wpOpIn
 simp only[List.getElem?_toArray,List.getElem?_cons_zero,wanted_none hg1,if_true]
 refine wp_of_value hrun1 ?_
 rw[wpOpsIn_cons,hd1]
 unfold wpOpIn
 simp only[List.getElem?_toArray,List.getElem?_cons_zero,List.getElem?_cons_succ,wanted_none hg2,if_true]
 refine⟨fun _ _=>trivial,?_⟩
 have hs:(o2.semAt (fen none).round (a.put (some d1) (.func (.func f) #[] ⟨ptrVals ps⟩)).eval)=execOp (a.put (some d1) (.func (.func f) #[] ⟨ptrVals ps⟩)).eval o2:=Oper.semAt_none ..
 rw[hs,hrun2,Oper.uponIn_defer,hd2]
 obtain⟨ms,hms,hfr⟩:=hfr
 rw[List.append_nil]at hms
 have hdef:(Act.put {(a.put (some d1) (.func (.func f) #[] ⟨ptrVals ps⟩))with defers:=({target:=.fn (.func f) ⟨ptrVals ps⟩,args:= #[]}:Deferred)::(a.put (some d1) (.func (.func f) #[] ⟨ptrVals ps⟩)).defers} none undef).defers=({target:=.fn (.func f) ⟨ptrVals ps⟩,args:= #[]}:Deferred)::ms:=by
  simp[Act.put,hms]
 have hgl:=hfr.gl
 refine wpIn_mono (h (Env0.of w st H) st w _ none ⟨w.heap.size,({target:=.fn (.func f) ⟨ptrVals ps⟩,args:= #[]}:Deferred)::ms⟩ hc.start ⟨hfr1.size,hfr1.val⟩ ⟨[],hdef,Fr0.none_nil hgl⟩) fun e a' w' hp=>?_
 have out:∀(u:FrameMode) (pv:Option AV) (st':Stab) (T':Tmps) (H':AHeap),u≠.run→Conc (Env0.of w st H) st' H' w'→FR fn.ntmps st' w' T' a'→Fr none ⟨w.heap.size,({target:=.fn (.func f) ⟨ptrVals ps⟩,args:= #[]}:Deferred)::ms⟩ H' w' a'.defers→UM st' w' u pv→
   DCalls P f (ptrsOf ps) pv H' (fun H'=>∃k vs v,ResV ty T' H' fn.results.toList vs∧Sub (tup vs) v∧K (.ret v) (H'.drop k))→LeavesInM (fen none) 0 P fn a'.tmps (FPost E K) a'.defers u w':=by
  intro u pv st' T' H' hu g1 g2 ⟨ms',hms',g3⟩ g4 g5
  rw[hms']
  refine leaves_marks_then (E:=Env0.of w st H) hu ms' w' g3 g1 fun w2 k1 k2 k3=>?_
  have kk:Keeps st' st' w' w2:=⟨fun _ _ h=>h,fun b o _=>k3 _⟩
  unfold LeavesInM
  refine⟨hu,.inr ⟨fun e=>by simp[fen,Fence.wide]at e,.func f,⟨ptrVals ps⟩,f,⟨ptrVals ps⟩,rfl,?_,fun _ _=>trivial,?_⟩⟩
  ·have:=hcb ⟨ptrVals ps⟩ w2
   simpa [invoke]using this
  ·refine(g5.2 st' w2 (ptrVals ps) u k1.start (ptrs_rep ps) k2 ?_).mono ?_
   ·cases pv with
    |none=>exact g4
    |some v=>obtain⟨c,e1,e2⟩:=g4;exact⟨c,e1,e2.mono kk⟩
   ·rintro e u' w3 ⟨v,rfl,hset,st3,H3,c3,k,us,r,r1,r2,r3⟩
    simp only[hset]
    have c4:Conc (Env0.of w st H) st3 H3 w3:=k1.trans c3
    have c5:Conc E st3 H3 w3:=hc.trans c4
    refine leaves_marks (u:=.returning) (by simp) ms w3 (hfr.keep c4) c5 fun w4 l1 l2 _=>?_
    unfold LeavesIn
    have hk3:Keeps st' st3 w2 w3:=⟨c3.stle,c3.keep⟩
    have hk4:Keeps st3 st3 w3 w4:=⟨fun _ _ h=>h,fun b o _=>l2 _⟩
    exact fin_res hty l1 (((g2.mono kk).mono hk3).mono hk4) ⟨k,us,r,r1,r2,r3⟩
 cases e with
 |outgrown=>exact hp.elim
 |normal=>
  obtain⟨st',T',H',x,g1,g2,g3,g4,g5⟩:=hp
  cases x<;>first|exact g4.elim|exact out .returning none st' T' H' (by simp) g1 g2 g3 rfl g5
 |ret=>
  obtain⟨st',T',H',x,g1,g2,g3,g4,g5⟩:=hp
  cases x<;>first|exact g4.elim|exact out .returning none st' T' H' (by simp) g1 g2 g3 rfl g5
 |panic ch=>
  obtain⟨st',T',H',x,g1,g2,g3,g4,g5⟩:=hp
  cases x<;>first|exact g4.elim|skip
  obtain⟨c,rfl,g6⟩:=g4
  exact out (.panicking [{v:=c,recovered:=false}]) (some _) st' T' H' (by simp) g1 g2 g3 ⟨c,rfl,g6⟩ g5
 |exit i=>
  obtain⟨st',T',H',x,g1,g2,g3,g4,g5⟩:=hp
  cases x<;>first|exact g4.elim|exact g5.elim
 |goto l=>
  obtain⟨st',T',H',x,g1,g2,g3,g4,g5⟩:=hp
  cases x<;>first|exact g4.elim|exact g5.elim
variable {N:Nat} {l0:List Oper} {LD:LDs} {W:Bool} {l:List (Nat×Oper)} {n:Nat} {o:Oper}
theorem qta (hty:TyOk P ty) {x:Operand} {t a:TypeId} {ti:TyI} {fs:List (Nat×TypeId)} {v:AV} {d:Nat} (k:TR P N ty l0 LD W Q l ((d,.tuple [v,.bool true])::T) H) (hg:o.guard=none:=by exact rfl)
  (ho:o.op=.typeAssert x t a true:=by exact rfl) (hd:o.dst=some d:=by exact rfl) (hN:Nat.ble (d+1) N=true:=by exact rfl) (hon:optN True T (tmpsOf o.op):=by(first|exact True.intro|exact⟨id,True.intro⟩|exact⟨id,id,True.intro⟩|exact⟨id,id,id,True.intro⟩))
  (hx:opvL (tmpsOf o.op) T x=some (.iface a v):=by exact rfl) (ht:ty a=some ti:=by exact rfl) (hk:ti.k=.struct fs:=by exact rfl):TR P N ty l0 LD W Q ((n,o)::l) T H:=by
 refine TR.sem (.tuple [v,.bool true]) d hg hd hN hon ?_ k
 intro st w ρ hρ
 have hrep:=hρ x _ hx
 generalize hcv:ρ x=cv at hrep
 cases hrep with
 |iface _ _ y hy=>
  obtain⟨⟨dd,hdd,hfit⟩,_⟩:=hty a ti ht
  rw[hk]at hfit
  obtain⟨aa,rfl,_⟩:=hfit
  refine⟨.tuple #[y,.bool true],?_,?_⟩
  ·have hu:(underlying a).run P w=.ok (.struct aa) w:=run_underlying hdd w
   simp[execOp,ho,Instr.typeAssert,hcv,hu]
  ·exact .tuple _ _ rfl fun j u z hu hz=>by
    match j,hu,hz with
    |0,hu,hz=>simp at hu hz;subst hu;subst hz;exact hy
    |1,hu,hz=>simp at hu hz;subst hu;subst hz;exact .bool true
end
end Go.Ab
namespace Go.Ab
section
variable {P:Program} {N:Nat} {ty:TypeId→Option TyI} {T:Tmps} {H:AHeap} {Q:APost}
variable {l0:List Oper} {LD:LDs} {W:Bool} {l:List (Nat×Oper)} {n:Nat} {o:Oper}
end
end Go.Ab
