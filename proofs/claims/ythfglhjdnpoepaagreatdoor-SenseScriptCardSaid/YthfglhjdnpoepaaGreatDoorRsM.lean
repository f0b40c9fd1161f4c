/-
  The document's tables of figures (porismref21): rows, a row by its word, pairs that must be unlike.
-/
import Derived.Test.YthfglhjdnpoepaaGreatDoorShM
import Derived.Test.YthfglhjdnpoepaaGreatDoorTc
import Derived.Test.YthfglhjdnpoepaaGreatDoorAbC
set_option maxRecDepth 100000
set_option maxHeartbeats 6400000
namespace Go.Proofs.YthfglhjdnpoepaaGreatDoor
open Go.Ab
end Go.Proofs.YthfglhjdnpoepaaGreatDoor
namespace Go.Proofs.YthfglhjdnpoepaaGreatDoor
open Go.Ab
def argE (f:FigR) (A:List TokI) (ns:List (List UInt8)) (i:Nat) (t:TokI):Int:=
 if f.pts+f.nums≤(i:Int) then 13
 else if f.pts≤(i:Int) then(if t.k≠3 then 14 else if(i:Int)=f.pts+f.nums-1∧t.n=0 then 4 else 0)
 else if t.k≠1 then 14
 else if ns.contains t.w=false then 5
 else if f.unl.any (alike A i t.w)=true then 15
 else 0
def argsE (f:FigR) (A:List TokI) (el ec:Int) (ns:List (List UInt8)):Nat→List TokI→Option (Int×Int×Int)
 |_,[]=>if(A.length:Int)<f.pts+f.nums then some (el,ec,13) else none
 |i,t::l=>if argE f A ns i t≠0 then some (t.ln,t.co,argE f A ns i t) else argsE f A el ec ns (i+1) l
theorem argsG_E (f:FigR) (A:List TokI) (el ec:Int):∀(l:List TokI) (i:Nat) {s:LkR},s.e=0→argsG f A el ec i l s=match argsE f A el ec s.ns i l with
  |none=>s
  |some (ln,co,e)=>⟨e,ln,co,s.ns⟩
 |[],i,s,h=>by
  unfold argsG argsE
  by_cases hc:(A.length:Int)<f.pts+f.nums
  ·rw[if_pos hc,decide_eq_true hc,meet_true h]
  ·rw[if_neg hc,decide_eq_false hc,meet_false]
 |t::l,i,s,h=>by
  unfold argsG argsE argE
  by_cases h1:f.pts+f.nums≤(i:Int)
  ·simp only[if_pos h1]
   rw[meet_true h]
   rfl
  by_cases h2:f.pts≤(i:Int)
  ·simp only[if_neg h1,if_pos h2]
   by_cases h3:t.k≠3
   ·simp only[if_pos h3]
    have e:numM f i t s=⟨14,t.ln,t.co,s.ns⟩:=by
     unfold numM
     rw[decide_eq_true h3,meet_true h,meet_dead (by simp)]
    rw[e,argsG_dead _ _ _ _ _ _ (by simp)]
    rfl
   by_cases h4:(i:Int)=f.pts+f.nums-1∧t.n=0
   ·simp only[if_neg h3,if_pos h4]
    have e:numM f i t s=⟨4,t.ln,t.co,s.ns⟩:=by
     unfold numM
     rw[decide_eq_false h3,meet_false,decide_eq_true h4.1,decide_eq_true h4.2,Bool.and_self,meet_true h]
    rw[e,argsG_dead _ _ _ _ _ _ (by simp)]
    rfl
   ·simp only[if_neg h3,if_neg h4]
    have e:numM f i t s=s:=by
     unfold numM
     have hb:(decide ((i:Int)=f.pts+f.nums-1)&&decide (t.n=0))=false:=by simpa using h4
     rw[decide_eq_false h3,meet_false,hb,meet_false]
    rw[e,argsG_E f A el ec l (i+1) h]
    rfl
  ·simp only[if_neg h1,if_neg h2]
   by_cases h3:t.k≠1
   ·simp only[if_pos h3]
    have e:ptM f A i t s=⟨14,t.ln,t.co,s.ns⟩:=by
     unfold ptM
     rw[decide_eq_true h3,meet_true h,meet_dead (s:=⟨14,t.ln,t.co,s.ns⟩) (by simp),meet_dead (s:=⟨14,t.ln,t.co,s.ns⟩) (by simp)]
    rw[e,argsG_dead _ _ _ _ _ _ (by simp)]
    rfl
   by_cases h4:s.ns.contains t.w=false
   ·simp only[if_neg h3,if_pos h4]
    have e:ptM f A i t s=⟨5,t.ln,t.co,s.ns⟩:=by
     unfold ptM
     rw[decide_eq_false h3,meet_false,h4,Bool.not_false,meet_true h,meet_dead (by simp)]
    rw[e,argsG_dead _ _ _ _ _ _ (by simp)]
    rfl
   have h4':s.ns.contains t.w=true:=by simpa using h4
   by_cases h5:f.unl.any (alike A i t.w)=true
   ·simp only[if_neg h3,if_neg h4,if_pos h5]
    have e:ptM f A i t s=⟨15,t.ln,t.co,s.ns⟩:=by
     unfold ptM
     rw[decide_eq_false h3,meet_false,h4',Bool.not_true,meet_false,h5,meet_true h]
    rw[e,argsG_dead _ _ _ _ _ _ (by simp)]
    rfl
   ·simp only[if_neg h3,if_neg h4,if_neg h5]
    have e:ptM f A i t s=s:=by
     unfold ptM
     have h5':f.unl.any (alike A i t.w)=false:=by simpa using h5
     rw[decide_eq_false h3,meet_false,h4',Bool.not_true,meet_false,h5',meet_false]
    rw[e,argsG_E f A el ec l (i+1) h]
    rfl
def freshE (ns:List (List UInt8)) (t:TokI):Option (Int×Int×Int):=
 if ns.contains t.w=true then some (t.ln,t.co,6) else if 40≤(ns.length:Int) then some (t.ln,t.co,13) else none
theorem fresh_E {s:LkR} (h:s.e=0) (t:TokI):s.fresh t=match freshE s.ns t with
  |none=>s
  |some (ln,co,e)=>⟨e,ln,co,s.ns⟩:=by
 unfold LkR.fresh freshE
 by_cases h1:s.ns.contains t.w=true
 ·rw[if_pos h1,h1,meet_true h,meet_dead (by simp)]
 have h1':s.ns.contains t.w=false:=by simpa using h1
 rw[if_neg h1,h1',meet_false]
 by_cases h2:40≤(s.ns.length:Int)
 ·rw[if_pos h2,decide_eq_true h2,meet_true h]
 ·rw[if_neg h2,decide_eq_false h2,meet_false]
theorem freshE_ne {ns:List (List UInt8)} {t:TokI} {ln co e:Int} (h:freshE ns t=some (ln,co,e)):e≠0:=by
 unfold freshE at h
 split at h
 ·cases h;decide
 split at h
 ·cases h;decide
 ·cases h
theorem argsE_ne {f:FigR} {A:List TokI} {el ec:Int} {ns:List (List UInt8)}:∀{l:List TokI} {i:Nat} {ln co e:Int},argsE f A el ec ns i l=some (ln,co,e)→e≠0
 |[],i,ln,co,e,h=>by
  unfold argsE at h
  split at h
  ·cases h;decide
  ·cases h
 |t::l,i,ln,co,e,h=>by
  unfold argsE at h
  split at h
  ·rename_i hn
   cases h
   exact hn
  ·exact argsE_ne h
def ptsE:List (List UInt8)→List TokI→(Int×Int×Int) ⊕ List (List UInt8)
 |ns,[]=>.inr ns
 |ns,t::l=>match freshE ns t with
  |some p=>.inl p
  |none=>ptsE (ns++[t.w]) l
noncomputable def oneE (ns:List (List UInt8)) (x:StI):(Int×Int×Int) ⊕ List (List UInt8):=
 if x.k=3 then(if x.args.length=0 then .inl (x.l2,x.c2,13) else ptsE ns x.args)
 else if x.k=4 then match freshE ns x.new with
  |some p=>.inl p
  |none=>match conF x.word.w with
   |none=>.inl (x.word.ln,x.word.co,5)
   |some f=>match argsE f x.args x.l2 x.c2 ns 0 x.args with
    |some p=>.inl p
    |none=>.inr (ns++[x.new.w])
 else if x.k=5 then match preF x.word.w with
  |none=>.inl (x.word.ln,x.word.co,5)
  |some f=>match argsE f x.args x.l2 x.c2 ns 0 x.args with
   |some p=>.inl p
   |none=>.inr ns
 else .inr ns
def Says (s:LkR) (r:(Int×Int×Int) ⊕ List (List UInt8)) (ln co:Int):Prop:=match r with
 |.inl (l,c,e)=>e≠0∧s.e=e∧s.ln=l∧s.co=c
 |.inr ns=>s=⟨0,ln,co,ns⟩
theorem ptsG_E:∀(l:List TokI) {s:LkR},s.e=0→Says (ptsG l s) (ptsE s.ns l) s.ln s.co
 |[],s,h=>by
  unfold ptsG ptsE Says
  obtain⟨e,ln,co,ns⟩:=s
  simp only at h
  subst h
  rfl
 |t::l,s,h=>by
  unfold ptsG ptsE
  rw[fresh_E h]
  cases hf:freshE s.ns t with
  |none=>
   simp only
   rw[add_live h]
   exact ptsG_E l (s:={s with ns:=s.ns++[t.w]}) h
  |some p=>
   obtain⟨ln,co,e⟩:=p
   have he:=freshE_ne hf
   simp only
   rw[add_dead he,ptsG_dead l he]
   exact⟨he,rfl,rfl,rfl⟩
theorem stmtG_E (x:StI) {s:LkR} (h:s.e=0):Says (stmtG x s) (oneE s.ns x) s.ln s.co:=by
 unfold stmtG oneE argsF
 by_cases h3:x.k=3
 ·rw[if_pos h3,if_pos h3]
  by_cases h0:x.args.length=0
  ·rw[if_pos h0,decide_eq_true h0,meet_true h,ptsG_dead _ (by simp)]
   exact⟨by decide,rfl,rfl,rfl⟩
  ·rw[if_neg h0,decide_eq_false h0,meet_false]
   exact ptsG_E _ h
 rw[if_neg h3,if_neg h3]
 by_cases h4:x.k=4
 ·rw[if_pos h4,if_pos h4,fresh_E h]
  cases hf:freshE s.ns x.new with
  |some p=>
   obtain⟨ln,co,e⟩:=p
   have he:=freshE_ne hf
   simp only
   rw[meet_dead he,argsG_dead _ _ _ _ _ _ he,add_dead he]
   exact⟨he,rfl,rfl,rfl⟩
  |none=>
   simp only
   cases hc:conF x.word.w with
   |none=>
    simp only[Option.isNone_none]
    rw[meet_true h,argsG_dead _ _ _ _ _ _ (by simp),add_dead (by simp)]
    exact⟨by decide,rfl,rfl,rfl⟩
   |some f=>
    simp only[Option.isNone_some,fig0]
    rw[meet_false,argsG_E _ _ _ _ _ _ h]
    cases ha:argsE f x.args x.l2 x.c2 s.ns 0 x.args with
    |none=>
     simp only
     rw[add_live h]
     unfold Says
     simp only[h]
    |some p=>
     obtain⟨ln,co,e⟩:=p
     have he:=argsE_ne ha
     simp only
     rw[add_dead he]
     exact⟨he,rfl,rfl,rfl⟩
 rw[if_neg h4,if_neg h4]
 by_cases h5:x.k=5
 ·rw[if_pos h5,if_pos h5]
  cases hc:preF x.word.w with
  |none=>
   simp only[Option.isNone_none]
   rw[meet_true h,argsG_dead _ _ _ _ _ _ (by simp)]
   exact⟨by decide,rfl,rfl,rfl⟩
  |some f=>
   simp only[Option.isNone_some,fig0]
   rw[meet_false,argsG_E _ _ _ _ _ _ h]
   cases ha:argsE f x.args x.l2 x.c2 s.ns 0 x.args with
   |none=>
    simp only
    unfold Says
    obtain⟨e,ln,co,ns⟩:=s
    simp only at h
    subst h
    rfl
   |some p=>
    obtain⟨ln,co,e⟩:=p
    have he:=argsE_ne ha
    exact⟨he,rfl,rfl,rfl⟩
 ·rw[if_neg h5,if_neg h5]
  unfold Says
  obtain⟨e,ln,co,ns⟩:=s
  simp only at h
  subst h
  rfl
noncomputable def lookE (n:Nat):Nat→List StI→List (List UInt8)→(Int×Int×Int) ⊕ List (List UInt8)
 |_,[],ns=>.inr ns
 |i,x::l,ns=>match placeB n i x with
  |false=>.inl (x.l1,x.c1,4)
  |true=>match oneE ns x with
   |.inl p=>.inl p
   |.inr ns'=>lookE n (i+1) l ns'
theorem lookG_E (n:Nat):∀(l:List StI) (i:Nat) {s:LkR},s.e=0→Says (lookG n i l s) (lookE n i l s.ns) s.ln s.co
 |[],i,s,h=>by
  unfold lookG lookE Says
  obtain⟨e,ln,co,ns⟩:=s
  simp only at h
  subst h
  rfl
 |x::l,i,s,h=>by
  unfold lookG lookE
  cases hp:placeB n i x with
  |false=>
   simp only[Bool.not_false]
   rw[meet_true h,stmtG_dead _ (by simp),lookG_dead _ _ _ (by simp)]
   exact⟨by decide,rfl,rfl,rfl⟩
  |true=>
   simp only[Bool.not_true]
   rw[meet_false]
   have hs:=stmtG_E x h
   cases ho:oneE s.ns x with
   |inl p=>
    obtain⟨ln,co,e⟩:=p
    rw[ho]at hs
    obtain⟨k1,k2,k3,k4⟩:=hs
    simp only
    rw[lookG_dead n l (i+1) (by rw[k2];exact k1)]
    exact⟨k1,k2,k3,k4⟩
   |inr ns'=>
    rw[ho]at hs
    unfold Says at hs
    simp only at hs ⊢
    rw[hs]
    exact lookG_E n l (i+1) (s:=⟨0,s.ln,s.co,ns'⟩) rfl
noncomputable def lookR (l:List StI):(Int×Int×Int) ⊕ List (List UInt8):=
 if l.length<3 then .inl ((shortAt l).1,(shortAt l).2,4) else lookE l.length 0 l []
theorem lookF_E (l:List StI):Says (lookF l) (lookR l) 0 0:=by
 unfold lookF lookR
 by_cases h:l.length<3
 ·rw[if_pos h,decide_eq_true h,meet_true rfl,lookG_dead _ _ _ (by simp)]
  exact⟨by decide,rfl,rfl,rfl⟩
 ·rw[if_neg h,decide_eq_false h,meet_false]
  exact lookG_E l.length l 0 (s:=⟨0,0,0,[]⟩) rfl
end Go.Proofs.YthfglhjdnpoepaaGreatDoor
namespace Go.Proofs.YthfglhjdnpoepaaGreatDoor
open Go.Ab
theorem cbNum22:Callable Tryz.prog 191:=fun _ _=>by kernel_rfl
theorem num22_c (c:UInt8):PCalls Tryz.prog 191 [.int .u8 c.toNat,.int .i64 0] (.int .i64 (numR c)):=by
 refine pcalls_of_awp tyok cbNum22 Tryz.func191 rfl rfl ?_
 have hc:=c.toNat_lt
 by_cases h:c.toNat=80
 ·have h':(c.toNat:Int)=80:=by omega
  repeat(first|refine wDB ?_|refine awp_seq_k fun K hK=>?_|refine wN fun bx=>?_|(refine wH ?_;clear hK))
  refine r1 ?_
  exact Sub.of_eq (by unfold numR;rw[if_pos h])
 ·have h':¬(c.toNat:Int)=80:=by omega
  have e2:IntKind.i64.wrap (c.toNat:Int)=c.toNat:=wrap_inK (by simp only[inK];omega)
  repeat(first|refine wDB ?_|refine awp_seq_k fun K hK=>?_|refine wN fun bx=>?_|(refine wH ?_;clear hK))
  refine r1 ?_
  exact Sub.of_eq (by unfold numR;rw[if_neg h,e2,Int.add_zero])
theorem unlR_two {u:List UInt8} {i:Nat} (h:i+1<u.length):unlR (u.drop i)=(numR (u.getD i 0),numR (u.getD (i+1) 0))::unlR (u.drop (i+3)):=by
 have e1:u.getD i 0=u[i]'(by omega):=by simp[List.getD,show i<u.length by omega]
 have e2:u.getD (i+1) 0=u[i+1]'h:=by simp[List.getD,h]
 rw[e1,e2,List.drop_eq_getElem_cons (show i<u.length by omega),List.drop_eq_getElem_cons h]
 by_cases h2:i+2<u.length
 ·rw[List.drop_eq_getElem_cons h2]
  rfl
 ·rw[List.drop_of_length_le (show u.length≤i+1+1 by omega),List.drop_of_length_le (show u.length≤i+3 by omega)]
  rfl
theorem unlR_end {u:List UInt8} {i:Nat} (h:¬i+1<u.length):unlR (u.drop i)=[]:=by
 have hl:(u.drop i).length≤1:=by rw[List.length_drop];omega
 match hd:u.drop i,hl with
 |[],_=>rfl
 |[_],_=>rfl
 |_::_::_,hl=>simp at hl
theorem unlR_len:∀u:List UInt8,(unlR u).length≤u.length
 |a::b::c::l=>by
  have:=unlR_len l
  simp only[unlR,List.length_cons]
  omega
 |[a,b]=>by simp[unlR]
 |[a]=>by simp[unlR]
 |[]=>by simp[unlR]
theorem cbUnl22:Callable Tryz.prog 174:=fun _ _=>by kernel_rfl
theorem unl22_c (u:List UInt8) (hu:u.length≤1000000):PCalls Tryz.prog 174 [.str u] (sl pairE 2 (unlR u) .view):=by
 refine pcalls_of_awp tyok cbUnl22 Tryz.func174 rfl rfl ?_
 repeat(first|refine wD ?_|refine awp_seq_k fun K hK=>?_|refine wN fun bx=>?_|(refine wH ?_;clear hK))
 refine awp_tok0 2 134 ?_
 refine awp_loop0 (ι:={y:Nat×List (Int×Int)×Option Addr×Nat//y.1≤u.length+2∧y.2.1++unlR (u.drop y.1)=unlR u}) (fun y=>[(0,.str u),(3,sl pairE 2 y.1.2.1 (.own y.1.2.2.1 y.1.2.2.2)),(4,.int .i64 y.1.1)])
  (fun y=>[.tok y.1.2.2.1 y.1.2.2.2 y.1.2.1.length 2 134]) (fun y=>u.length+2-y.1.1) ⟨(0,[],none,0),Nat.zero_le _,rfl⟩ wk ⟨0,rfl⟩ ?_
 rintro⟨⟨i,out,a,cap⟩,hi,ho⟩
 simp only at hi ho ⊢
 have hol:out.length≤1000000:=by
  have:=unlR_len u
  have h2:=congrArg List.length ho
  rw[List.length_append]at h2
  omega
 by_cases hlt:i+1<u.length
 ·have hlt':(i:Int)+1<u.length:=by omega
  have g1:=num22_c (u.getD i 0)
  have g2:=num22_c (u.getD ((i:Int)+1).toNat 0)
  have e3:((i:Int)+1).toNat=i+1:=by omega
  rw[unlR_two hlt]at ho
  repeat(first|refine wKB ?_|refine awp_seq_k fun K hK=>?_|refine wN fun bx=>?_|(refine wH ?_;clear hK))
  refine areg_kept mixed tyok [] [0,1,2,3,5,6,7,8,4,9,10,11,12,13] (by decide +kernel) ?_
  repeat(first|refine wDB ?_|refine awp_seq_k fun K hK=>?_|refine wN fun bx=>?_|refine qpc rfl rfl rfl (g1) ?_|refine qpc rfl rfl rfl (g2) ?_|refine qpo rfl rfl rfl rfl rfl rfl (fun _=>g1) ?_|refine qpo rfl rfl rfl rfl rfl rfl (fun _=>g2) ?_|(refine wH ?_;clear hK))
  refine qarr2 tyok ?_
  repeat(first|refine wDB ?_|refine awp_seq_k fun K hK=>?_|refine wN fun bx=>?_|(refine wH ?_;clear hK))
  refine qapp tyok pairE out (numR (u.getD i 0),numR (u.getD (i+1) 0)) ?_ ?_ fun ad cp=>?_
  ·show SubL [.int .i64 (numR (u.getD i 0)),.int .i64 (numR (u.getD ((i:Int)+1).toNat 0))] _
   rw[e3]
   exact SubL.refl _
  ·simp only
   omega
  repeat(first|refine wDB ?_|refine awp_seq_k fun K hK=>?_|refine wN fun bx=>?_|(refine wH ?_;clear hK))
  exact⟨⟨(i+3,_,ad,cp),by simp only;omega,by simpa using ho⟩,wk,⟨0,rfl⟩,by simp only;omega⟩
 ·have hlt':¬(i:Int)+1<u.length:=by omega
  rw[unlR_end hlt,List.append_nil]at ho
  repeat(first|refine wDB ?_|refine awp_seq_k fun K hK=>?_|refine wN fun bx=>?_|(refine wH ?_;clear hK))
  refine r1 ?_
  rw[←ho]
  exact Sub.view _ _ _ _
theorem cbHas22:Callable Tryz.prog 148:=fun _ _=>by kernel_rfl
theorem has22_c (ns:List (List UInt8)) (w:List UInt8) (hl:ns.length≤1000000):PCalls Tryz.prog 148 [sl txtE 1 ns .view,.str w] (.bool (ns.contains w)):=by
 refine pcalls_of_awp tyok cbHas22 Tryz.func148 rfl rfl ?_
 repeat(first|refine wD ?_|refine awp_seq_k fun K hK=>?_|refine wN fun bx=>?_|(refine wH ?_;clear hK))
 refine awp_loop0 (ι:={i:Nat//i≤ns.length∧∀j,j<i→ns.getD j default≠w}) (fun i=>[(0,sl txtE 1 ns .view),(1,.str w),(5,.int .i64 i.1)])
  (fun _=>[]) (fun i=>ns.length-i.1) ⟨0,Nat.zero_le _,fun j hj=>absurd hj (by omega)⟩ wk ⟨0,rfl⟩ ?_
 rintro⟨i,hi,hn⟩
 simp only at hi hn ⊢
 by_cases hlt:i<ns.length
 ·have hlt':(i:Int)<ns.length:=by omega
  repeat(first|refine wDB ?_|refine awp_seq_k fun K hK=>?_|refine wN fun bx=>?_|(refine wH ?_;clear hK))
  refine awp_cond rfl (fun hb=>?_) (fun hb=>?_)
  ·have he:ns.getD i default=w:=beq_iff_eq.1 hb
   have hc:ns.contains w=true:=by
    rw[List.contains_eq_mem,decide_eq_true_eq,←he,getD_at hlt]
    exact List.getElem_mem hlt
   repeat(first|refine wDB ?_|refine awp_seq_k fun K hK=>?_|refine wN fun bx=>?_|(refine wH ?_;clear hK))
   refine r1 ?_
   exact Sub.of_eq (by rw[hc])
  ·have he:ns.getD i default≠w:=fun e=>by
    have hb':(ns.getD i default==w)=false:=hb
    rw[e]at hb'
    simp at hb'
   repeat(first|refine wDB ?_|refine awp_seq_k fun K hK=>?_|refine wN fun bx=>?_|(refine wH ?_;clear hK))
   refine⟨⟨i+1,hlt,fun j hj=>?_⟩,wk,⟨0,rfl⟩,by simp only;omega⟩
   by_cases e:j=i
   ·rw[e];exact he
   ·exact hn j (by omega)
 ·have hge:¬(i:Int)<ns.length:=by omega
  have hc:ns.contains w=false:=by
   rw[List.contains_eq_mem,decide_eq_false_iff_not]
   intro hm
   obtain⟨j,hj,e⟩:=List.getElem_of_mem hm
   exact hn j (by omega) (by rw[getD_at hj];exact e)
  repeat(first|refine wDB ?_|refine awp_seq_k fun K hK=>?_|refine wN fun bx=>?_|(refine wH ?_;clear hK))
  refine r1 ?_
  exact Sub.of_eq (by rw[hc])
def metV (o:Option (Int×Int×Int)):AV:=match o with
 |none=>.tuple [placeV 0 0,.int .i64 0]
 |some (l,c,e)=>.tuple [placeV l c,.int .i64 e]
theorem cbFr22:Callable Tryz.prog 124:=fun _ _=>by kernel_rfl
theorem fresh22_c (ns:List (List UInt8)) (t:TokI) (hl:ns.length≤1000000):PCalls Tryz.prog 124 [sl txtE 1 ns .view,.agg (tokEI t)] (metV (freshE ns t)):=by
 refine pcalls_of_awp tyok cbFr22 Tryz.func124 rfl rfl ?_
 have g:=has22_c ns t.w hl
 unfold freshE
 cases h:ns.contains t.w with
 |true=>
  rw[h]at g
  rw[if_pos rfl]
  ((repeat(first|refine wDB ?_|refine awp_seq_k fun K hK=>?_|refine qpc rfl rfl rfl (g) ?_|refine qpo rfl rfl rfl rfl rfl rfl (fun _=>g) ?_|(refine wH ?_;clear hK)));refine wN fun b3=>?_;(repeat(first|refine wDB ?_|refine awp_seq_k fun K hK=>?_|refine qpc rfl rfl rfl (g) ?_|refine qpo rfl rfl rfl rfl rfl rfl (fun _=>g) ?_|(refine wH ?_;clear hK)));refine wN fun b4=>?_;(repeat(first|refine wDB ?_|refine awp_seq_k fun K hK=>?_|refine wN fun bx=>?_|refine qpc rfl rfl rfl (g) ?_|refine qpo rfl rfl rfl rfl rfl rfl (fun _=>g) ?_|(refine wH ?_;clear hK))))
  exact fnQ_ret 2 rfl (.cell rfl rfl (List.Mem.head _) rfl trivial (.tmp rfl .nil)) (Sub.refl _) ⟨rfl,rfl⟩
 |false=>
  rw[h]at g
  rw[if_neg (by decide)]
  by_cases h2:40≤(ns.length:Int)
  ·rw[if_pos h2]
   ((repeat(first|refine wDB ?_|refine awp_seq_k fun K hK=>?_|refine qpc rfl rfl rfl (g) ?_|refine qpo rfl rfl rfl rfl rfl rfl (fun _=>g) ?_|(refine wH ?_;clear hK)));refine wN fun b3=>?_;(repeat(first|refine wDB ?_|refine awp_seq_k fun K hK=>?_|refine qpc rfl rfl rfl (g) ?_|refine qpo rfl rfl rfl rfl rfl rfl (fun _=>g) ?_|(refine wH ?_;clear hK)));refine wN fun b4=>?_;(repeat(first|refine wDB ?_|refine awp_seq_k fun K hK=>?_|refine wN fun bx=>?_|refine qpc rfl rfl rfl (g) ?_|refine qpo rfl rfl rfl rfl rfl rfl (fun _=>g) ?_|(refine wH ?_;clear hK))))
   exact fnQ_ret 2 rfl (.cell rfl rfl (List.Mem.head _) rfl trivial (.tmp rfl .nil)) (Sub.refl _) ⟨rfl,rfl⟩
  ·rw[if_neg h2]
   ((repeat(first|refine wDB ?_|refine awp_seq_k fun K hK=>?_|refine qpc rfl rfl rfl (g) ?_|refine qpo rfl rfl rfl rfl rfl rfl (fun _=>g) ?_|(refine wH ?_;clear hK)));refine wN fun b3=>?_;(repeat(first|refine wDB ?_|refine awp_seq_k fun K hK=>?_|refine qpc rfl rfl rfl (g) ?_|refine qpo rfl rfl rfl rfl rfl rfl (fun _=>g) ?_|(refine wH ?_;clear hK)));refine wN fun b4=>?_;(repeat(first|refine wDB ?_|refine awp_seq_k fun K hK=>?_|refine wN fun bx=>?_|refine qpc rfl rfl rfl (g) ?_|refine qpo rfl rfl rfl rfl rfl rfl (fun _=>g) ?_|(refine wH ?_;clear hK))))
   exact fnQ_ret 2 rfl (.cell rfl rfl (List.Mem.head _) rfl trivial (.tmp rfl .nil)) (Sub.refl _) ⟨rfl,rfl⟩
end Go.Proofs.YthfglhjdnpoepaaGreatDoor
namespace Go.Proofs.YthfglhjdnpoepaaGreatDoor
open Go.Ab
theorem argE_many {f:FigR} {A:List TokI} {ns:List (List UInt8)} {i:Nat} {t:TokI} (h:f.pts+f.nums≤(i:Int)):argE f A ns i t=13:=by
 unfold argE
 rw[if_pos h]
theorem argE_num {f:FigR} {A:List TokI} {ns:List (List UInt8)} {i:Nat} {t:TokI} (h:¬f.pts+f.nums≤(i:Int)) (h2:f.pts≤(i:Int)):
  argE f A ns i t=if t.k≠3 then 14 else if(i:Int)=f.pts+f.nums-1∧t.n=0 then 4 else 0:=by
 unfold argE
 rw[if_neg h,if_pos h2]
theorem argE_pt {f:FigR} {A:List TokI} {ns:List (List UInt8)} {i:Nat} {t:TokI} (h:¬f.pts+f.nums≤(i:Int)) (h2:¬f.pts≤(i:Int)):
  argE f A ns i t=if t.k≠1 then 14 else if ns.contains t.w=false then 5 else if f.unl.any (alike A i t.w)=true then 15 else 0:=by
 unfold argE
 rw[if_neg h,if_neg h2]
theorem any_hit {α:Type} [Inhabited α] {p:α→Bool} {l:List α} {k:Nat} (hk:k<l.length) (h:p (l.getD k default)=true):l.any p=true:=by
 rw[List.any_eq_true]
 exact⟨_,by rw[getD_at hk];exact List.getElem_mem hk,h⟩
theorem any_miss {α:Type} [Inhabited α] {p:α→Bool} {l:List α} (h:∀j,j<l.length→p (l.getD j default)=false):l.any p=false:=by
 rw[List.any_eq_false]
 intro x hx
 obtain⟨j,hj,e⟩:=List.getElem_of_mem hx
 have:=h j hj
 rw[getD_at hj,e]at this
 simp[this]
theorem cbArg22:Callable Tryz.prog 149:=fun _ _=>by kernel_rfl
theorem arg22_c (ns:List (List UInt8)) (x:StI) (r:RowR) (i:Nat) (hi:i<x.args.length) (hx:x.args.length≤10000000000000000) (hn:ns.length≤1000000) (hr:figOk (figOf r)=true) (hu:r.unl.length≤1000):
  PCalls Tryz.prog 149 [sl txtE 1 ns .view,.agg (stmtEI x),.agg (rowE r),.int .i64 i] (.int .i64 (argE (figOf r) x.args ns i (x.args.getD i default))):=by
 refine pcalls_of_awp tyok cbArg22 Tryz.func149 rfl rfl ?_
 obtain⟨f1,f2,f3,f4⟩:=figOk_b hr
 obtain⟨f5,f6⟩:=figOk_u hr
 simp only[figOf]at f1 f2 f3 f4 f5 f6
 have hi':(i:Int)<x.args.length:=by omega
 have gu:=unl22_c r.unl (by omega)
 ((repeat(first|refine wDB ?_|refine awp_seq_k fun K hK=>?_|(refine wH ?_;clear hK)));refine wN fun b5=>?_;(repeat(first|refine wDB ?_|refine awp_seq_k fun K hK=>?_|(refine wH ?_;clear hK)));refine wN fun b6=>?_;(repeat(first|refine wDB ?_|refine awp_seq_k fun K hK=>?_|(refine wH ?_;clear hK)));refine wN fun b9=>?_)
 (((repeat(first|refine wT ?_|refine wN fun bx=>?_)));(try refine wP ?_);repeat(refine wH ?_;clear hK))
 refine awp_boxSub [] (v':=.agg (tokEI (x.args.getD i default))) (Sub.of_eq rfl) ?_
 have gh:=has22_c ns (x.args.getD i default).w hn
 generalize x.args.getD i default=t at gh ⊢
 by_cases hA:r.pts+r.nums≤(i:Int)
 ·repeat(first|refine wDB ?_|refine awp_seq_k fun K hK=>?_|refine wN fun bx=>?_|(refine wH ?_;clear hK))
  refine r1 ?_
  exact Sub.of_eq (by rw[argE_many (f:=figOf r) hA])
 by_cases hB:r.pts≤(i:Int)
 ·by_cases hk:t.k=3
  ·by_cases hC:(i:Int)=r.pts+r.nums-1
   ·by_cases hN:t.n=0
    ·repeat(first|refine wDB ?_|refine awp_seq_k fun K hK=>?_|refine wN fun bx=>?_|(refine wH ?_;clear hK))
     refine r1 ?_
     exact Sub.of_eq (by rw[argE_num (f:=figOf r) hA hB,if_neg (by simpa using hk),if_pos ⟨hC,hN⟩])
    ·repeat(first|refine wDB ?_|refine awp_seq_k fun K hK=>?_|refine wN fun bx=>?_|(refine wH ?_;clear hK))
     refine r1 ?_
     exact Sub.of_eq (by rw[argE_num (f:=figOf r) hA hB,if_neg (by simpa using hk),if_neg (fun h=>hN h.2)])
   ·repeat(first|refine wDB ?_|refine awp_seq_k fun K hK=>?_|refine wN fun bx=>?_|(refine wH ?_;clear hK))
    refine r1 ?_
    exact Sub.of_eq (by rw[argE_num (f:=figOf r) hA hB,if_neg (by simpa using hk),if_neg (fun h=>hC h.1)])
  ·repeat(first|refine wDB ?_|refine awp_seq_k fun K hK=>?_|refine wN fun bx=>?_|(refine wH ?_;clear hK))
   refine r1 ?_
   exact Sub.of_eq (by rw[argE_num (f:=figOf r) hA hB,if_pos hk])
 by_cases hk:t.k=1
 rotate_left
 ·repeat(first|refine wDB ?_|refine awp_seq_k fun K hK=>?_|refine wN fun bx=>?_|(refine wH ?_;clear hK))
  refine r1 ?_
  exact Sub.of_eq (by rw[argE_pt (f:=figOf r) hA hB,if_pos hk])
 cases hc:ns.contains t.w with
 |false=>
  rw[hc]at gh
  repeat(first|refine wDB ?_|refine awp_seq_k fun K hK=>?_|refine wN fun bx=>?_|refine qpc rfl rfl rfl (gh) ?_|refine qpo rfl rfl rfl rfl rfl rfl (fun _=>gh) ?_|(refine wH ?_;clear hK))
  refine r1 ?_
  exact Sub.of_eq (by rw[argE_pt (f:=figOf r) hA hB,if_neg (by simpa using hk),if_pos hc])
 |true=>
  rw[hc]at gh
  repeat(first|refine wDB ?_|refine awp_seq_k fun K hK=>?_|refine wN fun bx=>?_|refine qpc rfl rfl rfl (gh) ?_|refine qpc rfl rfl rfl (gu) ?_|refine qpo rfl rfl rfl rfl rfl rfl (fun _=>gh) ?_|refine qpo rfl rfl rfl rfl rfl rfl (fun _=>gu) ?_|(refine wH ?_;clear hK))
  refine awp_loop0 (ι:={k:Nat//k≤(unlR r.unl).length∧∀j,j<k→alike x.args i t.w ((unlR r.unl).getD j default)=false})
   (fun k=>[(3,.int .i64 i),(5,.ptr b5 0),(9,.ptr b9 0),(10,sl pairE 2 (unlR r.unl) .view),(11,.int .i64 k.1)])
   (fun _=>[.box b9 114 (.agg (tokEI t)),.box b6 85 (.agg (rowE r)),.box b5 117 (.agg (stmtEI x))]) (fun k=>(unlR r.unl).length-k.1) ⟨0,Nat.zero_le _,fun j hj=>absurd hj (by omega)⟩ wk ⟨0,rfl⟩ ?_
  rintro⟨k,hkl,hno⟩
  simp only at hkl hno ⊢
  by_cases hlt:k<(unlR r.unl).length
  ·have hlt':(k:Int)<(unlR r.unl).length:=by omega
   have u0:0≤((unlR r.unl).getD ((k:Int)).toNat default).1:=(f6 k hlt).1
   have u1:((unlR r.unl).getD ((k:Int)).toNat default).1<((unlR r.unl).getD ((k:Int)).toNat default).2:=(f6 k hlt).2
   repeat(first|refine wDB ?_|refine awp_seq_k fun K hK=>?_|refine wN fun bx=>?_|(refine wH ?_;clear hK))
   refine qiaR tyok ?_
   by_cases hq:((unlR r.unl).getD ((k:Int)).toNat default).2=(i:Int)
   ·have ea:alike x.args i t.w ((unlR r.unl).getD k default)=((x.args.getD ((unlR r.unl).getD k default).1.toNat default).w==t.w):=by
     unfold alike
     rw[decide_eq_true (show((unlR r.unl).getD k default).2=(i:Int) from hq),Bool.true_and]
    repeat(first|refine wDB ?_|refine awp_seq_k fun K hK=>?_|refine wN fun bx=>?_|(refine wH ?_;clear hK))
    refine qiaR tyok ?_
    repeat(first|refine wDB ?_|refine awp_seq_k fun K hK=>?_|refine wN fun bx=>?_|(refine wH ?_;clear hK))
    refine awp_cond rfl (fun hb=>?_) (fun hb=>?_)
    ·have ha:(figOf r).unl.any (alike x.args i t.w)=true:=any_hit hlt (by rw[show(figOf r).unl=unlR r.unl from rfl,ea];exact hb)
     repeat(first|refine wDB ?_|refine awp_seq_k fun K hK=>?_|refine wN fun bx=>?_|(refine wH ?_;clear hK))
     refine r1 ?_
     exact Sub.of_eq (by rw[argE_pt (f:=figOf r) hA hB,if_neg (by simpa using hk),if_neg (by rw[hc];decide),if_pos ha])
    ·repeat(first|refine wDB ?_|refine awp_seq_k fun K hK=>?_|refine wN fun bx=>?_|(refine wH ?_;clear hK))
     refine⟨⟨k+1,hlt,fun j hj=>?_⟩,wk,⟨0,rfl⟩,by simp only;omega⟩
     by_cases e:j=k
     ·rw[e,ea];exact hb
     ·exact hno j (by omega)
   ·repeat(first|refine wDB ?_|refine awp_seq_k fun K hK=>?_|refine wN fun bx=>?_|(refine wH ?_;clear hK))
    refine⟨⟨k+1,hlt,fun j hj=>?_⟩,wk,⟨0,rfl⟩,by simp only;omega⟩
    by_cases e:j=k
    ·rw[e]
     unfold alike
     rw[decide_eq_false (show¬((unlR r.unl).getD k default).2=(i:Int) from hq)]
     rfl
    ·exact hno j (by omega)
  ·have hge:¬(k:Int)<(unlR r.unl).length:=by omega
   have ha:(figOf r).unl.any (alike x.args i t.w)=false:=any_miss fun j hj=>hno j (by
    have:j<(unlR r.unl).length:=hj
    omega)
   repeat(first|refine wDB ?_|refine awp_seq_k fun K hK=>?_|refine wN fun bx=>?_|(refine wH ?_;clear hK))
   refine r1 ?_
   exact Sub.of_eq (by rw[argE_pt (f:=figOf r) hA hB,if_neg (by simpa using hk),if_neg (by rw[hc];decide),if_neg (by rw[ha];decide)])
theorem argsE_cons (f:FigR) (A:List TokI) (el ec:Int) (ns:List (List UInt8)) (i:Nat) (t:TokI) (l:List TokI):argsE f A el ec ns i (t::l)=if argE f A ns i t≠0 then some (t.ln,t.co,argE f A ns i t) else argsE f A el ec ns (i+1) l:=rfl
theorem argsE_nil (f:FigR) (A:List TokI) (el ec:Int) (ns:List (List UInt8)) (i:Nat):argsE f A el ec ns i []=if(A.length:Int)<f.pts+f.nums then some (el,ec,13) else none:=rfl
theorem cbArgs22:Callable Tryz.prog 125:=fun _ _=>by kernel_rfl
theorem args22_c (ns:List (List UInt8)) (x:StI) (r:RowR) (hx:x.args.length≤10000000000000000) (hn:ns.length≤1000000) (hr:figOk (figOf r)=true) (hu:r.unl.length≤1000):
  PCalls Tryz.prog 125 [sl txtE 1 ns .view,.agg (stmtEI x),.agg (rowE r)] (metV (argsE (figOf r) x.args x.l2 x.c2 ns 0 x.args)):=by
 refine pcalls_of_awp tyok cbArgs22 Tryz.func125 rfl rfl ?_
 obtain⟨f1,f2,f3,f4⟩:=figOk_b hr
 simp only[figOf]at f1 f2 f3 f4
 ((repeat(first|refine wD ?_|refine awp_seq_k fun K hK=>?_|(refine wH ?_;clear hK)));refine wN fun b4=>?_;(repeat(first|refine wD ?_|refine awp_seq_k fun K hK=>?_|(refine wH ?_;clear hK)));refine wN fun b5=>?_;(repeat(first|refine wD ?_|refine awp_seq_k fun K hK=>?_|(refine wH ?_;clear hK)));refine wN fun b6=>?_;(repeat(first|refine wD ?_|refine awp_seq_k fun K hK=>?_|refine wN fun bx=>?_|(refine wH ?_;clear hK))))
 refine awp_loop0 (ι:={i:Nat//i≤x.args.length∧argsE (figOf r) x.args x.l2 x.c2 ns i (x.args.drop i)=argsE (figOf r) x.args x.l2 x.c2 ns 0 x.args})
  (fun i=>[(0,sl txtE 1 ns .view),(4,.ptr b4 0),(5,.ptr b5 0),(6,.ptr b6 0),(8,.int .i64 i.1)])
  (fun _=>[.box b6 112 (placeV 0 0),.box b5 85 (.agg (rowE r)),.box b4 117 (.agg (stmtEI x))]) (fun i=>x.args.length-i.1) ⟨0,Nat.zero_le _,rfl⟩ wk ⟨0,rfl⟩ ?_
 rintro⟨i,hi,ha⟩
 simp only at hi ha ⊢
 by_cases hlt:i<x.args.length
 ·have hlt':(i:Int)<x.args.length:=by omega
  rw[List.drop_eq_getElem_cons hlt,←getD_at hlt,argsE_cons]at ha
  have g:=arg22_c ns x r i hlt hx hn hr hu
  have e1:x.args.getD ((i:Int)).toNat default=x.args.getD i default:=rfl
  by_cases h0:argE (figOf r) x.args ns i (x.args.getD i default)=0
  ·rw[if_neg (by simpa using h0)]at ha
   repeat(first|refine wDB ?_|refine awp_seq_k fun K hK=>?_|refine wN fun bx=>?_|refine qpc rfl rfl rfl (g) ?_|refine qpo rfl rfl rfl rfl rfl rfl (fun _=>g) ?_|(refine wH ?_;clear hK))
   exact⟨⟨i+1,hlt,ha⟩,wk,⟨0,rfl⟩,by simp only;omega⟩
  ·rw[if_pos h0]at ha
   repeat(first|refine wDB ?_|refine awp_seq_k fun K hK=>?_|refine wN fun bx=>?_|refine qpc rfl rfl rfl (g) ?_|refine qpo rfl rfl rfl rfl rfl rfl (fun _=>g) ?_|(refine wH ?_;clear hK))
   refine fnQ_ret 3 rfl (.cell rfl rfl (List.Mem.head _) rfl trivial (.tmp rfl .nil)) ?_ ⟨rfl,rfl⟩
   rw[←ha]
   exact Sub.refl _
 ·have hge:¬(i:Int)<x.args.length:=by omega
  obtain rfl:i=x.args.length:=by omega
  rw[List.drop_length,argsE_nil]at ha
  by_cases hs:(x.args.length:Int)<r.pts+r.nums
  ·rw[if_pos (show(x.args.length:Int)<(figOf r).pts+(figOf r).nums from hs)]at ha
   repeat(first|refine wDB ?_|refine awp_seq_k fun K hK=>?_|refine wN fun bx=>?_|(refine wH ?_;clear hK))
   refine fnQ_ret 3 rfl (.cell rfl rfl (List.Mem.head _) rfl trivial (.tmp rfl .nil)) ?_ ⟨rfl,rfl⟩
   rw[←ha]
   exact Sub.refl _
  ·rw[if_neg (show¬(x.args.length:Int)<(figOf r).pts+(figOf r).nums from hs)]at ha
   repeat(first|refine wDB ?_|refine awp_seq_k fun K hK=>?_|refine wN fun bx=>?_|(refine wH ?_;clear hK))
   refine fnQ_ret 3 rfl (.cell rfl rfl (List.Mem.head _) rfl trivial (.tmp rfl .nil)) ?_ ⟨rfl,rfl⟩
   rw[←ha]
   exact Sub.refl _
theorem argE_tells {r:RowR} {f:FigR} (h:Tells r f) (A:List TokI) (ns:List (List UInt8)) (i:Nat) (t:TokI):argE f A ns i t=argE (figOf r) A ns i t:=by
 unfold argE
 rw[h.pts,h.nums,h.unl]
 rfl
theorem argsE_tells {r:RowR} {f:FigR} (h:Tells r f) (A:List TokI) (el ec:Int) (ns:List (List UInt8)):∀(l:List TokI) (i:Nat),argsE f A el ec ns i l=argsE (figOf r) A el ec ns i l
 |[],i=>by
  rw[argsE_nil,argsE_nil,h.pts,h.nums]
  rfl
 |t::l,i=>by
  rw[argsE_cons,argsE_cons,argE_tells h,argsE_tells h A el ec ns l (i+1)]
end Go.Proofs.YthfglhjdnpoepaaGreatDoor
namespace Go.Proofs.YthfglhjdnpoepaaGreatDoor
open Go.Ab
theorem cbMay22:Callable Tryz.prog 147:=fun _ _=>by kernel_rfl
theorem may22_c (a b c d:Int):PCalls Tryz.prog 147 [.agg [.int .i64 a,.int .i64 b,.int .i64 c,.int .i64 d]] (.bool (limOk a b c d)):=by
 refine pcalls_of_awp tyok cbMay22 Tryz.func147 rfl rfl ?_
 ((repeat(first|refine wD ?_|refine awp_seq_k fun K hK=>?_|(refine wH ?_;clear hK)));refine wN fun b1=>?_;(repeat(first|refine wD ?_|refine awp_seq_k fun K hK=>?_|refine wN fun bx=>?_|(refine wH ?_;clear hK))))
 refine r1 ?_
 refine Sub.of_eq (congrArg AV.bool ?_)
 rw[Bool.eq_iff_iff]
 simp only[limOk,Bool.and_eq_true,decide_eq_true_eq,ge_iff_le]
 omega
def limV (x:StI):AV:=match x.args with
 |[a,b,c,d]=>if x.k=1 then .agg [.int .i64 a.n,.int .i64 b.n,.int .i64 c.n,.int .i64 d.n] else .agg [.int .i64 0,.int .i64 0,.int .i64 0,.int .i64 0]
 |_=>.agg [.int .i64 0,.int .i64 0,.int .i64 0,.int .i64 0]
theorem limV_no {x:StI} (h:¬(x.k=1∧x.args.length=4)):limV x=.agg [.int .i64 0,.int .i64 0,.int .i64 0,.int .i64 0]:=by
 unfold limV
 split
 ·rename_i e
  rw[if_neg fun hk=>h ⟨hk,by rw[e];rfl⟩]
 ·rfl
theorem cbLim22:Callable Tryz.prog 123:=fun _ _=>by kernel_rfl
theorem limits22_c (x:StI):PCalls Tryz.prog 123 [.agg (stmtEI x)] (.tuple [limV x,.bool (decide (x.k=1)&&limB x.args)]):=by
 refine pcalls_of_awp tyok cbLim22 Tryz.func123 rfl rfl ?_
 by_cases hk:x.k=1
 ·by_cases hl:x.args.length=4
  ·obtain⟨k,new,word,args,l1,c1,l2,c2⟩:=x
   simp only at hk hl ⊢
   subst hk
   match args,hl with
   |[a,b,c,d],_=>
    have g:=may22_c a.n b.n c.n d.n
    have h4:(([a,b,c,d]:List TokI).length:Int)=4:=rfl
    ((repeat(first|refine wKB ?_|refine awp_seq_k fun K hK=>?_|(refine wH ?_;clear hK)));refine wN fun b1=>?_;(repeat(first|refine wKB ?_|refine awp_seq_k fun K hK=>?_|(refine wH ?_;clear hK)));refine wN fun b2=>?_;(repeat(first|refine wKB ?_|refine awp_seq_k fun K hK=>?_|refine wN fun bx=>?_|(refine wH ?_;clear hK))))
    refine areg_kept mixed tyok [(21,[])] [0,1,2,3,4,5,6,7,8,9,10,11,12,13,14,15,16,17,18,19,20,21,22] (by decide +kernel) ?_
    ((repeat(first|refine wKB ?_|refine awp_seq_k fun K hK=>?_|refine qpc rfl rfl rfl (g) ?_|refine qpo rfl rfl rfl rfl rfl rfl (fun _=>g) ?_|(refine wH ?_;clear hK)));refine wN fun b4=>?_;(repeat(first|refine wKB ?_|refine awp_seq_k fun K hK=>?_|refine wN fun bx=>?_|refine qpc rfl rfl rfl (g) ?_|refine qpo rfl rfl rfl rfl rfl rfl (fun _=>g) ?_|(refine wH ?_;clear hK))))
    refine areg_kept mixed tyok [(2,[])] [0,1,2,3,4] (by decide +kernel) ?_
    repeat(first|refine wDB ?_|refine awp_seq_k fun K hK=>?_|refine wN fun bx=>?_|refine qpc rfl rfl rfl (g) ?_|refine qpo rfl rfl rfl rfl rfl rfl (fun _=>g) ?_|(refine wH ?_;clear hK))
    exact fnQ_ret 3 rfl (.cell rfl rfl (List.Mem.tail _ (List.Mem.head _)) rfl trivial (.tmp rfl .nil)) (Sub.of_eq rfl) ⟨rfl,rfl⟩
  ·have hl':¬(x.args.length:Int)=4:=by omega
   ((repeat(first|refine wDB ?_|refine awp_seq_k fun K hK=>?_|(refine wH ?_;clear hK)));refine wN fun b1=>?_;(repeat(first|refine wDB ?_|refine awp_seq_k fun K hK=>?_|(refine wH ?_;clear hK)));refine wN fun b2=>?_;(repeat(first|refine wDB ?_|refine awp_seq_k fun K hK=>?_|refine wN fun bx=>?_|(refine wH ?_;clear hK))))
   refine fnQ_ret 2 rfl (.cell rfl rfl (List.Mem.head _) rfl trivial (.tmp rfl .nil)) (Sub.of_eq ?_) ⟨rfl,rfl⟩
   rw[limV_no (fun h=>hl h.2),limB_len hl,Bool.and_false]
   rfl
 ·((repeat(first|refine wDB ?_|refine awp_seq_k fun K hK=>?_|(refine wH ?_;clear hK)));refine wN fun b1=>?_;(repeat(first|refine wDB ?_|refine awp_seq_k fun K hK=>?_|(refine wH ?_;clear hK)));refine wN fun b2=>?_;(repeat(first|refine wDB ?_|refine awp_seq_k fun K hK=>?_|refine wN fun bx=>?_|(refine wH ?_;clear hK))))
  refine fnQ_ret 2 rfl (.cell rfl rfl (List.Mem.head _) rfl trivial (.tmp rfl .nil)) (Sub.of_eq ?_) ⟨rfl,rfl⟩
  rw[limV_no (fun h=>hk h.1),decide_eq_false hk]
  rfl
theorem cbPlc22:Callable Tryz.prog 96:=fun _ _=>by kernel_rfl
theorem place22_c (x:StI) (i n:Nat) (hn:n≤10000000000000000):PCalls Tryz.prog 96 [.agg (stmtEI x),.int .i64 i,.int .i64 n] (.bool (placeB n i x)):=by
 refine pcalls_of_awp tyok cbPlc22 Tryz.func96 rfl rfl ?_
 have g:=limits22_c x
 by_cases h0:i=0
 ·have ep:placeB n i x=(decide (x.k=1)&&limB x.args):=by unfold placeB;rw[if_pos h0]
  rw[ep]
  obtain⟨l1,l2,l3,l4,hv⟩:∃l1 l2 l3 l4:Int,limV x=.agg [.int .i64 l1,.int .i64 l2,.int .i64 l3,.int .i64 l4]:=by
   unfold limV
   split
   ·split<;>exact⟨_,_,_,_,rfl⟩
   ·exact⟨_,_,_,_,rfl⟩
  rw[hv]at g
  ((repeat(first|refine wDB ?_|refine awp_seq_k fun K hK=>?_|refine qpc rfl rfl rfl (g) ?_|refine qpo rfl rfl rfl rfl rfl rfl (fun _=>g) ?_|(refine wH ?_;clear hK)));refine wN fun b3=>?_;(repeat(first|refine wDB ?_|refine awp_seq_k fun K hK=>?_|refine qpc rfl rfl rfl (g) ?_|refine qpo rfl rfl rfl rfl rfl rfl (fun _=>g) ?_|(refine wH ?_;clear hK)));refine wN fun b7=>?_;(repeat(first|refine wDB ?_|refine awp_seq_k fun K hK=>?_|refine wN fun bx=>?_|refine qpc rfl rfl rfl (g) ?_|refine qpo rfl rfl rfl rfl rfl rfl (fun _=>g) ?_|(refine wH ?_;clear hK))))
  refine r1 ?_
  exact Sub.refl _
 by_cases h1:i=1
 ·have ep:placeB n i x=(x.k==2&&(x.word.w==wSimple || x.word.w==wFull)):=by unfold placeB;rw[if_neg h0,if_pos h1];rfl
  rw[ep]
  ((repeat(first|refine wDB ?_|refine awp_seq_k fun K hK=>?_|(refine wH ?_;clear hK)));refine wN fun b3=>?_;(repeat(first|refine wDB ?_|refine awp_seq_k fun K hK=>?_|refine wN fun bx=>?_|(refine wH ?_;clear hK))))
  refine r1 ?_
  exact Sub.refl _
 by_cases hin:i+1=n
 ·have ep:placeB n i x=(x.k==5):=by unfold placeB;rw[if_neg h0,if_neg h1,if_pos hin];rfl
  rw[ep]
  ((repeat(first|refine wDB ?_|refine awp_seq_k fun K hK=>?_|(refine wH ?_;clear hK)));refine wN fun b3=>?_;(repeat(first|refine wDB ?_|refine awp_seq_k fun K hK=>?_|refine wN fun bx=>?_|(refine wH ?_;clear hK))))
  refine r1 ?_
  exact Sub.refl _
 ·have ep:placeB n i x=(x.k==3 || x.k==4):=by unfold placeB;rw[if_neg h0,if_neg h1,if_neg hin];rfl
  rw[ep]
  ((repeat(first|refine wDB ?_|refine awp_seq_k fun K hK=>?_|(refine wH ?_;clear hK)));refine wN fun b3=>?_;(repeat(first|refine wDB ?_|refine awp_seq_k fun K hK=>?_|refine wN fun bx=>?_|(refine wH ?_;clear hK))))
  refine r1 ?_
  exact Sub.refl _
def oneV (x:(Int×Int×Int) ⊕ List (List UInt8)):AV:=match x with
 |.inl (l,c,e)=>.tuple [sl txtE 1 [] .view,placeV l c,.int .i64 e]
 |.inr ns=>.tuple [sl txtE 1 ns .view,placeV 0 0,.int .i64 0]
theorem freshE_len {ns:List (List UInt8)} {t:TokI} (h:freshE ns t=none):ns.length<40:=by
 unfold freshE at h
 split at h
 ·cases h
 split at h
 ·cases h
 ·omega
theorem ptsE_cons (ns:List (List UInt8)) (t:TokI) (l:List TokI):ptsE ns (t::l)=match freshE ns t with
  |some p=>.inl p
  |none=>ptsE (ns++[t.w]) l:=rfl
theorem cbOne22:Callable Tryz.prog 97:=fun _ _=>by kernel_rfl
theorem one22_c (ns:List (List UInt8)) (x:StI) (hx:x.args.length≤10000000000000000) (hn:ns.length≤40):
  PCalls Tryz.prog 97 [sl txtE 1 ns .view,.agg (stmtEI x)] (oneV (oneE ns x)):=by
 refine pcalls_of_awp tyok cbOne22 Tryz.func97 rfl rfl ?_
 ((repeat(first|refine wD ?_|refine awp_seq_k fun K hK=>?_|(refine wH ?_;clear hK)));refine wN fun b3=>?_;(repeat(first|refine wD ?_|refine awp_seq_k fun K hK=>?_|(refine wH ?_;clear hK)));refine wN fun b5=>?_;(repeat(first|refine wD ?_|refine awp_seq_k fun K hK=>?_|refine wN fun bx=>?_|(refine wH ?_;clear hK))))
 refine TR.appendF tyok (fun ad cp=>sl txtE 1 ns (.own ad cp)) rfl rfl rfl rfl True.intro rfl rfl rfl rfl rfl rfl rfl rfl rfl ?_ (fun ad cp=>?_) fun a cap=>?_
 ·simp only
  omega
 ·exact glue_slS txtE 1 [] ns _ (fun i hi=>SubL.refl _) _
 rw[show(0:Nat)+ns.length=ns.length from Nat.zero_add _]
 by_cases h3:x.k=3
 ·have eo:oneE ns x=if x.args.length=0 then .inl (x.l2,x.c2,13) else ptsE ns x.args:=by
   unfold oneE
   rw[if_pos h3]
  by_cases h0:x.args.length=0
  ·have h0':(x.args.length:Int)=0:=by omega
   repeat(first|refine wDB ?_|refine awp_seq_k fun K hK=>?_|refine wN fun bx=>?_|(refine wH ?_;clear hK))
   refine fnQ_ret 3 rfl (.tmp rfl (.cell rfl rfl (List.Mem.tail _ (List.Mem.head _)) rfl trivial (.tmp rfl .nil))) ?_ ⟨rfl,rfl⟩
   rw[eo,if_pos h0]
   exact Sub.tuple3 (Sub.nilsv _ _) (Sub.refl _) (Sub.refl _)
  have h0':¬(x.args.length:Int)=0:=by omega
  rw[if_neg h0]at eo
  repeat(first|refine wDB ?_|refine awp_seq_k fun K hK=>?_|refine wN fun bx=>?_|(refine wH ?_;clear hK))
  refine awp_loop0 (ι:={y:Nat×List (List UInt8)×Option Addr×Nat//y.1≤x.args.length∧y.2.1.length≤40∧ptsE y.2.1 (x.args.drop y.1)=ptsE ns x.args})
   (fun y=>[(3,.ptr b3 0),(5,.ptr b5 0),(7,sl txtE 1 y.1.2.1 (.own y.1.2.2.1 y.1.2.2.2)),(8,.int .i64 y.1.1)])
   (fun y=>[.tok y.1.2.2.1 y.1.2.2.2 y.1.2.1.length 1 9,.box b5 112 (placeV 0 0),.box b3 117 (.agg (stmtEI x))]) (fun y=>x.args.length-y.1.1) ⟨(0,ns,a,cap),Nat.zero_le _,hn,rfl⟩ wk ⟨0,rfl⟩ ?_
  rintro⟨⟨i,out,a1,c1⟩,hi,ho,hp⟩
  simp only at hi ho hp ⊢
  by_cases hlt:i<x.args.length
  ·have hlt':(i:Int)<x.args.length:=by omega
   rw[List.drop_eq_getElem_cons hlt,←getD_at hlt,ptsE_cons]at hp
   have e1:x.args.getD ((i:Int)).toNat default=x.args.getD i default:=rfl
   have g:=fresh22_c out (x.args.getD i default) (by omega)
   cases hfe:freshE out (x.args.getD i default)with
   |some q=>
    obtain⟨l,c,e⟩:=q
    have hne:=freshE_ne hfe
    rw[hfe]at g hp
    simp only[metV]at g hp
    ((repeat(first|refine wDB ?_|refine awp_seq_k fun K hK=>?_|refine qpc rfl rfl rfl (PCalls.sub g (.cons (Sub.view _ _ _ _) (SubL.refl _))) ?_|refine qpo rfl rfl rfl rfl rfl rfl (fun _=>PCalls.sub g (.cons (Sub.view _ _ _ _) (SubL.refl _))) ?_|(refine wH ?_;clear hK)));refine wN fun b9=>?_;(repeat(first|refine wDB ?_|refine awp_seq_k fun K hK=>?_|refine wN fun bx=>?_|refine qpc rfl rfl rfl (PCalls.sub g (.cons (Sub.view _ _ _ _) (SubL.refl _))) ?_|refine qpo rfl rfl rfl rfl rfl rfl (fun _=>PCalls.sub g (.cons (Sub.view _ _ _ _) (SubL.refl _))) ?_|(refine wH ?_;clear hK))))
    refine fnQ_ret 4 rfl (.tmp rfl (.cell rfl rfl (b:=b5) (List.mem_of_getElem? (i:=2) rfl) rfl trivial (.tmp rfl .nil))) ?_ ⟨rfl,rfl⟩
    rw[eo,←hp]
    exact Sub.tuple3 (Sub.nilsv _ _) (Sub.refl _) (Sub.refl _)
   |none=>
    have hlen:=freshE_len hfe
    rw[hfe]at g hp
    simp only[metV]at g hp
    ((repeat(first|refine wDB ?_|refine awp_seq_k fun K hK=>?_|refine qpc rfl rfl rfl (PCalls.sub g (.cons (Sub.view _ _ _ _) (SubL.refl _))) ?_|refine qpo rfl rfl rfl rfl rfl rfl (fun _=>PCalls.sub g (.cons (Sub.view _ _ _ _) (SubL.refl _))) ?_|(refine wH ?_;clear hK)));refine wN fun b9=>?_;(repeat(first|refine wDB ?_|refine awp_seq_k fun K hK=>?_|refine wN fun bx=>?_|refine qpc rfl rfl rfl (PCalls.sub g (.cons (Sub.view _ _ _ _) (SubL.refl _))) ?_|refine qpo rfl rfl rfl rfl rfl rfl (fun _=>PCalls.sub g (.cons (Sub.view _ _ _ _) (SubL.refl _))) ?_|(refine wH ?_;clear hK))))
    refine qapp tyok txtE out (x.args.getD i default).w (SubL.refl _) ?_ fun ad cp=>?_
    ·simp only
     omega
    repeat(first|refine wDB ?_|refine awp_seq_k fun K hK=>?_|refine wN fun bx=>?_|(refine wH ?_;clear hK))
    exact⟨⟨(i+1,_,ad,cp),hlt,by simp only[List.length_append,List.length_cons,List.length_nil];omega,hp⟩,wk,⟨1,rfl⟩,by simp only;omega⟩
  ·have hge:¬(i:Int)<x.args.length:=by omega
   obtain rfl:i=x.args.length:=by omega
   rw[List.drop_length]at hp
   simp only[ptsE]at hp
   repeat(first|refine wDB ?_|refine awp_seq_k fun K hK=>?_|refine wN fun bx=>?_|(refine wH ?_;clear hK))
   refine fnQ_ret 3 rfl (.tmp rfl (.cell rfl rfl (b:=b5) (List.mem_of_getElem? (i:=1) rfl) rfl trivial (.tmp rfl .nil))) ?_ ⟨rfl,rfl⟩
   rw[eo,←hp]
   exact Sub.tuple3 (Sub.view _ _ _ _) (Sub.refl _) (Sub.refl _)
 by_cases h4:x.k=4
 ·have g:=fresh22_c ns x.new (by omega)
  have eo:oneE ns x=match freshE ns x.new with
   |some p=>.inl p
   |none=>match conF x.word.w with
    |none=>.inl (x.word.ln,x.word.co,5)
    |some f=>match argsE f x.args x.l2 x.c2 ns 0 x.args with
     |some p=>.inl p
     |none=>.inr (ns++[x.new.w]):=by
   unfold oneE
   rw[if_neg h3,if_pos h4]
   all_goals
    cases freshE ns x.new with
    |some p=>rfl
    |none=>
     cases conF x.word.w with
     |none=>rfl
     |some f=>
      simp only
      cases argsE f x.args x.l2 x.c2 ns 0 x.args<;>rfl
  cases hfe:freshE ns x.new with
  |some q=>
   obtain⟨l,c,e⟩:=q
   have hne:=freshE_ne hfe
   rw[hfe]at g eo
   simp only[metV]at g eo
   ((repeat(first|refine wDB ?_|refine awp_seq_k fun K hK=>?_|refine qpc rfl rfl rfl (PCalls.sub g (.cons (Sub.view _ _ _ _) (SubL.refl _))) ?_|refine qpo rfl rfl rfl rfl rfl rfl (fun _=>PCalls.sub g (.cons (Sub.view _ _ _ _) (SubL.refl _))) ?_|(refine wH ?_;clear hK)));refine wN fun b11=>?_;(repeat(first|refine wDB ?_|refine awp_seq_k fun K hK=>?_|refine wN fun bx=>?_|refine qpc rfl rfl rfl (PCalls.sub g (.cons (Sub.view _ _ _ _) (SubL.refl _))) ?_|refine qpo rfl rfl rfl rfl rfl rfl (fun _=>PCalls.sub g (.cons (Sub.view _ _ _ _) (SubL.refl _))) ?_|(refine wH ?_;clear hK))))
   refine fnQ_ret 4 rfl (.tmp rfl (.cell rfl rfl (b:=b5) (List.mem_of_getElem? (i:=2) rfl) rfl trivial (.tmp rfl .nil))) ?_ ⟨rfl,rfl⟩
   rw[eo]
   exact Sub.tuple3 (Sub.nilsv _ _) (Sub.refl _) (Sub.refl _)
  |none=>
   have hlen:=freshE_len hfe
   rw[hfe]at g eo
   simp only[metV]at g eo
   have gf:=find22_c made22 x.word.w made22_len
   ((repeat(first|refine wKB ?_|refine awp_seq_k fun K hK=>?_|refine qpc rfl rfl rfl (PCalls.sub g (.cons (Sub.view _ _ _ _) (SubL.refl _))) ?_|refine qpo rfl rfl rfl rfl rfl rfl (fun _=>PCalls.sub g (.cons (Sub.view _ _ _ _) (SubL.refl _))) ?_|(refine wH ?_;clear hK)));refine wN fun b11=>?_;(repeat(first|refine wKB ?_|refine awp_seq_k fun K hK=>?_|refine wN fun bx=>?_|refine qpc rfl rfl rfl (PCalls.sub g (.cons (Sub.view _ _ _ _) (SubL.refl _))) ?_|refine qpo rfl rfl rfl rfl rfl rfl (fun _=>PCalls.sub g (.cons (Sub.view _ _ _ _) (SubL.refl _))) ?_|(refine wH ?_;clear hK))))
   refine areg_soft mixed tyok [0,4] [(8,[])] [0,1,2,3,4,5,6,7,8,9,10] (by decide +kernel) ?_
   rcases con_row x.word.w with⟨r1,r2⟩|⟨r,f,r1,r2,ht,hfo,hru⟩
   ·rw[r1]at gf
    rw[r2]at eo
    simp only at eo
    ((repeat(first|refine wDB ?_|refine awp_seq_k fun K hK=>?_|refine qpc rfl rfl rfl (made22_c) ?_|refine qpc rfl rfl rfl (gf) ?_|refine qpo rfl rfl rfl rfl rfl rfl (fun _=>made22_c) ?_|refine qpo rfl rfl rfl rfl rfl rfl (fun _=>gf) ?_|(refine wH ?_;clear hK)));refine wN fun b13=>?_;(repeat(first|refine wDB ?_|refine awp_seq_k fun K hK=>?_|refine wN fun bx=>?_|refine qpc rfl rfl rfl (made22_c) ?_|refine qpc rfl rfl rfl (gf) ?_|refine qpo rfl rfl rfl rfl rfl rfl (fun _=>made22_c) ?_|refine qpo rfl rfl rfl rfl rfl rfl (fun _=>gf) ?_|(refine wH ?_;clear hK))))
    refine fnQ_ret 5 rfl (.tmp rfl (.cell rfl rfl (b:=b5) (List.mem_of_getElem? (i:=3) rfl) rfl trivial (.tmp rfl .nil))) ?_ ⟨rfl,rfl⟩
    rw[eo]
    exact Sub.tuple3 (Sub.nilsv _ _) (Sub.refl _) (Sub.refl _)
   ·rw[r1]at gf
    rw[r2]at eo
    simp only[rowD,argsE_tells ht]at gf eo
    have ga:=args22_c ns x r hx (by omega) hfo hru
    cases hae:argsE (figOf r) x.args x.l2 x.c2 ns 0 x.args with
    |some q=>
     obtain⟨l,c,e⟩:=q
     have hne:=argsE_ne hae
     rw[hae]at ga eo
     simp only[metV]at ga eo
     ((repeat(first|refine wDB ?_|refine awp_seq_k fun K hK=>?_|refine qpc rfl rfl rfl (made22_c) ?_|refine qpc rfl rfl rfl (gf) ?_|refine qpc rfl rfl rfl (PCalls.sub ga (.cons (Sub.view _ _ _ _) (SubL.refl _))) ?_|refine qpo rfl rfl rfl rfl rfl rfl (fun _=>made22_c) ?_|refine qpo rfl rfl rfl rfl rfl rfl (fun _=>gf) ?_|refine qpo rfl rfl rfl rfl rfl rfl (fun _=>PCalls.sub ga (.cons (Sub.view _ _ _ _) (SubL.refl _))) ?_|(refine wH ?_;clear hK)));refine wN fun b13=>?_;(repeat(first|refine wDB ?_|refine awp_seq_k fun K hK=>?_|refine wN fun bx=>?_|refine qpc rfl rfl rfl (made22_c) ?_|refine qpc rfl rfl rfl (gf) ?_|refine qpc rfl rfl rfl (PCalls.sub ga (.cons (Sub.view _ _ _ _) (SubL.refl _))) ?_|refine qpo rfl rfl rfl rfl rfl rfl (fun _=>made22_c) ?_|refine qpo rfl rfl rfl rfl rfl rfl (fun _=>gf) ?_|refine qpo rfl rfl rfl rfl rfl rfl (fun _=>PCalls.sub ga (.cons (Sub.view _ _ _ _) (SubL.refl _))) ?_|(refine wH ?_;clear hK))))
     refine fnQ_ret 5 rfl (.tmp rfl (.cell rfl rfl (b:=b5) (List.mem_of_getElem? (i:=3) rfl) rfl trivial (.tmp rfl .nil))) ?_ ⟨rfl,rfl⟩
     rw[eo]
     exact Sub.tuple3 (Sub.nilsv _ _) (Sub.refl _) (Sub.refl _)
    |none=>
     rw[hae]at ga eo
     simp only[metV]at ga eo
     ((repeat(first|refine wDB ?_|refine awp_seq_k fun K hK=>?_|refine qpc rfl rfl rfl (made22_c) ?_|refine qpc rfl rfl rfl (gf) ?_|refine qpc rfl rfl rfl (PCalls.sub ga (.cons (Sub.view _ _ _ _) (SubL.refl _))) ?_|refine qpo rfl rfl rfl rfl rfl rfl (fun _=>made22_c) ?_|refine qpo rfl rfl rfl rfl rfl rfl (fun _=>gf) ?_|refine qpo rfl rfl rfl rfl rfl rfl (fun _=>PCalls.sub ga (.cons (Sub.view _ _ _ _) (SubL.refl _))) ?_|(refine wH ?_;clear hK)));refine wN fun b13=>?_;(repeat(first|refine wDB ?_|refine awp_seq_k fun K hK=>?_|refine wN fun bx=>?_|refine qpc rfl rfl rfl (made22_c) ?_|refine qpc rfl rfl rfl (gf) ?_|refine qpc rfl rfl rfl (PCalls.sub ga (.cons (Sub.view _ _ _ _) (SubL.refl _))) ?_|refine qpo rfl rfl rfl rfl rfl rfl (fun _=>made22_c) ?_|refine qpo rfl rfl rfl rfl rfl rfl (fun _=>gf) ?_|refine qpo rfl rfl rfl rfl rfl rfl (fun _=>PCalls.sub ga (.cons (Sub.view _ _ _ _) (SubL.refl _))) ?_|(refine wH ?_;clear hK))))
     refine qapp tyok txtE ns x.new.w (SubL.refl _) ?_ fun ad cp=>?_
     ·simp only
      omega
     repeat(first|refine wDB ?_|refine awp_seq_k fun K hK=>?_|refine wN fun bx=>?_|(refine wH ?_;clear hK))
     refine fnQ_ret 5 rfl (.tmp rfl (.cell rfl rfl (b:=b5) (List.mem_of_getElem? (i:=3) rfl) rfl trivial (.tmp rfl .nil))) ?_ ⟨rfl,rfl⟩
     rw[eo]
     exact Sub.tuple3 (Sub.view _ _ _ _) (Sub.refl _) (Sub.refl _)
 by_cases h5:x.k=5
 ·have eo:oneE ns x=match preF x.word.w with
   |none=>.inl (x.word.ln,x.word.co,5)
   |some f=>match argsE f x.args x.l2 x.c2 ns 0 x.args with
    |some p=>.inl p
    |none=>.inr ns:=by
   unfold oneE
   rw[if_neg h3,if_neg h4,if_pos h5]
   all_goals
    cases preF x.word.w with
    |none=>rfl
    |some f=>
     simp only
     cases argsE f x.args x.l2 x.c2 ns 0 x.args<;>rfl
  have gf:=find22_c asked22 x.word.w asked22_len
  repeat(first|refine wKB ?_|refine awp_seq_k fun K hK=>?_|refine wN fun bx=>?_|(refine wH ?_;clear hK))
  refine areg_soft mixed tyok [0,4] [(8,[])] [0,1,2,3,4,5,6,7,8,9,10] (by decide +kernel) ?_
  rcases pre_row x.word.w with⟨r1,r2⟩|⟨r,f,r1,r2,ht,hfo,hru⟩
  ·rw[r1]at gf
   rw[r2]at eo
   simp only at eo
   ((repeat(first|refine wDB ?_|refine awp_seq_k fun K hK=>?_|refine qpc rfl rfl rfl (asked22_c) ?_|refine qpc rfl rfl rfl (gf) ?_|refine qpo rfl rfl rfl rfl rfl rfl (fun _=>asked22_c) ?_|refine qpo rfl rfl rfl rfl rfl rfl (fun _=>gf) ?_|(refine wH ?_;clear hK)));refine wN fun b15=>?_;(repeat(first|refine wDB ?_|refine awp_seq_k fun K hK=>?_|refine wN fun bx=>?_|refine qpc rfl rfl rfl (asked22_c) ?_|refine qpc rfl rfl rfl (gf) ?_|refine qpo rfl rfl rfl rfl rfl rfl (fun _=>asked22_c) ?_|refine qpo rfl rfl rfl rfl rfl rfl (fun _=>gf) ?_|(refine wH ?_;clear hK))))
   refine fnQ_ret 4 rfl (.tmp rfl (.cell rfl rfl (b:=b5) (List.mem_of_getElem? (i:=2) rfl) rfl trivial (.tmp rfl .nil))) ?_ ⟨rfl,rfl⟩
   rw[eo]
   exact Sub.tuple3 (Sub.nilsv _ _) (Sub.refl _) (Sub.refl _)
  ·rw[r1]at gf
   rw[r2]at eo
   simp only[rowD,argsE_tells ht]at gf eo
   have ga:=args22_c ns x r hx (by omega) hfo hru
   cases hae:argsE (figOf r) x.args x.l2 x.c2 ns 0 x.args with
   |some q=>
    obtain⟨l,c,e⟩:=q
    have hne:=argsE_ne hae
    rw[hae]at ga eo
    simp only[metV]at ga eo
    ((repeat(first|refine wDB ?_|refine awp_seq_k fun K hK=>?_|refine qpc rfl rfl rfl (asked22_c) ?_|refine qpc rfl rfl rfl (gf) ?_|refine qpc rfl rfl rfl (PCalls.sub ga (.cons (Sub.view _ _ _ _) (SubL.refl _))) ?_|refine qpo rfl rfl rfl rfl rfl rfl (fun _=>asked22_c) ?_|refine qpo rfl rfl rfl rfl rfl rfl (fun _=>gf) ?_|refine qpo rfl rfl rfl rfl rfl rfl (fun _=>PCalls.sub ga (.cons (Sub.view _ _ _ _) (SubL.refl _))) ?_|(refine wH ?_;clear hK)));refine wN fun b15=>?_;(repeat(first|refine wDB ?_|refine awp_seq_k fun K hK=>?_|refine qpc rfl rfl rfl (asked22_c) ?_|refine qpc rfl rfl rfl (gf) ?_|refine qpc rfl rfl rfl (PCalls.sub ga (.cons (Sub.view _ _ _ _) (SubL.refl _))) ?_|refine qpo rfl rfl rfl rfl rfl rfl (fun _=>asked22_c) ?_|refine qpo rfl rfl rfl rfl rfl rfl (fun _=>gf) ?_|refine qpo rfl rfl rfl rfl rfl rfl (fun _=>PCalls.sub ga (.cons (Sub.view _ _ _ _) (SubL.refl _))) ?_|(refine wH ?_;clear hK)));refine wN fun b17=>?_;(repeat(first|refine wDB ?_|refine awp_seq_k fun K hK=>?_|refine wN fun bx=>?_|refine qpc rfl rfl rfl (asked22_c) ?_|refine qpc rfl rfl rfl (gf) ?_|refine qpc rfl rfl rfl (PCalls.sub ga (.cons (Sub.view _ _ _ _) (SubL.refl _))) ?_|refine qpo rfl rfl rfl rfl rfl rfl (fun _=>asked22_c) ?_|refine qpo rfl rfl rfl rfl rfl rfl (fun _=>gf) ?_|refine qpo rfl rfl rfl rfl rfl rfl (fun _=>PCalls.sub ga (.cons (Sub.view _ _ _ _) (SubL.refl _))) ?_|(refine wH ?_;clear hK))))
    refine fnQ_ret 5 rfl (.tmp rfl (.cell rfl rfl (b:=b5) (List.mem_of_getElem? (i:=3) rfl) rfl trivial (.tmp rfl .nil))) ?_ ⟨rfl,rfl⟩
    rw[eo]
    exact Sub.tuple3 (Sub.nilsv _ _) (Sub.refl _) (Sub.refl _)
   |none=>
    rw[hae]at ga eo
    simp only[metV]at ga eo
    ((repeat(first|refine wDB ?_|refine awp_seq_k fun K hK=>?_|refine qpc rfl rfl rfl (asked22_c) ?_|refine qpc rfl rfl rfl (gf) ?_|refine qpc rfl rfl rfl (PCalls.sub ga (.cons (Sub.view _ _ _ _) (SubL.refl _))) ?_|refine qpo rfl rfl rfl rfl rfl rfl (fun _=>asked22_c) ?_|refine qpo rfl rfl rfl rfl rfl rfl (fun _=>gf) ?_|refine qpo rfl rfl rfl rfl rfl rfl (fun _=>PCalls.sub ga (.cons (Sub.view _ _ _ _) (SubL.refl _))) ?_|(refine wH ?_;clear hK)));refine wN fun b15=>?_;(repeat(first|refine wDB ?_|refine awp_seq_k fun K hK=>?_|refine qpc rfl rfl rfl (asked22_c) ?_|refine qpc rfl rfl rfl (gf) ?_|refine qpc rfl rfl rfl (PCalls.sub ga (.cons (Sub.view _ _ _ _) (SubL.refl _))) ?_|refine qpo rfl rfl rfl rfl rfl rfl (fun _=>asked22_c) ?_|refine qpo rfl rfl rfl rfl rfl rfl (fun _=>gf) ?_|refine qpo rfl rfl rfl rfl rfl rfl (fun _=>PCalls.sub ga (.cons (Sub.view _ _ _ _) (SubL.refl _))) ?_|(refine wH ?_;clear hK)));refine wN fun b17=>?_;(repeat(first|refine wDB ?_|refine awp_seq_k fun K hK=>?_|refine wN fun bx=>?_|refine qpc rfl rfl rfl (asked22_c) ?_|refine qpc rfl rfl rfl (gf) ?_|refine qpc rfl rfl rfl (PCalls.sub ga (.cons (Sub.view _ _ _ _) (SubL.refl _))) ?_|refine qpo rfl rfl rfl rfl rfl rfl (fun _=>asked22_c) ?_|refine qpo rfl rfl rfl rfl rfl rfl (fun _=>gf) ?_|refine qpo rfl rfl rfl rfl rfl rfl (fun _=>PCalls.sub ga (.cons (Sub.view _ _ _ _) (SubL.refl _))) ?_|(refine wH ?_;clear hK))))
    refine fnQ_ret 5 rfl (.tmp rfl (.cell rfl rfl (b:=b5) (List.mem_of_getElem? (i:=3) rfl) rfl trivial (.tmp rfl .nil))) ?_ ⟨rfl,rfl⟩
    rw[eo]
    exact Sub.tuple3 (Sub.view _ _ _ _) (Sub.refl _) (Sub.refl _)
 ·have eo:oneE ns x=.inr ns:=by
   unfold oneE
   rw[if_neg h3,if_neg h4,if_neg h5]
  repeat(first|refine wDB ?_|refine awp_seq_k fun K hK=>?_|refine wN fun bx=>?_|(refine wH ?_;clear hK))
  refine fnQ_ret 3 rfl (.tmp rfl (.cell rfl rfl (b:=b5) (List.mem_of_getElem? (i:=1) rfl) rfl trivial (.tmp rfl .nil))) ?_ ⟨rfl,rfl⟩
  rw[eo]
  exact Sub.tuple3 (Sub.view _ _ _ _) (Sub.refl _) (Sub.refl _)
theorem lookE_cons (n i:Nat) (x:StI) (l:List StI) (ns:List (List UInt8)):lookE n i (x::l) ns=match placeB n i x with
  |false=>.inl (x.l1,x.c1,4)
  |true=>match oneE ns x with
   |.inl p=>.inl p
   |.inr ns'=>lookE n (i+1) l ns':=rfl
theorem ptsE_len:∀{l:List TokI} {ns ns':List (List UInt8)},ns.length≤40→ptsE ns l=.inr ns'→ns'.length≤40
 |[],ns,ns',h,e=>by
  simp only[ptsE,Sum.inr.injEq]at e
  rw[←e]
  exact h
 |t::l,ns,ns',_,e=>by
  rw[ptsE_cons]at e
  cases hf:freshE ns t with
  |some p=>rw[hf]at e;cases e
  |none=>
   rw[hf]at e
   have:=freshE_len hf
   exact ptsE_len (by simp only[List.length_append,List.length_cons,List.length_nil];omega) e
theorem oneE_len {x:StI} {ns ns':List (List UInt8)} (h:ns.length≤40) (e:oneE ns x=.inr ns'):ns'.length≤40:=by
 unfold oneE at e
 split at e
 ·split at e
  ·cases e
  ·exact ptsE_len h e
 split at e
 ·split at e
  ·cases e
  ·rename_i hf
   have:=freshE_len hf
   split at e
   ·cases e
   ·split at e
    ·cases e
    ·cases e
     simp only[List.length_append,List.length_cons,List.length_nil]
     omega
 split at e
 ·split at e
  ·cases e
  ·split at e
   ·cases e
   ·cases e
    exact h
 ·cases e
  exact h
theorem ptsE_ne:∀{l:List TokI} {ns:List (List UInt8)} {a b c:Int},ptsE ns l=.inl (a,b,c)→c≠0
 |[],_,_,_,_,e=>by cases e
 |t::l,ns,a,b,c,e=>by
  rw[ptsE_cons]at e
  cases hf:freshE ns t with
  |some p=>
   rw[hf]at e
   cases e
   exact freshE_ne hf
  |none=>
   rw[hf]at e
   exact ptsE_ne e
theorem oneE_ne {x:StI} {ns:List (List UInt8)} {a b c:Int} (e:oneE ns x=.inl (a,b,c)):c≠0:=by
 unfold oneE at e
 split at e
 ·split at e
  ·cases e;decide
  ·exact ptsE_ne e
 split at e
 ·split at e
  ·rename_i hf
   cases e
   exact freshE_ne hf
  ·split at e
   ·cases e;decide
   ·split at e
    ·rename_i ha
     cases e
     exact argsE_ne ha
    ·cases e
 split at e
 ·split at e
  ·cases e;decide
  ·split at e
   ·rename_i ha
    cases e
    exact argsE_ne ha
   ·cases e
 ·cases e
theorem cbLook22:Callable Tryz.prog 62:=fun _ _=>by kernel_rfl
theorem look22_c (l:List StI) (hl:l.length≤10000000000000000) (hA:∀x∈l,x.args.length≤10000000000000000):
  PCalls Tryz.prog 62 [stmtsI l] (oneV (lookR l)):=by
 refine pcalls_of_awp tyok cbLook22 Tryz.func62 rfl rfl ?_
 by_cases h3:l.length<3
 ·have el:lookR l=.inl ((shortAt l).1,(shortAt l).2,4):=by
   unfold lookR
   rw[if_pos h3]
  by_cases h0:l.length=0
  ·obtain rfl:=List.eq_nil_of_length_eq_zero h0
   have hz:(([]:List StI).length:Int)=0:=rfl
   ((repeat(first|refine wDB ?_|refine awp_seq_k fun K hK=>?_|(refine wH ?_;clear hK)));refine wN fun b3=>?_;(repeat(first|refine wDB ?_|refine awp_seq_k fun K hK=>?_|refine wN fun bx=>?_|(refine wH ?_;clear hK))))
   exact fnQ_ret 1 rfl (.tmp rfl (.cell rfl rfl (List.Mem.head _) rfl trivial (.tmp rfl .nil))) (Sub.tuple3 (Sub.nilsv _ _) (Sub.refl _) (Sub.refl _)) ⟨by rw[el];rfl,rfl⟩
  ·have hg:l.getLast?=some (l.getD (l.length-1) default):=by
    rw[List.getLast?_eq_getElem?,getD_at (by omega),List.getElem?_eq_getElem (by omega)]
   have es:shortAt l=((l.getD (l.length-1) default).l2,(l.getD (l.length-1) default).c2):=by
    unfold shortAt
    rw[hg]
   have ei:((l.length:Int)-1).toNat=l.length-1:=by omega
   have hn0:¬(l.length:Int)=0:=by omega
   have hn3:(l.length:Int)<3:=by omega
   ((repeat(first|refine wDB ?_|refine awp_seq_k fun K hK=>?_|(refine wH ?_;clear hK)));refine wN fun b3=>?_;(repeat(first|refine wDB ?_|refine awp_seq_k fun K hK=>?_|refine wN fun bx=>?_|(refine wH ?_;clear hK))))
   refine fnQ_ret 1 rfl (.tmp rfl (.cell rfl rfl (List.Mem.head _) rfl trivial (.tmp rfl .nil))) ?_ ⟨rfl,rfl⟩
   rw[el,es,←ei]
   exact Sub.tuple3 (Sub.nilsv _ _) (Sub.refl _) (Sub.refl _)
 ·have el:lookR l=lookE l.length 0 l []:=by
   unfold lookR
   rw[if_neg h3]
  have hn0:¬(l.length:Int)=0:=by omega
  have hn3:¬(l.length:Int)<3:=by omega
  ((repeat(first|refine wDB ?_|refine awp_seq_k fun K hK=>?_|(refine wH ?_;clear hK)));refine wN fun b3=>?_;(repeat(first|refine wDB ?_|refine awp_seq_k fun K hK=>?_|refine wN fun bx=>?_|(refine wH ?_;clear hK))))
  refine awp_loop0 (ι:={y:Nat×List (List UInt8)//y.1≤l.length∧y.2.length≤40∧lookE l.length y.1 (l.drop y.1) y.2=lookR l})
   (fun y=>[(0,stmtsI l),(3,.ptr b3 0),(5,sl txtE 1 y.1.2 .view),(6,.int .i64 y.1.1)])
   (fun _=>[.box b3 112 (placeV 0 0)]) (fun y=>l.length-y.1.1) ⟨(0,[]),Nat.zero_le _,Nat.zero_le _,el.symm⟩ ⟨⟨_,rfl,Sub.refl _⟩,⟨_,rfl,Sub.refl _⟩,⟨_,rfl,Sub.nilsv _ _⟩,⟨_,rfl,Sub.refl _⟩,trivial⟩ ⟨0,rfl⟩ ?_
  rintro⟨⟨i,ns⟩,hi,hns,hlk⟩
  simp only at hi hns hlk ⊢
  by_cases hlt:i<l.length
  ·have hlt':(i:Int)<l.length:=by omega
   have hxa:(l.getD i default).args.length≤10000000000000000:=hA _ (by rw[getD_at hlt];exact List.getElem_mem hlt)
   have gp:=place22_c (l.getD i default) i l.length hl
   have g1:=one22_c ns (l.getD i default) hxa hns
   rw[List.drop_eq_getElem_cons hlt,←getD_at hlt,lookE_cons]at hlk
   have e1:l.getD ((i:Int)).toNat default=l.getD i default:=rfl
   cases hp:placeB l.length i (l.getD i default)with
   |false=>
    rw[hp]at gp hlk
    simp only at hlk
    repeat(first|refine wDB ?_|refine awp_seq_k fun K hK=>?_|refine wN fun bx=>?_|refine qpc rfl rfl rfl (gp) ?_|refine qpo rfl rfl rfl rfl rfl rfl (fun _=>gp) ?_|(refine wH ?_;clear hK))
    refine fnQ_ret 1 rfl (.tmp rfl (.cell rfl rfl (List.Mem.head _) rfl trivial (.tmp rfl .nil))) ?_ ⟨rfl,rfl⟩
    rw[←hlk]
    exact Sub.tuple3 (Sub.nilsv _ _) (Sub.refl _) (Sub.refl _)
   |true=>
    rw[hp]at gp hlk
    simp only at hlk
    cases ho:oneE ns (l.getD i default)with
    |inl p=>
     obtain⟨a,b,c⟩:=p
     have hne:=oneE_ne ho
     rw[ho]at g1 hlk
     simp only[oneV]at g1 hlk
     ((repeat(first|refine wDB ?_|refine awp_seq_k fun K hK=>?_|refine qpc rfl rfl rfl (gp) ?_|refine qpc rfl rfl rfl (g1) ?_|refine qpo rfl rfl rfl rfl rfl rfl (fun _=>gp) ?_|refine qpo rfl rfl rfl rfl rfl rfl (fun _=>g1) ?_|(refine wH ?_;clear hK)));refine wN fun b8=>?_;(repeat(first|refine wDB ?_|refine awp_seq_k fun K hK=>?_|refine wN fun bx=>?_|refine qpc rfl rfl rfl (gp) ?_|refine qpc rfl rfl rfl (g1) ?_|refine qpo rfl rfl rfl rfl rfl rfl (fun _=>gp) ?_|refine qpo rfl rfl rfl rfl rfl rfl (fun _=>g1) ?_|(refine wH ?_;clear hK))))
     refine fnQ_ret 2 rfl (.tmp rfl (.cell rfl rfl (List.Mem.tail _ (List.Mem.head _)) rfl trivial (.tmp rfl .nil))) ?_ ⟨rfl,rfl⟩
     rw[←hlk]
     exact Sub.tuple3 (Sub.nilsv _ _) (Sub.refl _) (Sub.refl _)
    |inr ns'=>
     rw[ho]at g1 hlk
     simp only[oneV]at g1 hlk
     ((repeat(first|refine wDB ?_|refine awp_seq_k fun K hK=>?_|refine qpc rfl rfl rfl (gp) ?_|refine qpc rfl rfl rfl (g1) ?_|refine qpo rfl rfl rfl rfl rfl rfl (fun _=>gp) ?_|refine qpo rfl rfl rfl rfl rfl rfl (fun _=>g1) ?_|(refine wH ?_;clear hK)));refine wN fun b8=>?_;(repeat(first|refine wDB ?_|refine awp_seq_k fun K hK=>?_|refine wN fun bx=>?_|refine qpc rfl rfl rfl (gp) ?_|refine qpc rfl rfl rfl (g1) ?_|refine qpo rfl rfl rfl rfl rfl rfl (fun _=>gp) ?_|refine qpo rfl rfl rfl rfl rfl rfl (fun _=>g1) ?_|(refine wH ?_;clear hK))))
     exact⟨⟨(i+1,ns'),hlt,oneE_len hns ho,hlk⟩,wk,⟨1,rfl⟩,by simp only;omega⟩
  ·have hge:¬(i:Int)<l.length:=by omega
   obtain rfl:i=l.length:=by omega
   rw[List.drop_length]at hlk
   simp only[lookE]at hlk
   repeat(first|refine wDB ?_|refine awp_seq_k fun K hK=>?_|refine wN fun bx=>?_|(refine wH ?_;clear hK))
   refine fnQ_ret 1 rfl (.tmp rfl (.cell rfl rfl (List.Mem.head _) rfl trivial (.tmp rfl .nil))) ?_ ⟨rfl,rfl⟩
   rw[←hlk]
   exact Sub.refl _
theorem lookR_of (l:List StI):lookR l=if(lookF l).e=0 then .inr (lookF l).ns else .inl ((lookF l).ln,(lookF l).co,(lookF l).e):=by
 have h:=lookF_E l
 cases hr:lookR l with
 |inl p=>
  obtain⟨a,b,c⟩:=p
  rw[hr]at h
  obtain⟨h1,h2,h3,h4⟩:=h
  rw[if_neg (by rw[h2];exact h1),h2,h3,h4]
 |inr ns=>
  rw[hr]at h
  have h':lookF l=⟨0,0,0,ns⟩:=h
  rw[h']
  rfl
end Go.Proofs.YthfglhjdnpoepaaGreatDoor
