/-
  Package mono.
-/
import Derived.Test.YtamgilppehibeaaGreatDoorTy
import Derived.Test.YtamgilppehibeaaGreatDoorAbB
import Derived.Laws.StructEq
set_option maxRecDepth 100000
namespace Go.Proofs.YtamgilppehibeaaGreatDoor
open Go.Ab
abbrev Pw:=Int×Int
def encP (p:Pw):List AV:=[.int .i64 p.1,.int .i64 p.2]
abbrev mono (m:List Pw):AV:=sl encP 2 m .view
def mayF:Int→List Pw→Bool
 |_,[]=>true
 |last,p::m=>if(decide (p.1≤last) || decide (p.1>200) || decide (p.2<1) || decide (p.2>10000)) then false else mayF p.1 m
theorem drop_getD {α:Type} [Inhabited α] {l:List α} {k:Nat} (h:k<l.length):l.drop k=l.getD k default::l.drop (k+1):=by
 rw[List.drop_eq_getElem_cons h]
 simp[List.getD,h]
theorem cb16:Callable Tryz.prog 64:=fun _ _=>by kernel_rfl
theorem may_c (m:List Pw) (hm:m.length≤1000000):PCalls Tryz.prog 64 [mono m] (.bool (mayF 0 m)):=by
 refine pcalls_of_awp tyok cb16 Tryz.func64 rfl rfl ?_
 repeat(first|refine wD ?_|refine awp_seq_k fun K hK=>?_|refine wN fun bx=>?_|(refine wH ?_;clear hK))
 refine awp_loop0 (ι:={x:Nat×Int//x.1≤m.length∧mayF 0 m=mayF x.2 (m.drop x.1)})
  (fun x=>[(8,.int .i64 x.1.1),(7,.int .i64 m.length),(6,mono m),(3,.int .i64 x.1.2)]) (fun _=>[]) (fun x=>m.length-x.1.1) ⟨(0,0),Nat.zero_le _,rfl⟩ ?_ dp ?_
 ·exact wk
 rintro⟨⟨k,last⟩,hk,hf⟩
 simp only at hk hf ⊢
 repeat(first|refine wD ?_|refine awp_seq_k fun K hK=>?_|refine wN fun bx=>?_|(refine wH ?_;clear hK))
 refine awp_cond rfl (fun hb=>?_) (fun hb=>?_)
 ·have hlt:k<m.length:=by simpa using hb
  have hd:m.drop k=m.getD k default::m.drop (k+1):=drop_getD hlt
  repeat(first|refine wD ?_|refine awp_seq_k fun K hK=>?_|refine wN fun bx=>?_|(refine wH ?_;clear hK))
  refine awp_cond rfl (fun hb=>?_) (fun hb=>?_)
  ·repeat(first|refine wD ?_|refine awp_seq_k fun K hK=>?_|refine wN fun bx=>?_|(refine wH ?_;clear hK))
   refine r1 ?_
   refine Sub.of_eq ?_
   rw[hf,hd,mayF,if_pos (by simpa only[Int.toNat_natCast]using hb)]
  ·repeat(first|refine wD ?_|refine awp_seq_k fun K hK=>?_|refine wN fun bx=>?_|(refine wH ?_;clear hK))
   refine⟨⟨(k+1,(m.getD k default).1),hlt,?_⟩,?_,dp,?_⟩
   ·rw[hf,hd,mayF,if_neg (by rw[Int.toNat_natCast]at hb;rw[hb];exact Bool.false_ne_true)]
   ·exact wk
   ·simp only;omega
 ·have hge:k=m.length:=by simp at hb;omega
  repeat(first|refine wD ?_|refine awp_seq_k fun K hK=>?_|refine wN fun bx=>?_|(refine wH ?_;clear hK))
  refine r1 ?_
  refine Sub.of_eq ?_
  rw[hf,hge]
  simp[mayF]
end Go.Proofs.YtamgilppehibeaaGreatDoor
namespace Go.Proofs.YtamgilppehibeaaGreatDoor
open Go.Ab
abbrev Tr:=Int×Int×Int
def zipM:List Pw→List Pw→List Tr
 |[],[]=>[]
 |p::a,[]=>(p.1,p.2,0)::zipM a []
 |[],q::b=>(q.1,0,q.2)::zipM [] b
 |p::a,q::b=>if p.1<q.1 then(p.1,p.2,0)::zipM a (q::b) else if q.1<p.1 then(q.1,0,q.2)::zipM (p::a) b else(p.1,p.2,q.2)::zipM a b
 termination_by a b=>a.length+b.length
theorem cb36:Callable Tryz.prog 161:=fun _ _=>by kernel_rfl
def trV (t:Tr):List AV:=[.int .i64 t.1,.int .i64 t.2.1,.int .i64 t.2.2]
theorem both_c (a b:List Pw) (ha:a.length≤1000000) (hb:b.length≤1000000) (f:FuncId) (cap:List AV) (inv:List Tr→AHeap→Prop)
  (hdo:∀done t rest H,zipM a b=done++t::rest→inv done H→ACalls Tryz.prog f (trV t++cap) H fun r H'=>r=.ret (.tuple [])∧inv (done++[t]) H') (H:AHeap) (h0:inv [] H):
  ACalls Tryz.prog 161 [mono a,mono b,.func (.func f) [] cap] H fun r H'=>r=.ret (.tuple [])∧inv (zipM a b) H':=by
 refine acalls_of_awp tyok cb36 Tryz.func161 rfl rfl ?_
 repeat(first|refine wD ?_|refine awp_seq_k fun K hK=>?_|refine wN fun bx=>?_|(refine wH ?_;clear hK))
 refine awp_loop0 (ι:={x:List Pw×List Pw×List Tr×AHeap//zipM a b=x.2.2.1++zipM x.1 x.2.1∧inv x.2.2.1 x.2.2.2∧x.1.length≤1000000∧x.2.1.length≤1000000})
  (fun x=>[(0,mono x.1.1),(1,mono x.1.2.1),(2,.func (.func f) [] cap)]) (fun x=>x.1.2.2.2) (fun x=>x.1.1.length+x.1.2.1.length) ⟨(a,b,[],H),by simp,h0,ha,hb⟩ ?_ dp ?_
 ·exact wk
 rintro⟨⟨x,y,done,G⟩,hz,hi,hx,hy⟩
 simp only at hz hi hx hy ⊢
 have call:∀(t:Tr) (rest:List Tr),zipM x y=t::rest→ACalls Tryz.prog f (trV t++cap) G fun r H'=>r=.ret (.tuple [])∧inv (done++[t]) H':=fun t rest e=>hdo done t rest G (by rw[hz,e]) hi
 match x,y,hz,hx,hy,call with
 |[],[],hz,hx,hy,_=>
  repeat(first|refine wD ?_|refine awp_seq_k fun K hK=>?_|refine wN fun bx=>?_|(refine wH ?_;clear hK))
  refine fnQ_none rfl rfl ?_
  rw[hz,zipM,List.append_nil]
  exact hi
 |p::x,[],hz,hx,hy,call=>
  repeat(first|refine wDB ?_|refine awp_seq_k fun K hK=>?_|refine wN fun bx=>?_|(refine wH ?_;clear hK))
  refine TR.hcallA rfl rfl rfl (by first|exact True.intro|exact⟨id,True.intro⟩|exact⟨id,id,True.intro⟩|exact⟨id,id,id,True.intro⟩) rfl rfl (call (p.1,p.2,0) _ (by rw[zipM])) ?_ (by rintro v H' ⟨e,_⟩;cases e)
  rintro v G' ⟨e,hi'⟩
  cases e
  repeat(first|refine wDB ?_|refine awp_seq_k fun K hK=>?_|refine wN fun bx=>?_|(refine wH ?_;clear hK))
  refine⟨⟨(x,[],done++[(p.1,p.2,0)],G'),by rw[hz,zipM];simp,hi',by simp at hx;simp only;omega,hy⟩,?_,dp,?_⟩
  ·exact wk
  ·simp only[List.length_cons,List.length_nil];omega
 |[],q::y,hz,hx,hy,call=>
  repeat(first|refine wDB ?_|refine awp_seq_k fun K hK=>?_|refine wN fun bx=>?_|(refine wH ?_;clear hK))
  refine TR.hcallA rfl rfl rfl (by first|exact True.intro|exact⟨id,True.intro⟩|exact⟨id,id,True.intro⟩|exact⟨id,id,id,True.intro⟩) rfl rfl (call (q.1,0,q.2) _ (by rw[zipM])) ?_ (by rintro v H' ⟨e,_⟩;cases e)
  rintro v G' ⟨e,hi'⟩
  cases e
  repeat(first|refine wDB ?_|refine awp_seq_k fun K hK=>?_|refine wN fun bx=>?_|(refine wH ?_;clear hK))
  refine⟨⟨([],y,done++[(q.1,0,q.2)],G'),by rw[hz,zipM];simp,hi',hx,by simp at hy;simp only;omega⟩,?_,dp,?_⟩
  ·exact wk
  ·simp only[List.length_cons,List.length_nil];omega
 |p::x,q::y,hz,hx,hy,call=>
  by_cases h1:p.1<q.1
  ·repeat(first|refine wDB ?_|refine awp_seq_k fun K hK=>?_|refine wN fun bx=>?_|(refine wH ?_;clear hK))
   refine TR.hcallA rfl rfl rfl (by first|exact True.intro|exact⟨id,True.intro⟩|exact⟨id,id,True.intro⟩|exact⟨id,id,id,True.intro⟩) rfl rfl (call (p.1,p.2,0) _ (by rw[zipM,if_pos h1])) ?_ (by rintro v H' ⟨e,_⟩;cases e)
   rintro v G' ⟨e,hi'⟩
   cases e
   repeat(first|refine wDB ?_|refine awp_seq_k fun K hK=>?_|refine wN fun bx=>?_|(refine wH ?_;clear hK))
   refine⟨⟨(x,q::y,done++[(p.1,p.2,0)],G'),by rw[hz,zipM,if_pos h1];simp,hi',by simp at hx;simp only;omega,hy⟩,?_,dp,?_⟩
   ·exact wk
   ·simp only[List.length_cons];omega
  ·by_cases h2:q.1<p.1
   ·repeat(first|refine wDB ?_|refine awp_seq_k fun K hK=>?_|refine wN fun bx=>?_|(refine wH ?_;clear hK))
    refine TR.hcallA rfl rfl rfl (by first|exact True.intro|exact⟨id,True.intro⟩|exact⟨id,id,True.intro⟩|exact⟨id,id,id,True.intro⟩) rfl rfl (call (q.1,0,q.2) _ (by rw[zipM,if_neg h1,if_pos h2])) ?_ (by rintro v H' ⟨e,_⟩;cases e)
    rintro v G' ⟨e,hi'⟩
    cases e
    repeat(first|refine wDB ?_|refine awp_seq_k fun K hK=>?_|refine wN fun bx=>?_|(refine wH ?_;clear hK))
    refine⟨⟨(p::x,y,done++[(q.1,0,q.2)],G'),by rw[hz,zipM,if_neg h1,if_pos h2];simp,hi',hx,by simp at hy;simp only;omega⟩,?_,dp,?_⟩
    ·exact wk
    ·simp only[List.length_cons];omega
   ·repeat(first|refine wDB ?_|refine awp_seq_k fun K hK=>?_|refine wN fun bx=>?_|(refine wH ?_;clear hK))
    refine TR.hcallA rfl rfl rfl (by first|exact True.intro|exact⟨id,True.intro⟩|exact⟨id,id,True.intro⟩|exact⟨id,id,id,True.intro⟩) rfl rfl (call (p.1,p.2,q.2) _ (by rw[zipM,if_neg h1,if_neg h2])) ?_ (by rintro v H' ⟨e,_⟩;cases e)
    rintro v G' ⟨e,hi'⟩
    cases e
    repeat(first|refine wDB ?_|refine awp_seq_k fun K hK=>?_|refine wN fun bx=>?_|(refine wH ?_;clear hK))
    refine⟨⟨(x,y,done++[(p.1,p.2,q.2)],G'),by rw[hz,zipM,if_neg h1,if_neg h2];simp,hi',by simp at hx;simp only;omega,by simp at hy;simp only;omega⟩,?_,dp,?_⟩
    ·exact wk
    ·simp only[List.length_cons];omega
end Go.Proofs.YtamgilppehibeaaGreatDoor
namespace Go.Proofs.YtamgilppehibeaaGreatDoor
open Go.Ab
theorem zipM_length (a b:List Pw):(zipM a b).length≤a.length+b.length:=by
 fun_induction zipM a b<;>simp_all<;>omega
def madeF (g:Tr→Int) (L:List Tr):List Pw:=L.filterMap fun t=>if g t>0 then some (t.1,g t) else none
theorem madeF_snoc_pos {g:Tr→Int} {L:List Tr} {t:Tr} (h:g t>0):madeF g (L++[t])=madeF g L++[(t.1,g t)]:=by simp[madeF,h]
theorem madeF_snoc_neg {g:Tr→Int} {L:List Tr} {t:Tr} (h:¬g t>0):madeF g (L++[t])=madeF g L:=by simp[madeF,h]
theorem madeF_length (g:Tr→Int) (L:List Tr):(madeF g L).length≤L.length:=List.length_filterMap_le _ _
def MI (F:AV) (b5 b6:Nat) (oi:List Tr→AHeap→Prop) (g:Tr→Int) (done:List Tr) (H:AHeap):Prop:=
 ∃HO,oi done HO∧((madeF g done=[]∧H=.box b6 68 .nils::.box b5 178 F::HO)∨
  ∃ad cp,H=.tok ad cp (madeF g done).length 2 103::.box b6 68 (sl encP 2 (madeF g done) (.own ad cp))::.box b5 178 F::HO)
theorem cb42:Callable Tryz.prog 167:=fun _ _=>by kernel_rfl
theorem made1_c {f:FuncId} {cap:List AV} {b5 b6:Nat} {oi:List Tr→AHeap→Prop} {g:Tr→Int} {done:List Tr} {t:Tr} {H:AHeap} (hl:done.length≤4000000)
  (hof:∀H,oi done H→ACalls Tryz.prog f ([.int .i64 t.2.1,.int .i64 t.2.2]++cap) H fun r H'=>r=.ret (.int .i64 (g t))∧oi (done++[t]) H')
  (h:MI (.func (.func f) [] cap) b5 b6 oi g done H):
  ACalls Tryz.prog 167 (trV t++[.ptr b5 0,.ptr b6 0]) H fun r H'=>r=.ret (.tuple [])∧MI (.func (.func f) [] cap) b5 b6 oi g (done++[t]) H':=by
 have hml:=madeF_length g done
 obtain⟨HO,ho,h⟩:=h
 have hc:=hof HO ho
 refine acalls_of_awp tyok cb42 Tryz.func167 rfl rfl ?_
 rcases h with⟨hm,rfl⟩|⟨ad,cp,rfl⟩
 ·repeat(first|refine wD ?_|refine awp_seq_k fun K hK=>?_|refine wN fun bx=>?_|(refine wH ?_;clear hK))
  refine TR.hcallT [_,_] rfl rfl rfl (by first|exact True.intro|exact⟨id,True.intro⟩|exact⟨id,id,True.intro⟩|exact⟨id,id,id,True.intro⟩) rfl rfl rfl hc ?_ (by rintro v H' ⟨e,_⟩;cases e)
  rintro v HO' ⟨e,ho'⟩
  cases e
  by_cases hpos:g t>0
  ·repeat(first|refine wDB ?_|refine awp_seq_k fun K hK=>?_|refine wN fun bx=>?_|(refine wH ?_;clear hK))
   refine TR.appendF tyok (fun ad cp=>sl encP 2 [(t.1,g t)] (.own ad cp)) rfl rfl rfl rfl (by first|exact True.intro|exact⟨id,True.intro⟩|exact⟨id,id,True.intro⟩|exact⟨id,id,id,True.intro⟩) rfl rfl rfl rfl rfl rfl rfl rfl rfl (by decide) (fun ad cp=>glue_nil1 encP 2 (t.1,g t) _ _ rfl _) (fun ad cp=>?_)
   repeat(first|refine wDB ?_|refine awp_seq_k fun K hK=>?_|refine wN fun bx=>?_|(refine wH ?_;clear hK))
   refine fnQ_none rfl rfl ⟨HO',ho',.inr ⟨ad,cp,?_⟩⟩
   rw[madeF_snoc_pos hpos,hm]
   rfl
  ·repeat(first|refine wDB ?_|refine awp_seq_k fun K hK=>?_|refine wN fun bx=>?_|(refine wH ?_;clear hK))
   refine fnQ_none rfl rfl ⟨HO',ho',.inl ⟨?_,rfl⟩⟩
   rw[madeF_snoc_neg hpos,hm]
 ·repeat(first|refine wD ?_|refine awp_seq_k fun K hK=>?_|refine wN fun bx=>?_|(refine wH ?_;clear hK))
  refine TR.hcallT [_,_,_] rfl rfl rfl (by first|exact True.intro|exact⟨id,True.intro⟩|exact⟨id,id,True.intro⟩|exact⟨id,id,id,True.intro⟩) rfl rfl rfl hc ?_ (by rintro v H' ⟨e,_⟩;cases e)
  rintro v HO' ⟨e,ho'⟩
  cases e
  by_cases hpos:g t>0
  ·repeat(first|refine wDB ?_|refine awp_seq_k fun K hK=>?_|refine wN fun bx=>?_|(refine wH ?_;clear hK))
   refine TR.appendO tyok 0 (fun ad cp=>sl encP 2 (madeF g done++[(t.1,g t)]) (.own ad cp)) rfl rfl rfl rfl (by first|exact True.intro|exact⟨id,True.intro⟩|exact⟨id,id,True.intro⟩|exact⟨id,id,id,True.intro⟩) rfl rfl rfl rfl rfl rfl rfl rfl rfl rfl ?_ (fun ad cp=>glue_sl1 encP 2 (madeF g done) (t.1,g t) _ rfl _) (fun ad cp=>?_)
   ·show(_+1)*16≤_∧_+1≤_
    omega
   repeat(first|refine wDB ?_|refine awp_seq_k fun K hK=>?_|refine wN fun bx=>?_|(refine wH ?_;clear hK))
   refine fnQ_none rfl rfl ⟨HO',ho',.inr ⟨ad,cp,?_⟩⟩
   rw[madeF_snoc_pos hpos,List.length_append]
   rfl
  ·repeat(first|refine wDB ?_|refine awp_seq_k fun K hK=>?_|refine wN fun bx=>?_|(refine wH ?_;clear hK))
   refine fnQ_none rfl rfl ⟨HO',ho',.inr ⟨ad,cp,?_⟩⟩
   rw[madeF_snoc_neg hpos]
   rfl
theorem cb31:Callable Tryz.prog 120:=fun _ _=>by kernel_rfl
theorem made_c (x y:List Pw) (hx:x.length≤1000000) (hy:y.length≤1000000) {f:FuncId} {cap:List AV} {oi:List Tr→AHeap→Prop} {g:Tr→Int} {H:AHeap}
  (hof:∀done t rest H,zipM x y=done++t::rest→oi done H→ACalls Tryz.prog f ([.int .i64 t.2.1,.int .i64 t.2.2]++cap) H fun r H'=>r=.ret (.int .i64 (g t))∧oi (done++[t]) H') (h0:oi [] H):
  ACalls Tryz.prog 120 [mono x,mono y,.func (.func f) [] cap] H fun r H'=>r=.ret (mono (madeF g (zipM x y)))∧oi (zipM x y) H':=by
 have hzl:=zipM_length x y
 have hml:=madeF_length g (zipM x y)
 refine acalls_of_awp tyok cb31 Tryz.func120 rfl rfl ?_
 repeat(first|refine wD ?_|refine awp_seq_k fun K hK=>?_|refine wN fun bx=>?_|(refine wH ?_;clear hK))
 refine TR.hcallA (ty:=ty) rfl rfl rfl (by first|exact True.intro|exact⟨id,True.intro⟩|exact⟨id,id,True.intro⟩|exact⟨id,id,id,True.intro⟩) rfl rfl (both_c x y hx hy _ _ (MI (.func (.func f) [] cap) _ _ oi g) (fun done t rest H he hi=>made1_c ?_ (fun H ho=>hof done t rest H he ho) hi) _ ⟨H,h0,.inl ⟨rfl,rfl⟩⟩) ?_ (by rintro v H' ⟨e,_⟩;cases e)
 ·have:=congrArg List.length he
  simp at this
  omega
 rintro v H' ⟨e,HO,ho,hh⟩
 cases e
 rcases hh with⟨hm,rfl⟩|⟨ad,cp,rfl⟩
 ·repeat(first|refine wD ?_|refine awp_seq_k fun K hK=>?_|refine wN fun bx=>?_|(refine wH ?_;clear hK))
  exact fnQ_ret 2 rfl (.cell rfl rfl (List.mem_cons_self ..) rfl True.intro .nil) (by rw[hm];exact Sub.nilsv _ _) ⟨rfl,ho⟩
 ·repeat(first|refine wD ?_|refine awp_seq_k fun K hK=>?_|refine wN fun bx=>?_|(refine wH ?_;clear hK))
  exact fnQ_ret 3 rfl (.cell rfl rfl (List.mem_cons_of_mem _ (List.mem_cons_self ..)) rfl True.intro .nil) (Sub.view _ _ _ _) ⟨rfl,ho⟩
end Go.Proofs.YtamgilppehibeaaGreatDoor
namespace Go.Proofs.YtamgilppehibeaaGreatDoor
open Go.Ab
def Bnd (p:Pw):Prop:=1≤p.1∧p.1≤200∧1≤p.2∧p.2≤10000
theorem may_bnd:∀(m:List Pw) (last:Int),0≤last→mayF last m=true→∀p∈m,Bnd p
 |[],_,_,_,p,hp=>by cases hp
 |q::m,last,h0,h,p,hp=>by
  unfold mayF at h
  split at h
  ·cases h
  ·rename_i hn
   simp only[Bool.or_eq_true,decide_eq_true_eq,not_or]at hn
   rcases List.mem_cons.1 hp with rfl|hp
   ·exact⟨by omega,by omega,by omega,by omega⟩
   ·exact may_bnd m q.1 (by omega) h p hp
def BndT (t:Tr):Prop:=1≤t.1∧t.1≤200∧0≤t.2.1∧t.2.1≤10000∧0≤t.2.2∧t.2.2≤10000
theorem zip_bnd (a b:List Pw) (ha:∀p∈a,Bnd p) (hb:∀p∈b,Bnd p):∀t∈zipM a b,BndT t:=by
 fun_induction zipM a b with
 |case1=>intro t ht;cases ht
 |case2 p a ih=>
  intro t ht
  have:=ha p (by simp)
  rcases List.mem_cons.1 ht with rfl|ht
  ·simp only[Bnd]at this;simp only[BndT];omega
  ·exact ih (fun p hp=>ha p (by simp[hp])) hb t ht
 |case3 q b ih=>
  intro t ht
  have:=hb q (by simp)
  rcases List.mem_cons.1 ht with rfl|ht
  ·simp only[Bnd]at this;simp only[BndT];omega
  ·exact ih ha (fun p hp=>hb p (by simp[hp])) t ht
 |case4 p a q b h ih=>
  intro t ht
  have:=ha p (by simp)
  rcases List.mem_cons.1 ht with rfl|ht
  ·simp only[Bnd]at this;simp only[BndT];omega
  ·exact ih (fun p hp=>ha p (by simp[hp])) hb t ht
 |case5 p a q b h h' ih=>
  intro t ht
  have:=hb q (by simp)
  rcases List.mem_cons.1 ht with rfl|ht
  ·simp only[Bnd]at this;simp only[BndT];omega
  ·exact ih ha (fun p hp=>hb p (by simp[hp])) t ht
 |case6 p a q b h h' ih=>
  intro t ht
  have h1:=ha p (by simp)
  have h2:=hb q (by simp)
  rcases List.mem_cons.1 ht with rfl|ht
  ·simp only[Bnd]at h1 h2;simp only[BndT];omega
  ·exact ih (fun p hp=>ha p (by simp[hp])) (fun p hp=>hb p (by simp[hp])) t ht
theorem zip_split {a b:List Pw} {done rest:List Tr} {t:Tr} (ha:∀p∈a,Bnd p) (hb:∀p∈b,Bnd p) (h:zipM a b=done++t::rest):BndT t:=
 zip_bnd a b ha hb t (by rw[h];simp)
theorem cbTimes1:Callable Tryz.prog 121:=fun _ _=>by kernel_rfl
theorem times1_c (x y:Int) (hx:0≤x∧x≤10000) (hy:0≤y∧y≤10000):PCalls Tryz.prog 121 [.int .i64 x,.int .i64 y] (.int .i64 (x+y)):=by
 refine pcalls_of_awp tyok cbTimes1 Tryz.func121 rfl rfl ?_
 repeat(first|refine wD ?_|refine awp_seq_k fun K hK=>?_|refine wN fun bx=>?_|(refine wH ?_;clear hK))
 refine r1 ?_
 exact Sub.refl _
theorem cbNaN:Callable Tryz.prog 190:=fun _ _=>by kernel_rfl
theorem nan_c (x:Int):PCalls Tryz.prog 190 [.int .i64 x] (.bool false):=by
 refine pcalls_of_awp tyok cbNaN Tryz.func190 rfl rfl ?_
 repeat(first|refine wD ?_|refine awp_seq_k fun K hK=>?_|refine wN fun bx=>?_|(refine wH ?_;clear hK))
 refine r1 ?_
 refine Sub.of_eq ?_
 simp
def cmpI (x y:Int):Int:=if x<y then -1 else if x>y then 1 else 0
theorem cbCmp:Callable Tryz.prog 163:=fun _ _=>by kernel_rfl
theorem cmp_c (x y:Int):PCalls Tryz.prog 163 [.int .i64 x,.int .i64 y] (.int .i64 (cmpI x y)):=by
 refine pcalls_of_awp tyok cbCmp Tryz.func163 rfl rfl ?_
 unfold cmpI
 by_cases h1:x<y
 ·rw[if_pos h1]
  repeat(first|refine wDB ?_|refine awp_seq_k fun K hK=>?_|refine wN fun bx=>?_|refine qpc rfl rfl rfl (nan_c _) ?_|refine qpo rfl rfl rfl rfl rfl rfl (fun _=>nan_c _) ?_|(refine wH ?_;clear hK))
  refine r1 ?_
  exact Sub.refl _
 ·rw[if_neg h1]
  by_cases h2:x>y
  ·rw[if_pos h2]
   repeat(first|refine wDB ?_|refine awp_seq_k fun K hK=>?_|refine wN fun bx=>?_|refine qpc rfl rfl rfl (nan_c _) ?_|refine qpo rfl rfl rfl rfl rfl rfl (fun _=>nan_c _) ?_|(refine wH ?_;clear hK))
   refine r1 ?_
   exact Sub.refl _
  ·rw[if_neg h2]
   repeat(first|refine wDB ?_|refine awp_seq_k fun K hK=>?_|refine wN fun bx=>?_|refine qpc rfl rfl rfl (nan_c _) ?_|refine qpo rfl rfl rfl rfl rfl rfl (fun _=>nan_c _) ?_|(refine wH ?_;clear hK))
   refine r1 ?_
   exact Sub.refl _
theorem cbCompare1:Callable Tryz.prog 162:=fun _ _=>by kernel_rfl
theorem compare1_c (b:Nat) (v x y c:Int):
  ACalls Tryz.prog 162 [.int .i64 v,.int .i64 x,.int .i64 y,.ptr b 0] [.box b 3 (.int .i64 c)] fun r H'=>r=.ret (.tuple [])∧H'=[.box b 3 (.int .i64 (if x=y then c else cmpI x y))]:=by
 refine acalls_of_awp tyok cbCompare1 Tryz.func162 rfl rfl ?_
 by_cases h:x=y
 ·rw[if_pos h]
  repeat(first|refine wD ?_|refine awp_seq_k fun K hK=>?_|refine wN fun bx=>?_|(refine wH ?_;clear hK))
  refine awp_cond rfl (fun hb=>absurd hb (by simp[h])) (fun _=>?_)
  repeat(first|refine wD ?_|refine awp_seq_k fun K hK=>?_|refine wN fun bx=>?_|(refine wH ?_;clear hK))
  exact fnQ_none rfl rfl rfl
 ·rw[if_neg h]
  repeat(first|refine wD ?_|refine awp_seq_k fun K hK=>?_|refine wN fun bx=>?_|(refine wH ?_;clear hK))
  refine awp_cond rfl (fun _=>?_) (fun hb=>absurd hb (by simp[h]))
  repeat(first|refine wD ?_|refine awp_seq_k fun K hK=>?_|refine wN fun bx=>?_|refine qpc rfl rfl rfl (cmp_c _ _) ?_|refine qpo rfl rfl rfl rfl rfl rfl (fun _=>cmp_c _ _) ?_|(refine wH ?_;clear hK))
  exact fnQ_none rfl rfl rfl
end Go.Proofs.YtamgilppehibeaaGreatDoor
namespace Go.Proofs.YtamgilppehibeaaGreatDoor
open Go.Ab
def may (m:List Pw):Bool:=mayF 0 m
def gAdd (t:Tr):Int:=t.2.1+t.2.2
def gSub (t:Tr):Int:=t.2.1-t.2.2
def gMin (t:Tr):Int:=min t.2.1 t.2.2
def gMax (t:Tr):Int:=max t.2.1 t.2.2
def timesF (a b:List Pw):List Pw×Int:=
 if may a&&may b then(if may (madeF gAdd (zipM a b)) then(madeF gAdd (zipM a b),0) else([],8)) else([],2)
abbrev resE (r:List Pw×Int):AV:=.tuple [mono r.1,.int .i64 r.2]
theorem bnd_of {m:List Pw} (h:may m=true):∀p∈m,Bnd p:=may_bnd m 0 (by omega) h
theorem mayc {m:List Pw} {b:Bool} (hm:m.length≤1000000) (h:may m=b):PCalls Tryz.prog 64 [mono m] (.bool b):=h▸may_c m hm
theorem made_add (a b:List Pw) (ha:a.length≤400000) (hb:b.length≤400000) (hA:may a=true) (hB:may b=true):
  PCalls Tryz.prog 120 [mono a,mono b,.func (.func 121) [] []] (mono (madeF gAdd (zipM a b))):=by
 refine made_c a b (by omega) (by omega) (oi:=fun _ H=>H=[]) (fun done t rest H he hH=>?_) rfl
 subst hH
 obtain⟨_,_,h1,h2,h3,h4⟩:=zip_split (bnd_of hA) (bnd_of hB) he
 exact times1_c _ _ ⟨h1,h2⟩ ⟨h3,h4⟩
theorem madeF_len (g:Tr→Int) (a b:List Pw):(madeF g (zipM a b)).length≤a.length+b.length:=Nat.le_trans (madeF_length _ _) (zipM_length _ _)
theorem cbTimes:Callable Tryz.prog 79:=fun _ _=>by kernel_rfl
theorem times_c (a b:List Pw) (ha:a.length≤400000) (hb:b.length≤400000):PCalls Tryz.prog 79 [mono a,mono b] (resE (timesF a b)):=by
 refine pcalls_of_awp tyok cbTimes Tryz.func79 rfl rfl ?_
 unfold timesF
 have hl:=madeF_len gAdd a b
 cases hA:may a
 ·have pa:=mayc (by omega) hA
  repeat(first|refine wD ?_|refine awp_seq_k fun K hK=>?_|refine wN fun bx=>?_|refine wC pa ?_|(refine wH ?_;clear hK))
  refine r2 ?_ ?_
  ·exact Sub.nilsv _ _
  ·exact Sub.refl _
 cases hB:may b
 ·have pa:=mayc (by omega) hA
  have pb:=mayc (by omega) hB
  repeat(first|refine wD ?_|refine awp_seq_k fun K hK=>?_|refine wN fun bx=>?_|refine wC pa ?_|refine wC pb ?_|(refine wH ?_;clear hK))
  refine r2 ?_ ?_
  ·exact Sub.nilsv _ _
  ·exact Sub.refl _
 cases hM:may (madeF gAdd (zipM a b))
 ·have pa:=mayc (by omega) hA
  have pb:=mayc (by omega) hB
  have pm:=mayc (by omega) hM
  repeat(first|refine wD ?_|refine awp_seq_k fun K hK=>?_|refine wN fun bx=>?_|refine wC pa ?_|refine wC pb ?_|refine wC pm ?_|refine wC (made_add a b ha hb hA hB) ?_|(refine wH ?_;clear hK))
  refine r2 ?_ ?_
  ·exact Sub.nilsv _ _
  ·exact Sub.refl _
 ·have pa:=mayc (by omega) hA
  have pb:=mayc (by omega) hB
  have pm:=mayc (by omega) hM
  repeat(first|refine wD ?_|refine awp_seq_k fun K hK=>?_|refine wN fun bx=>?_|refine wC pa ?_|refine wC pb ?_|refine wC pm ?_|refine wC (made_add a b ha hb hA hB) ?_|(refine wH ?_;clear hK))
  refine r2 ?_ ?_
  ·exact Sub.refl _
  ·exact Sub.refl _
def noneF (L:List Tr):Bool:=L.any fun t=>decide (t.2.1<t.2.2)
def overF (a b:List Pw):List Pw×Int:=
 if may a&&may b then(if noneF (zipM a b) then([],5) else(madeF gSub (zipM a b),0)) else([],2)
def cmpF (L:List Tr):Int:=L.foldl (fun c t=>if t.2.1=t.2.2 then c else cmpI t.2.1 t.2.2) 0
def compareF (a b:List Pw):Int×Int:=if may a&&may b then(cmpF (zipM a b),0) else(0,2)
theorem both_cmp (a b:List Pw) (ha:a.length≤400000) (hb:b.length≤400000) (d:Nat):
  ACalls Tryz.prog 161 [mono a,mono b,.func (.func 162) [] [.ptr d 0]] [.box d 3 (.int .i64 0)] fun r H'=>r=.ret (.tuple [])∧H'=[.box d 3 (.int .i64 (cmpF (zipM a b)))]:=by
 refine both_c a b (by omega) (by omega) _ _ (fun L H=>H=[.box d 3 (.int .i64 (cmpF L))]) (fun done t rest H he hH=>?_) _ rfl
 subst hH
 refine ACalls.mono (compare1_c d _ _ _ _) ?_
 rintro r H' ⟨rfl,rfl⟩
 refine⟨rfl,?_⟩
 simp[cmpF]
theorem cbCompare:Callable Tryz.prog 110:=fun _ _=>by kernel_rfl
theorem compare_c (a b:List Pw) (ha:a.length≤400000) (hb:b.length≤400000):PCalls Tryz.prog 110 [mono a,mono b] (.tuple [.int .i64 (compareF a b).1,.int .i64 (compareF a b).2]):=by
 refine pcalls_of_awp tyok cbCompare Tryz.func110 rfl rfl ?_
 unfold compareF
 cases hA:may a
 ·have pa:=mayc (by omega) hA
  repeat(first|refine wD ?_|refine awp_seq_k fun K hK=>?_|refine wN fun bx=>?_|refine wC pa ?_|(refine wH ?_;clear hK))
  refine r2 ?_ ?_
  ·exact Sub.refl _
  ·exact Sub.refl _
 cases hB:may b
 ·have pa:=mayc (by omega) hA
  have pb:=mayc (by omega) hB
  repeat(first|refine wD ?_|refine awp_seq_k fun K hK=>?_|refine wN fun bx=>?_|refine wC pa ?_|refine wC pb ?_|(refine wH ?_;clear hK))
  refine r2 ?_ ?_
  ·exact Sub.refl _
  ·exact Sub.refl _
 have pa:=mayc (by omega) hA
 have pb:=mayc (by omega) hB
 repeat(first|refine wD ?_|refine awp_seq_k fun K hK=>?_|refine wN fun bx=>?_|refine wC pa ?_|refine wC pb ?_|(refine wH ?_;clear hK))
 refine TR.hcallA (ty:=ty) rfl rfl rfl (by first|exact True.intro|exact⟨id,True.intro⟩|exact⟨id,id,True.intro⟩|exact⟨id,id,id,True.intro⟩) rfl rfl (both_cmp a b ha hb _) ?_ (by rintro v H' ⟨e,_⟩;cases e)
 rintro v H' ⟨e,rfl⟩
 cases e
 repeat(first|refine wD ?_|refine awp_seq_k fun K hK=>?_|refine wN fun bx=>?_|(refine wH ?_;clear hK))
 refine r2 ?_ ?_
 ·exact Sub.refl _
 ·exact Sub.refl _
end Go.Proofs.YtamgilppehibeaaGreatDoor
namespace Go.Proofs.YtamgilppehibeaaGreatDoor
open Go.Ab
def plainF (m:List Pw):List Pw:=if may m then m else []
theorem plainF_len (m:List Pw):(plainF m).length≤m.length:=by unfold plainF;split<;>simp
theorem cbPlain:Callable Tryz.prog 165:=fun _ _=>by kernel_rfl
theorem plain_c (m:List Pw) (hm:m.length≤400000):PCalls Tryz.prog 165 [mono m] (mono (plainF m)):=by
 refine pcalls_of_awp tyok cbPlain Tryz.func165 rfl rfl ?_
 unfold plainF
 cases hA:may m
 ·have pa:=mayc (by omega) hA
  repeat(first|refine wD ?_|refine awp_seq_k fun K hK=>?_|refine wN fun bx=>?_|refine wC pa ?_|(refine wH ?_;clear hK))
  refine r1 ?_
  exact Sub.nilsv _ _
 ·have pa:=mayc (by omega) hA
  repeat(first|refine wD ?_|refine awp_seq_k fun K hK=>?_|refine wN fun bx=>?_|refine wC pa ?_|(refine wH ?_;clear hK))
  refine r1 ?_
  exact Sub.refl _
def classF (m:List Pw):Int:=match (plainF m).getLast? with|some p=>p.1|none=>0
theorem cbClass:Callable Tryz.prog 112:=fun _ _=>by kernel_rfl
theorem class_c (m:List Pw) (hm:m.length≤400000):PCalls Tryz.prog 112 [mono m] (.int .i64 (classF m)):=by
 refine pcalls_of_awp tyok cbClass Tryz.func112 rfl rfl ?_
 unfold classF
 have hl:=plainF_len m
 have pp:=plain_c m hm
 generalize plainF m=q at*
 by_cases hq:q=[]
 ·subst hq
  repeat(first|refine wDB ?_|refine awp_seq_k fun K hK=>?_|refine wN fun bx=>?_|refine wC pp ?_|(refine wH ?_;clear hK))
  refine r1 ?_
  exact Sub.refl _
 ·have h0:0<q.length:=List.length_pos_iff.2 hq
  repeat(first|refine wDB ?_|refine awp_seq_k fun K hK=>?_|refine wN fun bx=>?_|refine wC pp ?_|(refine wH ?_;clear hK))
  refine r1 ?_
  refine Sub.of_eq ?_
  have e:((q.length:Int)-1).toNat=q.length-1:=by omega
  rw[e,List.getLast?_eq_getElem?,List.getD,List.getElem?_eq_getElem (by omega)]
  rfl
def degF (v:Int):List Pw→Int
 |[]=>0
 |p::m=>if p.1=v then p.2 else degF v m
theorem cbDegree:Callable Tryz.prog 172:=fun _ _=>by kernel_rfl
theorem degree_c (m:List Pw) (v:Int) (hm:m.length≤400000):PCalls Tryz.prog 172 [mono m,.int .i64 v] (.int .i64 (degF v (plainF m))):=by
 refine pcalls_of_awp tyok cbDegree Tryz.func172 rfl rfl ?_
 have hl:=plainF_len m
 have pp:=plain_c m hm
 generalize plainF m=q at*
 repeat(first|refine wD ?_|refine awp_seq_k fun K hK=>?_|refine wN fun bx=>?_|refine wC pp ?_|(refine wH ?_;clear hK))
 refine awp_loop0 (ι:={x:Nat//x≤q.length∧degF v q=degF v (q.drop x)})
  (fun x=>[(10,.int .i64 x.1),(9,.int .i64 q.length),(8,mono q),(1,.int .i64 v)]) (fun _=>[]) (fun x=>q.length-x.1) ⟨0,Nat.zero_le _,rfl⟩ ?_ dp ?_
 ·exact wk
 rintro⟨k,hk,hf⟩
 simp only at hk hf ⊢
 repeat(first|refine wD ?_|refine awp_seq_k fun K hK=>?_|refine wN fun bx=>?_|(refine wH ?_;clear hK))
 refine awp_cond rfl (fun hb=>?_) (fun hb=>?_)
 ·have hlt:k<q.length:=by simpa using hb
  have hd:q.drop k=q.getD k default::q.drop (k+1):=drop_getD hlt
  repeat(first|refine wD ?_|refine awp_seq_k fun K hK=>?_|refine wN fun bx=>?_|(refine wH ?_;clear hK))
  refine awp_cond rfl (fun hb=>?_) (fun hb=>?_)
  ·repeat(first|refine wD ?_|refine awp_seq_k fun K hK=>?_|refine wN fun bx=>?_|(refine wH ?_;clear hK))
   refine r1 ?_
   refine Sub.of_eq ?_
   rw[hf,hd,degF,if_pos (by simpa using hb)]
   rfl
  ·repeat(first|refine wD ?_|refine awp_seq_k fun K hK=>?_|refine wN fun bx=>?_|(refine wH ?_;clear hK))
   refine⟨⟨k+1,hlt,?_⟩,?_,dp,?_⟩
   ·rw[hf,hd,degF,if_neg (by simpa using hb)]
   ·exact wk
   ·simp only;omega
 ·have hge:k=q.length:=by simp at hb;omega
  repeat(first|refine wD ?_|refine awp_seq_k fun K hK=>?_|refine wN fun bx=>?_|(refine wH ?_;clear hK))
  refine r1 ?_
  refine Sub.of_eq ?_
  rw[hf,hge]
  simp[degF]
def withoutF (v:Int) (m:List Pw):List Pw:=m.filter fun p=>decide (p.1≠v)
end Go.Proofs.YtamgilppehibeaaGreatDoor
namespace Go.Proofs.YtamgilppehibeaaGreatDoor
open Go.Ab
theorem cbWithout:Callable Tryz.prog 175:=fun _ _=>by kernel_rfl
theorem without_c (m:List Pw) (v:Int) (hm:m.length≤400000):PCalls Tryz.prog 175 [mono m,.int .i64 v] (mono (withoutF v (plainF m))):=by
 refine pcalls_of_awp tyok cbWithout Tryz.func175 rfl rfl ?_
 have hl:=plainF_len m
 have pp:=plain_c m hm
 generalize plainF m=q at*
 refine awp_tok0 2 103 ?_
 repeat(first|refine wD ?_|refine awp_seq_k fun K hK=>?_|refine wN fun bx=>?_|refine wC pp ?_|(refine wH ?_;clear hK))
 refine awp_loopP (ι:={x:Nat×Option Addr×Nat×List Pw//x.1≤q.length∧withoutF v q=x.2.2.2++withoutF v (q.drop x.1)∧x.2.2.2.length≤x.1})
  (fun x=>[(10,.int .i64 x.1.1),(9,.int .i64 q.length),(8,mono q),(1,.int .i64 v),(4,sl encP 2 x.1.2.2.2 (.own x.1.2.1 x.1.2.2.1))]) (fun x=>[.tok x.1.2.1 x.1.2.2.1 x.1.2.2.2.length 2 103])
  (fun x=>q.length-x.1.1) ⟨(0,none,0,[]),Nat.zero_le _,rfl,Nat.le_refl _⟩ ?_ ⟨[],List.Perm.refl _⟩ ?_
 ·exact wk
 rintro⟨⟨k,ad,cp,out⟩,hk,hf,ho⟩
 simp only at hk hf ho ⊢
 repeat(first|refine wD ?_|refine awp_seq_k fun K hK=>?_|refine wN fun bx=>?_|(refine wH ?_;clear hK))
 refine awp_cond rfl (fun hb=>?_) (fun hb=>?_)
 ·have hlt:k<q.length:=by simpa using hb
  have hd:q.drop k=q.getD k default::q.drop (k+1):=drop_getD hlt
  repeat(first|refine wD ?_|refine awp_seq_k fun K hK=>?_|refine wN fun bx=>?_|(refine wH ?_;clear hK))
  refine awp_cond rfl (fun hb=>?_) (fun hb=>?_)
  ·have hne:(q.getD k default).1≠v:=by simpa using hb
   repeat(first|refine wD ?_|refine awp_seq_k fun K hK=>?_|refine wN fun bx=>?_|(refine wH ?_;clear hK))
   refine TR.appendO tyok 1 (fun ad cp=>sl encP 2 (out++[q.getD k default]) (.own ad cp)) rfl rfl rfl rfl (by first|exact True.intro|exact⟨id,True.intro⟩|exact⟨id,id,True.intro⟩|exact⟨id,id,id,True.intro⟩) rfl rfl rfl rfl rfl rfl rfl rfl rfl rfl ?_ (fun ad cp=>glue_sl1 encP 2 out (q.getD k default) _ rfl _) (fun ad cp=>?_)
   ·show(_+1)*16≤_∧_+1≤_
    omega
   repeat(first|refine wD ?_|refine awp_seq_k fun K hK=>?_|refine wN fun bx=>?_|(refine wH ?_;clear hK))
   refine⟨⟨(k+1,ad,cp,out++[q.getD k default]),hlt,?_,by simp;omega⟩,?_,dropP1 (by simp only[List.length_append];rfl),?_⟩
   ·show withoutF v q=(out++[q.getD k default])++withoutF v (q.drop (k+1))
    rw[hf,hd,List.append_assoc]
    congr 1
    exact List.filter_cons_of_pos (decide_eq_true hne)
   ·exact wk
   ·simp only;omega
  ·have heq:(q.getD k default).1=v:=by simpa using hb
   repeat(first|refine wD ?_|refine awp_seq_k fun K hK=>?_|refine wN fun bx=>?_|(refine wH ?_;clear hK))
   refine⟨⟨(k+1,ad,cp,out),hlt,?_,by simp only;omega⟩,?_,⟨[_],List.Perm.refl _⟩,?_⟩
   ·show withoutF v q=out++withoutF v (q.drop (k+1))
    rw[hf,hd]
    congr 1
    exact List.filter_cons_of_neg (by simp only[heq];simp)
   ·exact wk
   ·simp only;omega
 ·have hge:k=q.length:=by simp at hb;omega
  repeat(first|refine wD ?_|refine awp_seq_k fun K hK=>?_|refine wN fun bx=>?_|(refine wH ?_;clear hK))
  refine fnQ_p1 1 rfl rfl rfl rfl ?_
  rw[hf,hge]
  simp only[List.drop_length,withoutF,List.filter_nil,List.append_nil]
  exact Sub.view _ _ _ _
def oneF:List Int→List Pw
 |a::b::r=>(a,b)::oneF r
 |_=>[]
abbrev ints (xs:List Int):AV:=sl (fun x=>[.int .i64 x]) 1 xs .view
def sameF (a b:List Pw):Bool:=decide (a=b)
end Go.Proofs.YtamgilppehibeaaGreatDoor
namespace Go.Proofs.YtamgilppehibeaaGreatDoor
open Go.Ab
theorem may_cons {last:Int} {p:Pw} {m:List Pw}:mayF last (p::m)=true↔(last<p.1∧p.1≤200∧1≤p.2∧p.2≤10000)∧mayF p.1 m=true:=by
 rw[mayF]
 split
 ·rename_i h
  simp only[Bool.or_eq_true,decide_eq_true_eq]at h
  constructor
  ·intro h;cases h
  ·rintro⟨h',_⟩;omega
 ·rename_i h
  simp only[Bool.or_eq_true,decide_eq_true_eq,not_or]at h
  constructor
  ·intro h';exact⟨by omega,h'⟩
  ·exact fun h'=>h'.2
theorem deg_none {v:Int}:∀(m:List Pw),(∀p∈m,p.1≠v)→degF v m=0
 |[],_=>rfl
 |p::m,h=>by
  rw[degF,if_neg (h p (by simp)),deg_none m fun q hq=>h q (by simp[hq])]
end Go.Proofs.YtamgilppehibeaaGreatDoor
namespace Go.Proofs.YtamgilppehibeaaGreatDoor
open Go.Ab
def Lt2 (p q:Pw):Prop:=p.1<q.1
def LtT (s t:Tr):Prop:=s.1<t.1
theorem may_iff:∀(m:List Pw) (last:Int),mayF last m=true↔(∀p∈m,last<p.1∧p.1≤200∧1≤p.2∧p.2≤10000)∧m.Pairwise Lt2
 |[],_=>⟨fun _=>⟨by simp,.nil⟩,fun _=>rfl⟩
 |p::m,last=>by
  rw[may_cons,may_iff m p.1]
  constructor
  ·rintro⟨h1,h2,h3⟩
   refine⟨fun q hq=>?_,List.pairwise_cons.2 ⟨fun q hq=>(h2 q hq).1,h3⟩⟩
   rcases List.mem_cons.1 hq with rfl|hq
   ·exact h1
   ·have:=h2 q hq;omega
  ·rintro⟨h1,h2⟩
   obtain⟨h2,h3⟩:=List.pairwise_cons.1 h2
   refine⟨h1 p (by simp),fun q hq=>?_,h3⟩
   have:=h1 q (by simp[hq])
   have h4:p.1<q.1:=h2 q hq
   omega
theorem zip_lt (v:Int) (a b:List Pw) (ha:∀p∈a,v<p.1) (hb:∀p∈b,v<p.1):∀t∈zipM a b,v<t.1:=by
 fun_induction zipM a b with
 |case1=>intro t ht;cases ht
 |case2 p a ih=>
  intro t ht
  rcases List.mem_cons.1 ht with rfl|ht
  ·exact ha p (by simp)
  ·exact ih (fun p hp=>ha p (by simp[hp])) hb t ht
 |case3 q b ih=>
  intro t ht
  rcases List.mem_cons.1 ht with rfl|ht
  ·exact hb q (by simp)
  ·exact ih ha (fun p hp=>hb p (by simp[hp])) t ht
 |case4 p a q b h ih=>
  intro t ht
  rcases List.mem_cons.1 ht with rfl|ht
  ·exact ha p (by simp)
  ·exact ih (fun p hp=>ha p (by simp[hp])) hb t ht
 |case5 p a q b h h' ih=>
  intro t ht
  rcases List.mem_cons.1 ht with rfl|ht
  ·exact hb q (by simp)
  ·exact ih ha (fun p hp=>hb p (by simp[hp])) t ht
 |case6 p a q b h h' ih=>
  intro t ht
  rcases List.mem_cons.1 ht with rfl|ht
  ·exact ha p (by simp)
  ·exact ih (fun p hp=>ha p (by simp[hp])) (fun p hp=>hb p (by simp[hp])) t ht
theorem zip_pw (a b:List Pw) (ha:a.Pairwise Lt2) (hb:b.Pairwise Lt2):(zipM a b).Pairwise LtT:=by
 fun_induction zipM a b with
 |case1=>exact .nil
 |case2 p a ih=>
  obtain⟨h1,h2⟩:=List.pairwise_cons.1 ha
  exact .cons (fun t ht=>zip_lt p.1 a [] h1 (by simp) t ht) (ih h2 hb)
 |case3 q b ih=>
  obtain⟨h1,h2⟩:=List.pairwise_cons.1 hb
  exact .cons (fun t ht=>zip_lt q.1 [] b (by simp) h1 t ht) (ih ha h2)
 |case4 p a q b h ih=>
  obtain⟨h1,h2⟩:=List.pairwise_cons.1 ha
  obtain⟨h3,_⟩:=List.pairwise_cons.1 hb
  refine .cons (fun t ht=>zip_lt p.1 a (q::b) h1 (fun r hr=>?_) t ht) (ih h2 hb)
  rcases List.mem_cons.1 hr with rfl|hr
  ·exact h
  ·exact Int.lt_trans h (h3 r hr)
 |case5 p a q b h h' ih=>
  obtain⟨h1,h2⟩:=List.pairwise_cons.1 ha
  obtain⟨h3,h4⟩:=List.pairwise_cons.1 hb
  refine .cons (fun t ht=>zip_lt q.1 (p::a) b (fun r hr=>?_) h3 t ht) (ih ha h4)
  rcases List.mem_cons.1 hr with rfl|hr
  ·exact h'
  ·exact Int.lt_trans h' (h1 r hr)
 |case6 p a q b h h' ih=>
  obtain⟨h1,h2⟩:=List.pairwise_cons.1 ha
  obtain⟨h3,h4⟩:=List.pairwise_cons.1 hb
  have e:p.1=q.1:=by omega
  exact .cons (fun t ht=>zip_lt p.1 a b h1 (fun r hr=>by rw[e];exact h3 r hr) t ht) (ih h2 h4)
theorem deg_head (v:Int) (p:Pw) (m:List Pw) (h:p.1=v):degF v (p::m)=p.2:=by rw[degF,if_pos h]
theorem deg_tail (v:Int) (p:Pw) (m:List Pw) (h:p.1≠v):degF v (p::m)=degF v m:=by rw[degF,if_neg h]
theorem deg_low {v:Int} {m:List Pw} (h:∀p∈m,v<p.1):degF v m=0:=deg_none m fun p hp=>by have:=h p hp;omega
theorem zip_deg (a b:List Pw) (ha:a.Pairwise Lt2) (hb:b.Pairwise Lt2):∀t∈zipM a b,t.2.1=degF t.1 a∧t.2.2=degF t.1 b:=by
 fun_induction zipM a b with
 |case1=>intro t ht;cases ht
 |case2 p a ih=>
  intro t ht
  obtain⟨h1,h2⟩:=List.pairwise_cons.1 ha
  rcases List.mem_cons.1 ht with rfl|ht
  ·exact⟨(deg_head p.1 p a rfl).symm,rfl⟩
  ·have:=zip_lt p.1 a [] h1 (by simp) t ht
   rw[deg_tail _ _ _ (by omega)]
   exact ih h2 hb t ht
 |case3 q b ih=>
  intro t ht
  obtain⟨h1,h2⟩:=List.pairwise_cons.1 hb
  rcases List.mem_cons.1 ht with rfl|ht
  ·exact⟨rfl,(deg_head q.1 q b rfl).symm⟩
  ·have:=zip_lt q.1 [] b (by simp) h1 t ht
   rw[deg_tail _ q b (by omega)]
   exact ih ha h2 t ht
 |case4 p a q b h ih=>
  intro t ht
  obtain⟨h1,h2⟩:=List.pairwise_cons.1 ha
  obtain⟨h3,_⟩:=List.pairwise_cons.1 hb
  have hq:∀r∈q::b,p.1<r.1:=fun r hr=>by
   rcases List.mem_cons.1 hr with rfl|hr
   ·exact h
   ·exact Int.lt_trans h (h3 r hr)
  rcases List.mem_cons.1 ht with rfl|ht
  ·exact⟨(deg_head p.1 p a rfl).symm,(deg_low hq).symm⟩
  ·have:=zip_lt p.1 a (q::b) h1 hq t ht
   rw[deg_tail _ p a (by omega)]
   exact ih h2 hb t ht
 |case5 p a q b h h' ih=>
  intro t ht
  obtain⟨h1,_⟩:=List.pairwise_cons.1 ha
  obtain⟨h3,h4⟩:=List.pairwise_cons.1 hb
  have hq:∀r∈p::a,q.1<r.1:=fun r hr=>by
   rcases List.mem_cons.1 hr with rfl|hr
   ·exact h'
   ·exact Int.lt_trans h' (h1 r hr)
  rcases List.mem_cons.1 ht with rfl|ht
  ·exact⟨(deg_low hq).symm,(deg_head q.1 q b rfl).symm⟩
  ·have:=zip_lt q.1 (p::a) b hq h3 t ht
   rw[deg_tail _ q b (by omega)]
   exact ih ha h4 t ht
 |case6 p a q b h h' ih=>
  intro t ht
  obtain⟨h1,h2⟩:=List.pairwise_cons.1 ha
  obtain⟨h3,h4⟩:=List.pairwise_cons.1 hb
  have e:p.1=q.1:=by omega
  rcases List.mem_cons.1 ht with rfl|ht
  ·exact⟨(deg_head p.1 p a rfl).symm,(deg_head p.1 q b e.symm).symm⟩
  ·have:=zip_lt p.1 a b h1 (fun r hr=>by rw[e];exact h3 r hr) t ht
   rw[deg_tail _ p a (by omega),deg_tail _ q b (by omega)]
   exact ih h2 h4 t ht
theorem zip_all (v:Int) (a b:List Pw) (h:(∃p∈a,p.1=v)∨∃p∈b,p.1=v):∃t∈zipM a b,t.1=v:=by
 fun_induction zipM a b with
 |case1=>simp at h
 |case2 p a ih=>
  rcases h with⟨r,hr,e⟩|⟨r,hr,e⟩
  ·rcases List.mem_cons.1 hr with rfl|hr
   ·exact⟨_,List.mem_cons_self ..,e⟩
   ·obtain⟨t,ht,e⟩:=ih (.inl ⟨r,hr,e⟩)
    exact⟨t,by simp[ht],e⟩
  ·cases hr
 |case3 q b ih=>
  rcases h with⟨r,hr,e⟩|⟨r,hr,e⟩
  ·cases hr
  ·rcases List.mem_cons.1 hr with rfl|hr
   ·exact⟨_,List.mem_cons_self ..,e⟩
   ·obtain⟨t,ht,e⟩:=ih (.inr ⟨r,hr,e⟩)
    exact⟨t,by simp[ht],e⟩
 |case4 p a q b h1 ih=>
  rcases h with⟨r,hr,e⟩|⟨r,hr,e⟩
  ·rcases List.mem_cons.1 hr with rfl|hr
   ·exact⟨_,List.mem_cons_self ..,e⟩
   ·obtain⟨t,ht,e⟩:=ih (.inl ⟨r,hr,e⟩)
    exact⟨t,by simp[ht],e⟩
  ·obtain⟨t,ht,e⟩:=ih (.inr ⟨r,hr,e⟩)
   exact⟨t,by simp[ht],e⟩
 |case5 p a q b h1 h2 ih=>
  rcases h with⟨r,hr,e⟩|⟨r,hr,e⟩
  ·obtain⟨t,ht,e⟩:=ih (.inl ⟨r,hr,e⟩)
   exact⟨t,by simp[ht],e⟩
  ·rcases List.mem_cons.1 hr with rfl|hr
   ·exact⟨_,List.mem_cons_self ..,e⟩
   ·obtain⟨t,ht,e⟩:=ih (.inr ⟨r,hr,e⟩)
    exact⟨t,by simp[ht],e⟩
 |case6 p a q b h1 h2 ih=>
  have e':p.1=q.1:=by omega
  rcases h with⟨r,hr,e⟩|⟨r,hr,e⟩
  ·rcases List.mem_cons.1 hr with rfl|hr
   ·exact⟨_,List.mem_cons_self ..,e⟩
   ·obtain⟨t,ht,e⟩:=ih (.inl ⟨r,hr,e⟩)
    exact⟨t,by simp[ht],e⟩
  ·rcases List.mem_cons.1 hr with rfl|hr
   ·exact⟨_,List.mem_cons_self ..,e'.trans e⟩
   ·obtain⟨t,ht,e⟩:=ih (.inr ⟨r,hr,e⟩)
    exact⟨t,by simp[ht],e⟩
def Srt (m:List Pw):Prop:=m.Pairwise Lt2∧∀p∈m,0<p.2
theorem made_mem {g:Tr→Int} {L:List Tr} {p:Pw} (h:p∈madeF g L):∃t∈L,p=(t.1,g t)∧0<g t:=by
 obtain⟨t,ht,e⟩:=List.mem_filterMap.1 h
 split at e
 ·rename_i hg
  cases e
  exact⟨t,ht,rfl,hg⟩
 ·cases e
theorem made_srt (g:Tr→Int):∀(L:List Tr),L.Pairwise LtT→Srt (madeF g L)
 |[],_=>⟨.nil,by simp[madeF]⟩
 |t::L,h=>by
  obtain⟨h1,h2⟩:=List.pairwise_cons.1 h
  obtain⟨ih1,ih2⟩:=made_srt g L h2
  by_cases hg:g t>0
  ·have e:madeF g (t::L)=(t.1,g t)::madeF g L:=by simp[madeF,hg]
   rw[e]
   refine⟨.cons (fun p hp=>?_) ih1,fun p hp=>?_⟩
   ·obtain⟨s,hs,rfl,_⟩:=made_mem hp
    exact h1 s hs
   ·rcases List.mem_cons.1 hp with rfl|hp
    ·exact hg
    ·exact ih2 p hp
  ·have e:madeF g (t::L)=madeF g L:=by simp[madeF,hg]
   rw[e]
   exact⟨ih1,ih2⟩
theorem deg_made_none {g:Tr→Int} {L:List Tr} {v:Int} (h:∀t∈L,t.1≠v):degF v (madeF g L)=0:=
 deg_none _ fun p hp=>by
  obtain⟨t,ht,rfl,_⟩:=made_mem hp
  exact h t ht
theorem deg_made {g:Tr→Int}:∀{L:List Tr} {t:Tr},L.Pairwise LtT→t∈L→degF t.1 (madeF g L)=if 0<g t then g t else 0
 |s::L,t,h,ht=>by
  obtain⟨h1,h2⟩:=List.pairwise_cons.1 h
  rcases List.mem_cons.1 ht with rfl|ht
  ·by_cases hg:g t>0
   ·have e:madeF g (t::L)=(t.1,g t)::madeF g L:=by simp[madeF,hg]
    rw[e,deg_head t.1 (t.1,g t) _ rfl,if_pos hg]
   ·have e:madeF g (t::L)=madeF g L:=by simp[madeF,hg]
    rw[e,if_neg hg]
    exact deg_made_none fun u hu=>by have:t.1<u.1:=h1 u hu;omega
  ·have hlt:s.1<t.1:=h1 t ht
   by_cases hg:g s>0
   ·have e:madeF g (s::L)=(s.1,g s)::madeF g L:=by simp[madeF,hg]
    rw[e,deg_tail _ _ _ (show s.1≠t.1 by omega)]
    exact deg_made h2 ht
   ·have e:madeF g (s::L)=madeF g L:=by simp[madeF,hg]
    rw[e]
    exact deg_made h2 ht
theorem deg_mem {v:Int}:∀{m:List Pw},degF v m≠0→∃p∈m,p.1=v
 |[],h=>absurd rfl h
 |p::m,h=>by
  by_cases e:p.1=v
  ·exact⟨p,by simp,e⟩
  ·rw[deg_tail _ _ _ e]at h
   obtain⟨q,hq,e⟩:=deg_mem h
   exact⟨q,by simp[hq],e⟩
theorem deg_zip {g:Tr→Int} (h0:∀v,g (v,0,0)=0) {a b:List Pw} (ha:a.Pairwise Lt2) (hb:b.Pairwise Lt2) (v:Int):
  degF v (madeF g (zipM a b))=if 0<g (v,degF v a,degF v b) then g (v,degF v a,degF v b) else 0:=by
 by_cases h:∃t∈zipM a b,t.1=v
 ·obtain⟨t,ht,rfl⟩:=h
  obtain⟨e1,e2⟩:=zip_deg a b ha hb t ht
  rw[deg_made (zip_pw a b ha hb) ht,←e1,←e2]
 ·have hn:∀t∈zipM a b,t.1≠v:=fun t ht e=>h ⟨t,ht,e⟩
  have e1:degF v a=0:=Classical.byContradiction fun hne=>h (zip_all v a b (.inl (deg_mem hne)))
  have e2:degF v b=0:=Classical.byContradiction fun hne=>h (zip_all v a b (.inr (deg_mem hne)))
  rw[deg_made_none hn,e1,e2,h0]
  rfl
theorem srt_ext:∀{a b:List Pw},Srt a→Srt b→(∀v,degF v a=degF v b)→a=b
 |[],[],_,_,_=>rfl
 |p::a,[],ha,_,h=>by
  have:=h p.1
  rw[deg_head _ _ _ rfl]at this
  have h2:=ha.2 p (by simp)
  simp[degF]at this
  omega
 |[],q::b,_,hb,h=>by
  have:=h q.1
  rw[deg_head _ _ _ rfl]at this
  have h2:=hb.2 q (by simp)
  simp[degF]at this
  omega
 |p::a,q::b,ha,hb,h=>by
  obtain⟨ha1,ha2⟩:=List.pairwise_cons.1 ha.1
  obtain⟨hb1,hb2⟩:=List.pairwise_cons.1 hb.1
  have hp:=ha.2 p (by simp)
  have hq:=hb.2 q (by simp)
  have e1:p.1=q.1:=by
   apply Classical.byContradiction
   intro hne
   rcases(by omega:p.1<q.1∨q.1<p.1)with hl|hl
   ·have:=h p.1
    rw[deg_head _ _ _ rfl,deg_low (m:=q::b)]at this
    ·omega
    ·intro r hr
     rcases List.mem_cons.1 hr with rfl|hr
     ·exact hl
     ·exact Int.lt_trans hl (hb1 r hr)
   ·have:=h q.1
    rw[deg_head q.1 q b rfl,deg_low (m:=p::a)]at this
    ·omega
    ·intro r hr
     rcases List.mem_cons.1 hr with rfl|hr
     ·exact hl
     ·exact Int.lt_trans hl (ha1 r hr)
  have e2:p.2=q.2:=by
   have:=h p.1
   rwa [deg_head _ _ _ rfl,deg_head _ _ _ e1.symm]at this
  have e:p=q:=Prod.ext e1 e2
  subst e
  congr 1
  refine srt_ext ⟨ha2,fun r hr=>ha.2 r (by simp[hr])⟩ ⟨hb2,fun r hr=>hb.2 r (by simp[hr])⟩ fun v=>?_
  by_cases ev:p.1=v
  ·subst ev
   rw[deg_low ha1,deg_low hb1]
  ·have:=h v
   rwa [deg_tail _ _ _ ev,deg_tail _ _ _ ev]at this
end Go.Proofs.YtamgilppehibeaaGreatDoor
namespace Go.Proofs.YtamgilppehibeaaGreatDoor
open Go.Ab
def stepC (c:Int) (t:Tr):Int:=if t.2.1=t.2.2 then c else cmpI t.2.1 t.2.2
theorem cmp_spec:∀(L:List Tr) (c:Int),L.Pairwise LtT→(L.foldl stepC c=c∧∀t∈L,t.2.1=t.2.2)∨
  ∃t∈L,t.2.1≠t.2.2∧L.foldl stepC c=cmpI t.2.1 t.2.2∧∀u∈L,t.1<u.1→u.2.1=u.2.2
 |[],c,_=>.inl ⟨rfl,by simp⟩
 |s::L,c,h=>by
  obtain⟨h1,h2⟩:=List.pairwise_cons.1 h
  rw[List.foldl_cons]
  rcases cmp_spec L (stepC c s) h2 with⟨e,hall⟩|⟨t,ht,hne,e,hl⟩
  ·by_cases hs:s.2.1=s.2.2
   ·left
    refine⟨by rw[e,stepC,if_pos hs],fun t ht=>?_⟩
    rcases List.mem_cons.1 ht with rfl|ht
    ·exact hs
    ·exact hall t ht
   ·right
    refine⟨s,by simp,hs,by rw[e,stepC,if_neg hs],fun u hu hlt=>?_⟩
    rcases List.mem_cons.1 hu with rfl|hu
    ·omega
    ·exact hall u hu
  ·right
   refine⟨t,by simp[ht],hne,e,fun u hu hlt=>?_⟩
   rcases List.mem_cons.1 hu with rfl|hu
   ·have:u.1<t.1:=h1 t ht
    omega
   ·exact hl u hu hlt
def Cm (f g:Int→Int) (c:Int):Prop:=(c=0∧∀v,f v=g v)∨∃v,f v≠g v∧c=cmpI (f v) (g v)∧∀u,v<u→f u=g u
theorem cm_zip {a b:List Pw} (ha:a.Pairwise Lt2) (hb:b.Pairwise Lt2):Cm (fun v=>degF v a) (fun v=>degF v b) (cmpF (zipM a b)):=by
 have hd:=zip_deg a b ha hb
 have hz:∀v,(∀t∈zipM a b,t.1≠v)→degF v a=degF v b:=fun v h=>by
  have e1:degF v a=0:=Classical.byContradiction fun hne=>by
   obtain⟨t,ht,e⟩:=zip_all v a b (.inl (deg_mem hne))
   exact h t ht e
  have e2:degF v b=0:=Classical.byContradiction fun hne=>by
   obtain⟨t,ht,e⟩:=zip_all v a b (.inr (deg_mem hne))
   exact h t ht e
  rw[e1,e2]
 have key:∀v,(∀t∈zipM a b,t.1=v→t.2.1=t.2.2)→degF v a=degF v b:=fun v h=>by
  by_cases hex:∃t∈zipM a b,t.1=v
  ·obtain⟨t,ht,rfl⟩:=hex
   rw[←(hd t ht).1,←(hd t ht).2]
   exact h t ht rfl
  ·exact hz v fun t ht e=>hex ⟨t,ht,e⟩
 rcases cmp_spec (zipM a b) 0 (zip_pw a b ha hb)with⟨e,hall⟩|⟨t,ht,hne,e,hl⟩
 ·exact .inl ⟨e,fun v=>key v fun t ht _=>hall t ht⟩
 ·refine .inr ⟨t.1,?_,?_,fun u hu=>key u fun s hs es=>hl s hs (by omega)⟩
  ·show degF t.1 a≠degF t.1 b
   rw[←(hd t ht).1,←(hd t ht).2]
   exact hne
  ·show _=cmpI (degF t.1 a) (degF t.1 b)
   rw[←(hd t ht).1,←(hd t ht).2]
   exact e
theorem cmpI_cases (x y:Int):(x<y∧cmpI x y= -1)∨(y<x∧cmpI x y=1)∨(x=y∧cmpI x y=0):=by
 unfold cmpI
 by_cases h1:x<y
 ·exact .inl ⟨h1,if_pos h1⟩
 ·by_cases h2:x>y
  ·exact .inr (.inl ⟨h2,by rw[if_neg h1,if_pos h2]⟩)
  ·exact .inr (.inr ⟨by omega,by rw[if_neg h1,if_neg h2]⟩)
inductive Tri (f g:Int→Int):Int→Prop
 |lt (v:Int) (h:f v<g v) (hu:∀u,v<u→f u=g u):Tri f g (-1)
 |eq (h:∀v,f v=g v):Tri f g 0
 |gt (v:Int) (h:g v<f v) (hu:∀u,v<u→f u=g u):Tri f g 1
theorem Cm.tri {f g:Int→Int} {c:Int} (h:Cm f g c):Tri f g c:=by
 rcases h with⟨rfl,h⟩|⟨v,hne,rfl,hu⟩
 ·exact .eq h
 ·rcases cmpI_cases (f v) (g v)with⟨h,e⟩|⟨h,e⟩|⟨h,e⟩
  ·rw[e];exact .lt v h hu
  ·rw[e];exact .gt v h hu
  ·exact absurd h hne
theorem Tri.unique {f g:Int→Int} {c c':Int} (h:Tri f g c) (k:Tri f g c'):c=c':=by
 cases h with
 |lt v h hu=>
  cases k with
  |lt=>rfl
  |eq k=>have:=k v;omega
  |gt w k ku=>
   rcases(by omega:v<w∨w<v∨v=w)with e|e|e
   ·have:=hu w e;omega
   ·have:=ku v e;omega
   ·subst e;omega
 |eq h=>
  cases k with
  |lt w k=>have:=h w;omega
  |eq=>rfl
  |gt w k=>have:=h w;omega
 |gt v h hu=>
  cases k with
  |gt=>rfl
  |eq k=>have:=k v;omega
  |lt w k ku=>
   rcases(by omega:v<w∨w<v∨v=w)with e|e|e
   ·have:=hu w e;omega
   ·have:=ku v e;omega
   ·subst e;omega
theorem Tri.symm {f g:Int→Int} {c:Int} (h:Tri f g c):Tri g f (-c):=by
 cases h with
 |lt v h hu=>exact .gt v h fun u x=>(hu u x).symm
 |eq h=>exact .eq fun v=>(h v).symm
 |gt v h hu=>exact .lt v h fun u x=>(hu u x).symm
theorem Tri.add {f g f' g':Int→Int} {c:Int} (h:Tri f g c) (e:∀v,f' v-g' v=f v-g v):Tri f' g' c:=by
 cases h with
 |lt v h hu=>exact .lt v (by have:=e v;omega) fun u x=>by have:=e u;have:=hu u x;omega
 |eq h=>exact .eq fun v=>by have:=e v;have:=h v;omega
 |gt v h hu=>exact .gt v (by have:=e v;omega) fun u x=>by have:=e u;have:=hu u x;omega
theorem Tri.le {f g h:Int→Int} {x z w:Int} (hx:Tri f g x) (hz:Tri g h z) (hw:Tri f h w) (x0:x≤0) (z0:z≤0):w≤0:=by
 have key:Tri f h (-1)∨Tri f h 0:=by
  cases hx with
  |gt=>omega
  |eq e=>
   have:f=g:=funext e
   subst this
   cases hz with
   |gt=>omega
   |eq e=>exact .inr (.eq e)
   |lt v h hu=>exact .inl (.lt v h hu)
  |lt v h1 hu=>
   cases hz with
   |gt=>omega
   |eq e=>
    have:g=h:=funext e
    subst this
    exact .inl (.lt v h1 hu)
   |lt v' h2 hu'=>
    left
    rcases(by omega:v<v'∨v'<v∨v=v')with e|e|e
    ·exact .lt v' (by have:=hu v' e;omega) fun u x=>by have:=hu u (by omega);have:=hu' u x;omega
    ·exact .lt v (by have:=hu' v e;omega) fun u x=>by have:=hu u x;have:=hu' u (by omega);omega
    ·subst e
     exact .lt v (by omega) fun u x=>by have:=hu u x;have:=hu' u x;omega
 rcases key with k|k<;>have:=hw.unique k<;>omega
theorem Tri.ge {f g h:Int→Int} {x z w:Int} (hx:Tri f g x) (hz:Tri g h z) (hw:Tri f h w) (x0:0≤x) (z0:0≤z):0≤w:=by
 have:=Tri.le hz.symm hx.symm hw.symm (by omega) (by omega)
 omega
theorem Tri.cases {f g:Int→Int} {c:Int} (h:Tri f g c):c= -1∨c=0∨c=1:=by
 cases h<;>simp
theorem may_srt {m:List Pw} (h:may m=true):Srt m:=by
 obtain⟨h1,h2⟩:=(may_iff m 0).1 h
 exact⟨h2,fun p hp=>by have:=h1 p hp;omega⟩
theorem deg_nonneg {m:List Pw} (h:Srt m) (v:Int):0≤degF v m:=by
 by_cases hz:degF v m=0
 ·omega
 ·have:∀(m:List Pw),(∀p∈m,0<p.2)→0≤degF v m:=by
   intro m
   induction m with
   |nil=>intro _;simp[degF]
   |cons p m ih=>
    intro hp
    by_cases e:p.1=v
    ·rw[deg_head _ _ _ e]
     have:=hp p (by simp)
     omega
    ·rw[deg_tail _ _ _ e]
     exact ih fun q hq=>hp q (by simp[hq])
  exact this m h.2
theorem compare_tri {a b:List Pw} (ha:may a=true) (hb:may b=true):∃c,compareF a b=(c,0)∧Tri (fun v=>degF v a) (fun v=>degF v b) c:=by
 refine⟨cmpF (zipM a b),?_,(cm_zip (may_srt ha).1 (may_srt hb).1).tri⟩
 rw[compareF,ha,hb]
 rfl
theorem tri_zero {a b:List Pw} (ha:may a=true) (hb:may b=true) {c:Int} (h:Tri (fun v=>degF v a) (fun v=>degF v b) c):c=0↔a=b:=by
 constructor
 ·rintro rfl
  have key:∀{c},Tri (fun v=>degF v a) (fun v=>degF v b) c→c=0→∀v,degF v a=degF v b:=by
   intro c h e
   cases h with
   |lt=>omega
   |gt=>omega
   |eq h=>exact h
  exact srt_ext (may_srt ha) (may_srt hb) (key h rfl)
 ·rintro rfl
  exact h.unique (.eq fun _=>rfl)
theorem gAdd0 (v:Int):gAdd (v,0,0)=0:=rfl
theorem deg_add {a b:List Pw} (ha:Srt a) (hb:Srt b) (v:Int):degF v (madeF gAdd (zipM a b))=degF v a+degF v b:=by
 rw[deg_zip gAdd0 ha.1 hb.1]
 have h1:=deg_nonneg ha v
 have h2:=deg_nonneg hb v
 have e:gAdd (v,degF v a,degF v b)=degF v a+degF v b:=rfl
 rw[e]
 by_cases h:0<degF v a+degF v b
 ·rw[if_pos h]
 ·rw[if_neg h];omega
theorem made_srt' (g:Tr→Int) {a b:List Pw} (ha:Srt a) (hb:Srt b):Srt (madeF g (zipM a b)):=made_srt g _ (zip_pw a b ha.1 hb.1)
theorem total_law {a b c:List Pw} (ha:may a=true) (hb:may b=true) (hc:may c=true):∃x z w o:Int,
  compareF a b=(x,0)∧compareF b a=(-x,0)∧compareF b c=(z,0)∧compareF a c=(w,0)∧compareF a []=(o,0)∧(x=0↔a=b)∧(x≤0→z≤0→w≤0)∧(0≤x→0≤z→0≤w)∧
  0≤o∧(o=0↔a=[])∧(x= -1∨x=0∨x=1)∧
  ∀p q,timesF a c=(p,0)→timesF b c=(q,0)→compareF p q=(x,0):=by
 obtain⟨x,e1,h1⟩:=compare_tri ha hb
 obtain⟨y,e2,h2⟩:=compare_tri hb ha
 obtain⟨z,e3,h3⟩:=compare_tri hb hc
 obtain⟨w,e4,h4⟩:=compare_tri ha hc
 have hn:may []=true:=rfl
 obtain⟨o,e5,h5⟩:=compare_tri ha hn
 have hy:y= -x:=h2.unique h1.symm
 subst hy
 refine⟨x,z,w,o,e1,e2,e3,e4,e5,tri_zero ha hb h1,Tri.le h1 h3 h4,Tri.ge h1 h3 h4,?_,tri_zero ha hn h5,h1.cases,?_⟩
 ·have key:∀{c},Tri (fun v=>degF v a) (fun v=>degF v []) c→0≤c:=by
   intro c h
   cases h with
   |lt v h=>
    have:=deg_nonneg (may_srt ha) v
    have e:degF v []=0:=rfl
    simp only[e]at h
    omega
   |gt=>omega
   |eq=>omega
  exact key h5
 ·intro p q hp hq
  have hpq:∀{a p:List Pw},may a=true→timesF a c=(p,0)→may p=true∧∀v,degF v p=degF v a+degF v c:=by
   intro a p ha hp
   rw[timesF,ha,hc]at hp
   simp only[Bool.and_self,if_true]at hp
   split at hp
   ·rename_i hm
    cases hp
    exact⟨hm,deg_add (may_srt ha) (may_srt hc)⟩
   ·cases hp
  obtain⟨mp,dp⟩:=hpq ha hp
  obtain⟨mq,dq⟩:=hpq hb hq
  obtain⟨v,ev,hv⟩:=compare_tri mp mq
  rw[ev]
  have:Tri (fun v=>degF v p) (fun v=>degF v q) x:=h1.add fun v=>by simp only[dp,dq];omega
  rw[hv.unique this]
end Go.Proofs.YtamgilppehibeaaGreatDoor
namespace Go.Proofs.YtamgilppehibeaaGreatDoor
open Go.Ab
theorem deg_of_mem:∀{m:List Pw} {p:Pw},m.Pairwise Lt2→p∈m→degF p.1 m=p.2
 |q::m,p,h,hp=>by
  obtain⟨h1,h2⟩:=List.pairwise_cons.1 h
  rcases List.mem_cons.1 hp with rfl|hp
  ·exact deg_head _ _ _ rfl
  ·have:q.1<p.1:=h1 p hp
   rw[deg_tail _ _ _ (by omega)]
   exact deg_of_mem h2 hp
theorem may_of {m:List Pw} (h:Srt m) (hb:∀v,degF v m≠0→1≤v∧v≤200∧degF v m≤10000):may m=true:=by
 refine(may_iff m 0).2 ⟨fun p hp=>?_,h.1⟩
 have e:=deg_of_mem h.1 hp
 have h1:=h.2 p hp
 have:=hb p.1 (by omega)
 omega
theorem deg_bnd {m:List Pw} (h:may m=true) {v:Int} (hv:degF v m≠0):1≤v∧v≤200∧degF v m≤10000:=by
 obtain⟨p,hp,e⟩:=deg_mem hv
 subst e
 have:=deg_of_mem (may_srt h).1 hp
 have:=((may_iff m 0).1 h).1 p hp
 omega
theorem plain_may {m:List Pw} (h:may m=true):plainF m=m:=if_pos h
theorem timesF_of {a b m:List Pw} (ha:may a=true) (hb:may b=true) (hm:may m=true) (h:∀v,degF v m=degF v a+degF v b):timesF a b=(m,0):=by
 have e:madeF gAdd (zipM a b)=m:=srt_ext (made_srt' gAdd (may_srt ha) (may_srt hb)) (may_srt hm) fun v=>by rw[deg_add (may_srt ha) (may_srt hb),h]
 rw[timesF,ha,hb,e,hm]
 rfl
theorem timesF_cases {a b:List Pw} (ha:may a=true) (hb:may b=true):timesF a b=([],8)∨timesF a b=(madeF gAdd (zipM a b),0):=by
 rw[timesF,ha,hb]
 cases may (madeF gAdd (zipM a b))
 ·exact .inl rfl
 ·exact .inr rfl
end Go.Proofs.YtamgilppehibeaaGreatDoor
namespace Go.Proofs.YtamgilppehibeaaGreatDoor
open Go.Ab
def ordM (a b:List Pw):Int:=(compareF a b).1
section
variable {a b c:List Pw}
theorem ordM_zero (ha:may a=true) (hb:may b=true):ordM a b=0↔a=b:=by
 obtain⟨x,z,w,o,e1,e2,e3,e4,e5,h,-⟩:=total_law ha hb hb
 unfold ordM
 rw[e1]
 exact h
theorem ordM_self (ha:may a=true):ordM a a=0:=(ordM_zero ha ha).2 rfl
theorem ordM_neg (ha:may a=true) (hb:may b=true):ordM b a= -ordM a b:=by
 obtain⟨x,z,w,o,e1,e2,-⟩:=total_law ha hb hb
 unfold ordM
 rw[e1,e2]
theorem ordM_ge (ha:may a=true) (hb:may b=true) (hc:may c=true) (h1:0≤ordM a b) (h2:0≤ordM b c):0≤ordM a c:=by
 obtain⟨x,z,w,o,e1,e2,e3,e4,e5,h,hle,hge,-⟩:=total_law ha hb hc
 unfold ordM at*
 rw[e1]at h1
 rw[e3]at h2
 rw[e4]
 exact hge h1 h2
theorem ordM_gt (ha:may a=true) (hb:may b=true) (hc:may c=true) (h1:0<ordM a b) (h2:0≤ordM b c):0<ordM a c:=by
 have h3:=ordM_ge ha hb hc (Int.le_of_lt h1) h2
 rcases(by omega:0<ordM a c∨ordM a c=0)with h|h
 ·exact h
 ·have e:=(ordM_zero ha hc).1 h
  subst e
  have:=ordM_neg ha hb
  omega
end
abbrev PZ:=List (Int×List Pw)
def coef:PZ→List Pw→Int
 |[],_=>0
 |t::l,m=>(if t.2=m then t.1 else 0)+coef l m
theorem coef_app:∀(p q:PZ) (m:List Pw),coef (p++q) m=coef p m+coef q m
 |[],q,m=>(Int.zero_add _).symm
 |t::p,q,m=>by rw[List.cons_append,coef,coef,coef_app p q m,Int.add_assoc]
theorem coef_perm {p q:PZ} (h:p.Perm q) (m:List Pw):coef p m=coef q m:=by
 induction h with
 |nil=>rfl
 |cons x _ ih=>rw[coef,coef,ih]
 |swap x y l=>simp only[coef];omega
 |trans _ _ ih1 ih2=>exact ih1.trans ih2
theorem coef_none:∀{p:PZ} {m:List Pw},(∀t∈p,t.2≠m)→coef p m=0
 |[],_,_=>rfl
 |t::p,m,h=>by
  rw[coef,if_neg (h t (List.mem_cons_self ..)),coef_none fun u hu=>h u (List.mem_cons_of_mem _ hu)]
  rfl
theorem coef_one {p:PZ} {m:List Pw} (h:∀t∈p,t.2=m):∀x,coef p x=if m=x then coef p m else 0:=fun x=>by
 by_cases e:m=x
 ·rw[if_pos e,e]
 ·rw[if_neg e,coef_none fun t ht=>by rw[h t ht];exact e]
structure Canon (p:PZ):Prop where
 nz:∀t∈p,t.1≠0
 may:∀t∈p,may t.2=true
 ord:p.Pairwise fun a b=>0<ordM a.2 b.2
theorem Canon.nil:Canon []:=⟨fun _ h=>absurd h List.not_mem_nil,fun _ h=>absurd h List.not_mem_nil,.nil⟩
theorem Canon.tail {t:Int×List Pw} {p:PZ} (h:Canon (t::p)):Canon p:=⟨fun u hu=>h.nz u (List.mem_cons_of_mem _ hu),fun u hu=>h.may u (List.mem_cons_of_mem _ hu),(List.pairwise_cons.1 h.ord).2⟩
theorem Canon.head {t:Int×List Pw} {p:PZ} (h:Canon (t::p)):∀u∈p,0<ordM t.2 u.2:=(List.pairwise_cons.1 h.ord).1
theorem Canon.mk' {t:Int×List Pw} {p:PZ} (h:Canon p) (h1:t.1≠0) (h2:Proofs.YtamgilppehibeaaGreatDoor.may t.2=true) (h3:∀u∈p,0<ordM t.2 u.2):Canon (t::p):=
 ⟨fun u hu=>by rcases List.mem_cons.1 hu with rfl|hu;exact h1;exact h.nz u hu,fun u hu=>by rcases List.mem_cons.1 hu with rfl|hu;exact h2;exact h.may u hu,List.pairwise_cons.2 ⟨h3,h.ord⟩⟩
theorem Canon.ne {t:Int×List Pw} {p:PZ} (h:Canon (t::p)):∀u∈p,u.2≠t.2:=fun u hu e=>by
 have h1:=h.head u hu
 rw[e,ordM_self (h.may t (List.mem_cons_self ..))]at h1
 omega
theorem Canon.lead {t:Int×List Pw} {p:PZ} (h:Canon (t::p)):coef (t::p) t.2=t.1:=by
 rw[coef,if_pos rfl,coef_none h.ne,Int.add_zero]
theorem Canon.at':∀{p:PZ},Canon p→∀t∈p,coef p t.2=t.1
 |[],_,t,ht=>absurd ht List.not_mem_nil
 |u::p,h,t,ht=>by
  rcases List.mem_cons.1 ht with rfl|ht
  ·exact h.lead
  ·rw[coef,if_neg (fun e=>h.ne t ht e.symm),Canon.at' h.tail t ht,Int.zero_add]
theorem coef_mem {p:PZ} {m:List Pw} (h:coef p m≠0):∃t∈p,t.2=m:=by
 by_cases e:∃t∈p,t.2=m
 ·exact e
 ·exact absurd (coef_none fun t ht em=>e ⟨t,ht,em⟩) h
theorem canon_ext:∀{p q:PZ},Canon p→Canon q→(∀m,coef p m=coef q m)→p=q
 |[],[],_,_,_=>rfl
 |[],t::q,_,hq,h=>by
  have h1:=h t.2
  rw[hq.lead]at h1
  exact absurd h1.symm (hq.nz t (List.mem_cons_self ..))
 |t::p,[],hp,_,h=>by
  have h1:=h t.2
  rw[hp.lead]at h1
  exact absurd h1 (hp.nz t (List.mem_cons_self ..))
 |t::p,u::q,hp,hq,h=>by
  have mt:=hp.may t (List.mem_cons_self ..)
  have mu:=hq.may u (List.mem_cons_self ..)
  have em:t.2=u.2:=by
   have h1:coef (u::q) t.2≠0:=by rw[←h,hp.lead];exact hp.nz t (List.mem_cons_self ..)
   have h2:coef (t::p) u.2≠0:=by rw[h,hq.lead];exact hq.nz u (List.mem_cons_self ..)
   obtain⟨v,hv,e1⟩:=coef_mem h1
   obtain⟨w,hw,e2⟩:=coef_mem h2
   rcases List.mem_cons.1 hv with rfl|hv
   ·exact e1.symm
   ·rcases List.mem_cons.1 hw with rfl|hw
    ·exact e2
    ·have g1:=hq.head v hv
     have g2:=hp.head w hw
     rw[e1]at g1
     rw[e2]at g2
     have:=ordM_neg mt mu
     omega
  have ec:t.1=u.1:=by
   have h1:=h t.2
   rw[hp.lead]at h1
   rw[h1,em,hq.lead]
  have et:t=u:=Prod.ext ec em
  subst et
  rw[canon_ext hp.tail hq.tail fun m=>by have:=h m;simp only[coef]at this;omega]
def putZ (c:Int) (m:List Pw):PZ→PZ
 |[]=>if c=0 then [] else [(c,m)]
 |t::p=>if 0<ordM t.2 m then t::putZ c m p
  else if ordM t.2 m=0 then(if c+t.1=0 then p else(c+t.1,m)::p)
  else if c=0 then t::p else(c,m)::t::p
theorem putZ_mem (c:Int) (m:List Pw):∀{p:PZ},∀u∈putZ c m p,u.2=m∨∃t∈p,t.2=u.2
 |[],u,hu=>by
  unfold putZ at hu
  split at hu
  ·exact absurd hu List.not_mem_nil
  ·rw[List.mem_singleton.1 hu]
   exact .inl rfl
 |t::p,u,hu=>by
  unfold putZ at hu
  split at hu
  ·rcases List.mem_cons.1 hu with rfl|hu
   ·exact .inr ⟨_,List.mem_cons_self ..,rfl⟩
   ·rcases putZ_mem c m u hu with h|⟨v,hv,e⟩
    ·exact .inl h
    ·exact .inr ⟨v,List.mem_cons_of_mem _ hv,e⟩
  split at hu
  ·split at hu
   ·exact .inr ⟨u,List.mem_cons_of_mem _ hu,rfl⟩
   ·rcases List.mem_cons.1 hu with rfl|hu
    ·exact .inl rfl
    ·exact .inr ⟨u,List.mem_cons_of_mem _ hu,rfl⟩
  split at hu
  ·exact .inr ⟨u,hu,rfl⟩
  ·rcases List.mem_cons.1 hu with rfl|hu
   ·exact .inl rfl
   ·exact .inr ⟨u,hu,rfl⟩
theorem putZ_law (c:Int) {m:List Pw} (hm:may m=true):∀{p:PZ},Canon p→Canon (putZ c m p)∧∀x,coef (putZ c m p) x=coef p x+if m=x then c else 0
 |[],h=>by
  unfold putZ
  split
  ·rename_i hc
   exact⟨h,fun x=>by simp[coef,hc]⟩
  ·rename_i hc
   exact⟨Canon.nil.mk' hc hm fun u hu=>absurd hu List.not_mem_nil,fun x=>by simp[coef]⟩
 |t::p,h=>by
  have mt:=h.may t (List.mem_cons_self ..)
  obtain⟨ih1,ih2⟩:=putZ_law c hm h.tail
  unfold putZ
  split
  ·rename_i h1
   refine⟨ih1.mk' (h.nz t (List.mem_cons_self ..)) mt fun u hu=>?_,fun x=>?_⟩
   ·rcases putZ_mem c m u hu with e|⟨v,hv,e⟩
    ·rw[e];exact h1
    ·rw[←e];exact h.head v hv
   ·simp only[coef,ih2]
    omega
  split
  ·rename_i h1 h2
   have e:=(ordM_zero mt hm).1 h2
   split
   ·rename_i hc
    refine⟨h.tail,fun x=>?_⟩
    simp only[coef,e]
    split<;>omega
   ·rename_i hc
    refine⟨h.tail.mk' hc hm fun u hu=>by rw[←e];exact h.head u hu,fun x=>?_⟩
    simp only[coef,e]
    split<;>omega
  rename_i h1 h2
  have h3:0<ordM m t.2:=by
   have:=ordM_neg mt hm
   omega
  split
  ·rename_i hc
   exact⟨h,fun x=>by simp[hc]⟩
  ·rename_i hc
   refine⟨h.mk' hc hm fun u hu=>?_,fun x=>?_⟩
   ·rcases List.mem_cons.1 hu with rfl|hu
    ·exact h3
    ·exact ordM_gt hm mt (h.may u (List.mem_cons_of_mem _ hu)) h3 (Int.le_of_lt (h.head u hu))
   ·simp only[coef]
    omega
theorem putZ_len (c:Int) (m:List Pw):∀p:PZ,(putZ c m p).length≤p.length+1
 |[]=>by unfold putZ;split<;>simp
 |t::p=>by
  have:=putZ_len c m p
  unfold putZ
  split
  ·simp only[List.length_cons];omega
  split
  ·split
   ·simp only[List.length_cons];omega
   ·simp only[List.length_cons];omega
  split
  ·simp only[List.length_cons];omega
  ·simp only[List.length_cons];omega
def addZ (p q:PZ):PZ:=q.foldl (fun p t=>putZ t.1 t.2 p) p
def colZ (l:PZ):PZ:=addZ [] l
theorem addZ_law:∀{q p:PZ},Canon p→(∀t∈q,may t.2=true)→Canon (addZ p q)∧∀x,coef (addZ p q) x=coef p x+coef q x
 |[],p,h,_=>⟨h,fun x=>by simp[addZ,coef]⟩
 |t::q,p,h,hq=>by
  obtain⟨h1,h2⟩:=putZ_law t.1 (hq t (List.mem_cons_self ..)) h
  obtain⟨h3,h4⟩:=addZ_law h1 fun u hu=>hq u (List.mem_cons_of_mem _ hu)
  refine⟨h3,fun x=>?_⟩
  have e:=h4 x
  rw[h2 x]at e
  rw[show addZ p (t::q)=addZ (putZ t.1 t.2 p) q from rfl,e]
  simp only[coef]
  omega
theorem addZ_len:∀(q p:PZ),(addZ p q).length≤p.length+q.length
 |[],p=>Nat.le_refl _
 |t::q,p=>by
  have h1:=putZ_len t.1 t.2 p
  have h2:=addZ_len q (putZ t.1 t.2 p)
  rw[show addZ p (t::q)=addZ (putZ t.1 t.2 p) q from rfl,List.length_cons]
  omega
theorem colZ_law {l:PZ} (h:∀t∈l,may t.2=true):Canon (colZ l)∧∀x,coef (colZ l) x=coef l x:=by
 obtain⟨h1,h2⟩:=addZ_law Canon.nil h
 exact⟨h1,fun x=>by rw[show colZ l=addZ [] l from rfl,h2 x];simp[coef]⟩
theorem colZ_len (l:PZ):(colZ l).length≤l.length:=by
 have:=addZ_len l []
 simpa [colZ]using this
theorem colZ_unique {l p:PZ} (hl:∀t∈l,may t.2=true) (hp:Canon p) (h:∀x,coef p x=coef l x):p=colZ l:=
 canon_ext hp (colZ_law hl).1 fun m=>(h m).trans ((colZ_law hl).2 m).symm
theorem addZ_col {p q:PZ} (hp:Canon p) (hq:∀t∈q,may t.2=true):addZ p q=colZ (p++q):=by
 obtain⟨h1,h2⟩:=addZ_law hp hq
 refine colZ_unique (fun t ht=>?_) h1 fun x=>by rw[h2,coef_app]
 rcases List.mem_append.1 ht with ht|ht
 ·exact hp.may t ht
 ·exact hq t ht
def BdZ (B:Nat) (l:PZ):Prop:=∀t∈l,t.1.natAbs≤B
theorem coef_bd {B:Nat}:∀{l:PZ},BdZ B l→∀m,(coef l m).natAbs≤l.length*B
 |[],_,m=>by simp[coef]
 |t::l,h,m=>by
  have ih:=coef_bd (fun u hu=>h u (List.mem_cons_of_mem _ hu)) m
  have h1:=h t (List.mem_cons_self ..)
  rw[coef,List.length_cons,Nat.succ_mul]
  split<;>omega
def SrtZ (zs:PZ):Prop:=zs.Pairwise fun a b=>0≤ordM a.2 b.2
structure GrpI (zs:PZ) (k:Nat) (out:PZ):Prop where
 canon:Canon out
 sum:∀x,coef out x=coef (zs.take k) x
 ahead:∀u∈out,∀t∈zs.drop k,0<ordM u.2 t.2
theorem GrpI.start (zs:PZ):GrpI zs 0 []:=⟨Canon.nil,fun x=>by simp[coef],fun u hu=>absurd hu List.not_mem_nil⟩
theorem Canon.snoc {p:PZ} (h:Canon p) {t:Int×List Pw} (h1:t.1≠0) (h2:Proofs.YtamgilppehibeaaGreatDoor.may t.2=true) (h3:∀u∈p,0<ordM u.2 t.2):Canon (p++[t]):=by
 refine⟨fun u hu=>?_,fun u hu=>?_,List.pairwise_append.2 ⟨h.ord,List.pairwise_singleton _ _,fun u hu v hv=>by rw[List.mem_singleton.1 hv];exact h3 u hu⟩⟩
 ·rcases List.mem_append.1 hu with hu|hu
  ·exact h.nz u hu
  ·rw[List.mem_singleton.1 hu];exact h1
 ·rcases List.mem_append.1 hu with hu|hu
  ·exact h.may u hu
  ·rw[List.mem_singleton.1 hu];exact h2
theorem GrpI.step {zs:PZ} {k n:Nat} {out:PZ} {m:List Pw} {c:Int} (h:GrpI zs k out) (hs:SrtZ zs) (hy:∀t∈zs,may t.2=true) (hn:0<n) (hle:k+n≤zs.length)
  (hg:∀t∈(zs.drop k).take n,t.2=m) (hc:c=coef ((zs.drop k).take n) m) (hb:∀t,zs[k+n]?=some t→t.2≠m):GrpI zs (k+n) (if c=0 then out else out++[(c,m)]):=by
 have hk:k<zs.length:=by omega
 have hmem:zs[k]∈(zs.drop k).take n:=by
  rw[List.drop_eq_getElem_cons hk]
  cases n with
  |zero=>omega
  |succ n=>exact List.mem_cons_self ..
 have em:(zs[k]).2=m:=hg _ hmem
 have hmm:may m=true:=em▸hy _ (List.getElem_mem hk)
 have hd:zs.drop k=(zs.drop k).take n++zs.drop (k+n):=by
  rw[←List.drop_drop,List.take_append_drop]
 have hin:zs[k]∈zs.drop k:=by
  rw[List.drop_eq_getElem_cons hk]
  exact List.mem_cons_self ..
 have hout:∀u∈out,0<ordM u.2 m:=fun u hu=>em▸h.ahead u hu _ hin
 have h0:coef out m=0:=coef_none fun t ht e=>by
  have:=hout t ht
  rw[e,ordM_self hmm]at this
  omega
 have hsum:∀x,coef (zs.take (k+n)) x=coef out x+if m=x then c else 0:=fun x=>by
  rw[List.take_add,coef_app,←h.sum,coef_one hg x,←hc]
 have hah:∀t∈zs.drop (k+n),0<ordM m t.2:=fun t ht=>by
  have hlt:k+n<zs.length:=by
   rcases Nat.lt_or_ge (k+n) zs.length with h|h
   ·exact h
   ·rw[List.drop_of_length_le h]at ht
    exact absurd ht List.not_mem_nil
  have m1:=hy _ (List.getElem_mem hlt)
  have g1:0≤ordM zs[k].2 zs[k+n].2:=List.pairwise_iff_getElem.1 hs k (k+n) hk hlt (by omega)
  rw[em]at g1
  have g2:0<ordM m zs[k+n].2:=by
   rcases(by omega:0<ordM m zs[k+n].2∨ordM m zs[k+n].2=0)with e|e
   ·exact e
   ·exact absurd ((ordM_zero hmm m1).1 e).symm (hb _ (List.getElem?_eq_getElem hlt))
  rw[List.drop_eq_getElem_cons hlt]at ht
  rcases List.mem_cons.1 ht with rfl|ht
  ·exact g2
  ·obtain⟨j,hj,rfl⟩:=List.getElem_of_mem ht
   rw[List.length_drop]at hj
   rw[List.getElem_drop]
   have g3:=List.pairwise_iff_getElem.1 hs (k+n) (k+n+1+j) hlt (by omega) (by omega)
   exact ordM_gt hmm m1 (hy _ (List.getElem_mem _)) g2 g3
 have hol:∀u∈out,∀t∈zs.drop (k+n),0<ordM u.2 t.2:=fun u hu t ht=>h.ahead u hu t (by rw[hd];exact List.mem_append.2 (.inr ht))
 split
 ·rename_i e
  exact⟨h.canon,fun x=>by rw[hsum,e];simp,hol⟩
 ·rename_i e
  refine⟨h.canon.snoc e hmm hout,fun x=>by rw[hsum,coef_app];simp[coef],fun u hu t ht=>?_⟩
  rcases List.mem_append.1 hu with hu|hu
  ·exact hol u hu t ht
  ·rw[List.mem_singleton.1 hu]
   exact hah t ht
theorem GrpI.done {zs:PZ} {out:PZ} (h:GrpI zs zs.length out) (hy:∀t∈zs,may t.2=true):out=colZ zs:=
 colZ_unique hy h.canon fun x=>by rw[h.sum,List.take_length]
theorem colZ_perm {l zs:PZ} (hl:∀t∈l,may t.2=true) (h:zs.Perm l):colZ zs=colZ l:=by
 have hz:∀t∈zs,may t.2=true:=fun t ht=>hl t (h.mem_iff.1 ht)
 exact colZ_unique hl (colZ_law hz).1 fun x=>by rw[(colZ_law hz).2,coef_perm h]
end Go.Proofs.YtamgilppehibeaaGreatDoor
namespace Go.Proofs.YtamgilppehibeaaGreatDoor
open Go.Ab
def lastV (m:List Pw) (k:Nat):Int:=if k=0 then 0 else(m.getD (k-1) default).1
theorem lastV_succ (m:List Pw) (k:Nat):lastV m (k+1)=(m.getD k default).1:=by simp[lastV]
theorem cbRMay:Callable Tryz.prog 45:=fun _ _=>by kernel_rfl
theorem rmay_c (m:List Pw) (hm:m.length≤1000000):PCalls Tryz.prog 45 [mono m] (.bool (may m)):=by
 refine pcalls_of_awp tyok cbRMay Tryz.func45 rfl rfl ?_
 unfold may
 repeat(first|refine wD ?_|refine awp_seq_k fun K hK=>?_|refine wN fun bx=>?_|(refine wH ?_;clear hK))
 refine awp_loop0 (ι:={x:Nat//x≤m.length∧mayF 0 m=mayF (lastV m x) (m.drop x)∧0≤lastV m x})
  (fun x=>[(3,.int .i64 x.1),(0,mono m)]) (fun _=>[]) (fun x=>m.length-x.1) ⟨0,Nat.zero_le _,rfl,Int.le_refl _⟩ ?_ dp ?_
 ·exact wk
 rintro⟨k,hk,hf,h0⟩
 simp only at hk hf h0 ⊢
 repeat(first|refine wD ?_|refine awp_seq_k fun K hK=>?_|refine wN fun bx=>?_|(refine wH ?_;clear hK))
 refine awp_cond rfl (fun hb=>?_) (fun hb=>?_)
 ·have hlt:k<m.length:=by simpa using hb
  have hd:m.drop k=m.getD k default::m.drop (k+1):=drop_getD hlt
  rw[hd,mayF]at hf
  repeat(first|refine wD ?_|refine awp_seq_k fun K hK=>?_|refine wN fun bx=>?_|(refine wH ?_;clear hK))
  refine awp_cond rfl (fun hb=>?_) (fun hb=>?_)
  ·repeat(first|refine wD ?_|refine awp_seq_k fun K hK=>?_|refine wN fun bx=>?_|(refine wH ?_;clear hK))
   refine r1 ?_
   refine Sub.of_eq ?_
   congr 1
   rw[hf,if_pos]
   simp only[Int.toNat_natCast,Bool.or_eq_true,decide_eq_true_eq]at hb ⊢
   omega
  ·simp only[Int.toNat_natCast,Bool.or_eq_false_iff,decide_eq_false_iff_not]at hb
   repeat(first|refine wD ?_|refine awp_seq_k fun K hK=>?_|refine wN fun bx=>?_|(refine wH ?_;clear hK))
   refine awp_cond rfl (fun hc=>?_) (fun hc=>?_)
   ·simp only[Bool.and_eq_true,decide_eq_true_eq]at hc
    repeat(first|refine wD ?_|refine awp_seq_k fun K hK=>?_|refine wN fun bx=>?_|(refine wH ?_;clear hK))
    refine r1 ?_
    refine Sub.of_eq ?_
    congr 1
    rw[hf,if_pos]
    have e1:((k:Int)-1).toNat=k-1:=by omega
    simp only[Int.toNat_natCast,e1]at hc
    simp only[lastV,if_neg (by omega:¬k=0),Bool.or_eq_true,decide_eq_true_eq]
    omega
   ·repeat(first|refine wD ?_|refine awp_seq_k fun K hK=>?_|refine wN fun bx=>?_|(refine wH ?_;clear hK))
    have e1:((k:Int)-1).toNat=k-1:=by omega
    simp only[Int.toNat_natCast,e1,Bool.and_eq_false_imp,decide_eq_true_eq,decide_eq_false_iff_not]at hc
    have hl:lastV m k<(m.getD k default).1:=by
     unfold lastV
     split
     ·omega
     ·have:=hc (by omega)
      omega
    refine⟨⟨k+1,hlt,?_,?_⟩,?_,dp,?_⟩
    ·rw[hf,if_neg]
     ·simp[lastV]
     ·simp only[Bool.or_eq_true,decide_eq_true_eq]
      omega
    ·show 0≤lastV m (k+1)
     rw[lastV_succ]
     omega
    ·exact wk
    ·simp only;omega
 ·have hge:k=m.length:=by simp at hb;omega
  repeat(first|refine wD ?_|refine awp_seq_k fun K hK=>?_|refine wN fun bx=>?_|(refine wH ?_;clear hK))
  refine r1 ?_
  refine Sub.of_eq ?_
  rw[hf,hge]
  simp[mayF]
theorem rmayc {m:List Pw} {b:Bool} (hm:m.length≤1000000) (h:may m=b):PCalls Tryz.prog 45 [mono m] (.bool b):=h▸rmay_c m hm
abbrev vecI (f:Nat→Int):AV:=.vec 201 (fun j=>.int .i64 (f j))
theorem degF_snoc (v:Int) (p:Pw):∀(m:List Pw),(∀q∈m,q.1≠p.1)→degF v (m++[p])=if p.1=v then p.2 else degF v m
 |[],_=>by simp[degF]
 |q::m,h=>by
  have h1:=h q (by simp)
  have ih:=degF_snoc v p m (fun q hq=>h q (by simp[hq]))
  simp only[List.cons_append,degF,ih]
  by_cases e:q.1=v
  ·rw[if_pos e,if_neg (by omega),if_pos e]
  ·rw[if_neg e,if_neg e]
theorem cbExps:Callable Tryz.prog 95:=fun _ _=>by kernel_rfl
theorem exps_c (m:List Pw) (hm:m.length≤1000000):PCalls Tryz.prog 95 [mono m] (vecI fun j=>degF j (plainF m)):=by
 refine pcalls_of_awp tyok cbExps Tryz.func95 rfl rfl ?_
 cases hA:may m
 ·have pm:=rmayc hm hA
  ((repeat(first|refine wD ?_|refine awp_seq_k fun K hK=>?_|refine wC pm ?_|(refine wH ?_;clear hK)));refine wN fun b2=>?_;(repeat(first|refine wD ?_|refine awp_seq_k fun K hK=>?_|refine wC pm ?_|(refine wH ?_;clear hK)));refine wN fun b3=>?_;(repeat(first|refine wD ?_|refine awp_seq_k fun K hK=>?_|refine wN fun bx=>?_|refine wC pm ?_|(refine wH ?_;clear hK))))
  refine fnQ_c1 2 1 rfl rfl rfl rfl (by exact rfl) rfl rfl True.intro ?_
  refine Sub.of_eq ?_
  simp[plainF,hA,degF]
 have pm:=rmayc hm hA
 have hp:plainF m=m:=by simp[plainF,hA]
 have hs:=may_srt hA
 rw[hp]
 ((repeat(first|refine wD ?_|refine awp_seq_k fun K hK=>?_|refine wC pm ?_|(refine wH ?_;clear hK)));refine wN fun b2=>?_;(repeat(first|refine wD ?_|refine awp_seq_k fun K hK=>?_|refine wC pm ?_|(refine wH ?_;clear hK)));refine wN fun b3=>?_;(repeat(first|refine wD ?_|refine awp_seq_k fun K hK=>?_|refine wN fun bx=>?_|refine wC pm ?_|(refine wH ?_;clear hK))))
 refine awp_loopK [0,2,3] rfl (ι:={x:Nat//x≤m.length})
  (fun x=>[(4,.int .i64 x.1)]) (fun x=>[.box b3 147 (vecI fun j=>degF j (m.take x.1)),.box b2 147 (vecI fun _=>0)]) (fun x=>m.length-x.1) ⟨0,Nat.zero_le _⟩ ?_ ⟨0,rfl⟩ ?_
 ·exact wk
 rintro⟨k,hk⟩
 simp only at hk ⊢
 repeat(first|refine wD ?_|refine awp_seq_k fun K hK=>?_|refine wN fun bx=>?_|(refine wH ?_;clear hK))
 refine awp_cond rfl (fun hb=>?_) (fun hb=>?_)
 ·have hlt:k<m.length:=by simpa using hb
  have hbn:=bnd_of hA _ (List.getElem_mem hlt)
  have hg:m.getD k default=m[k]:=by simp[List.getD,hlt]
  have hbn2:1≤(m.getD ((k:Int).toNat) default).1∧(m.getD ((k:Int).toNat) default).1≤200:=by rw[Int.toNat_natCast,hg];exact⟨hbn.1,hbn.2.1⟩
  repeat(first|refine wD ?_|refine awp_seq_k fun K hK=>?_|refine wN fun bx=>?_|(refine wH ?_;clear hK))
  refine⟨⟨k+1,hlt⟩,?_,⟨0,?_⟩,?_⟩
  ·exact wk
  ·simp only[List.drop_zero]
   have key:∀j:Nat,degF j (m.take (k+1))=if(j:Nat)=(m[k].1).toNat then m[k].2 else degF j (m.take k):=by
    intro j
    rw[List.take_succ_eq_append_getElem hlt,degF_snoc]
    ·have:=hbn.1
     by_cases e:j=(m[k].1).toNat
     ·rw[if_pos e,if_pos (by omega)]
     ·rw[if_neg e,if_neg (by omega)]
    ·intro q hq e
     obtain⟨i,hi,rfl⟩:=List.getElem_of_mem hq
     rw[List.length_take]at hi
     have:=List.pairwise_iff_getElem.1 hs.1 i k (by omega) hlt (by omega)
     simp only[List.getElem_take,Lt2]at this e
     omega
   refine congrArg (fun g=>[Ent.box b3 _ (AV.vec 201 g),_]) (funext fun j=>?_)
   simp only[key,←hg,Int.toNat_natCast,Nat.zero_add]
  ·simp only;omega
 ·have hge:k=m.length:=by simp at hb;omega
  repeat(first|refine wD ?_|refine awp_seq_k fun K hK=>?_|refine wN fun bx=>?_|(refine wH ?_;clear hK))
  refine fnQ_c1 2 1 rfl rfl rfl rfl (by exact rfl) rfl rfl True.intro ?_
  refine Sub.of_eq ?_
  rw[hge,List.take_length]
end Go.Proofs.YtamgilppehibeaaGreatDoor
namespace Go.Proofs.YtamgilppehibeaaGreatDoor
open Go.Ab
def ofN (f:Nat→Int) (n:Nat):List Pw:=(List.range' 1 n).filterMap fun v=>if f v>0 then some ((v:Int),f v) else none
theorem ofN_succ (f:Nat→Int) (n:Nat):ofN f (n+1)=ofN f n++(if f (n+1)>0 then [(((n+1:Nat):Int),f (n+1))] else []):=by
 unfold ofN
 rw[List.range'_concat,List.filterMap_append]
 congr 1
 simp only[Nat.one_mul,Nat.add_comm 1 n,List.filterMap_cons,List.filterMap_nil]
 split<;>simp_all
theorem ofN_len (f:Nat→Int) (n:Nat):(ofN f n).length≤n:=by
 refine Nat.le_trans (List.length_filterMap_le _ _) ?_
 simp
theorem ofN_mem {f:Nat→Int} {n:Nat} {p:Pw} (h:p∈ofN f n):∃v:Nat,1≤v∧v≤n∧p=((v:Int),f v)∧0<f v:=by
 obtain⟨v,hv,e⟩:=List.mem_filterMap.1 h
 rw[List.mem_range'_1]at hv
 split at e
 ·rename_i hg
  cases e
  exact⟨v,hv.1,by omega,rfl,hg⟩
 ·cases e
theorem ofN_srt (f:Nat→Int):∀n,Srt (ofN f n)
 |0=>⟨.nil,by simp[ofN]⟩
 |n+1=>by
  obtain⟨h1,h2⟩:=ofN_srt f n
  rw[ofN_succ]
  split
  ·rename_i hg
   refine⟨List.pairwise_append.2 ⟨h1,List.pairwise_singleton _ _,fun p hp q hq=>?_⟩,fun p hp=>?_⟩
   ·simp only[List.mem_singleton]at hq
    subst hq
    obtain⟨v,_,hv,rfl,_⟩:=ofN_mem hp
    show(v:Int)<((n+1:Nat):Int)
    omega
   ·rcases List.mem_append.1 hp with hp|hp
    ·exact h2 p hp
    ·simp only[List.mem_singleton]at hp
     subst hp
     exact hg
  ·rw[List.append_nil]
   exact⟨h1,h2⟩
theorem deg_ofN (f:Nat→Int) (v:Nat):∀n,degF (v:Int) (ofN f n)=if 1≤v∧v≤n∧0<f v then f v else 0
 |0=>by rw[if_neg (by omega)];rfl
 |n+1=>by
  have ih:=deg_ofN f v n
  rw[ofN_succ]
  split
  ·rename_i hg
   rw[degF_snoc]
   ·by_cases e:n+1=v
    ·subst e
     rw[if_pos rfl,if_pos ⟨by omega,by omega,hg⟩]
    ·rw[if_neg (by simp only;omega),ih]
     by_cases h:1≤v∧v≤n∧0<f v
     ·rw[if_pos h,if_pos (by omega)]
     ·rw[if_neg h,if_neg (by omega)]
   ·intro q hq
    obtain⟨u,_,hu,rfl,_⟩:=ofN_mem hq
    simp only
    omega
  ·rename_i hg
   rw[List.append_nil,ih]
   by_cases h:1≤v∧v≤n∧0<f v
   ·rw[if_pos h,if_pos (by omega)]
   ·rw[if_neg h,if_neg]
    intro h'
    by_cases e:v=n+1
    ·subst e;omega
    ·omega
theorem cbOf:Callable Tryz.prog 176:=fun _ _=>by kernel_rfl
theorem of_c (f:Nat→Int):PCalls Tryz.prog 176 [vecI f] (mono (ofN f 200)):=by
 refine pcalls_of_awp tyok cbOf Tryz.func176 rfl rfl ?_
 refine awp_tok0 2 103 ?_
 ((repeat(first|refine wD ?_|refine awp_seq_k fun K hK=>?_|(refine wH ?_;clear hK)));refine wN fun b1=>?_;(repeat(first|refine wD ?_|refine awp_seq_k fun K hK=>?_|refine wN fun bx=>?_|(refine wH ?_;clear hK))))
 refine awp_loopKP [1] rfl (ι:={x:Nat×Option Addr×Nat//x.1≤200})
  (fun x=>[(4,.int .i64 ((x.1.1:Int)+1)),(3,sl encP 2 (ofN f x.1.1) (.own x.1.2.1 x.1.2.2))]) (fun x=>[.box b1 147 (vecI f),.tok x.1.2.1 x.1.2.2 (ofN f x.1.1).length 2 103])
  (fun x=>200-x.1.1) ⟨(0,none,0),Nat.zero_le _⟩ ?_ ⟨[],List.Perm.refl _⟩ ?_
 ·exact wk
 rintro⟨⟨k,ad,cp⟩,hk⟩
 simp only at hk ⊢
 have hl:=ofN_len f k
 have e1:((k:Int)+1).toNat=k+1:=by omega
 repeat(first|refine wD ?_|refine awp_seq_k fun K hK=>?_|refine wN fun bx=>?_|(refine wH ?_;clear hK))
 refine awp_cond rfl (fun hb=>?_) (fun hb=>?_)
 ·have hlt:k<200:=by simp at hb;omega
  repeat(first|refine wD ?_|refine awp_seq_k fun K hK=>?_|refine wN fun bx=>?_|(refine wH ?_;clear hK))
  refine awp_cond rfl (fun hc=>?_) (fun hc=>?_)
  ·simp only[e1,Nat.zero_add,decide_eq_true_eq]at hc
   repeat(first|refine wD ?_|refine awp_seq_k fun K hK=>?_|refine wN fun bx=>?_|(refine wH ?_;clear hK))
   refine TR.appendO tyok 1 (fun ad cp=>sl encP 2 (ofN f k++[((k:Int)+1,f (k+1))]) (.own ad cp)) rfl rfl rfl rfl (by first|exact True.intro|exact⟨id,True.intro⟩|exact⟨id,id,True.intro⟩|exact⟨id,id,id,True.intro⟩) rfl rfl rfl rfl rfl rfl rfl rfl rfl rfl ?_ (fun ad cp=>glue_sl1 encP 2 (ofN f k) ((k:Int)+1,f (k+1)) _ (by simp only[chunk,e1,Nat.zero_add];rfl) _) (fun ad cp=>?_)
   ·show(_+1)*16≤_∧_+1≤_
    omega
   repeat(first|refine wD ?_|refine awp_seq_k fun K hK=>?_|refine wN fun bx=>?_|(refine wH ?_;clear hK))
   have e2:ofN f (k+1)=ofN f k++[((k:Int)+1,f (k+1))]:=by rw[ofN_succ,if_pos hc];simp
   refine⟨⟨(k+1,ad,cp),hlt⟩,?_,⟨[],?_⟩,?_⟩
   ·simp only[e2]
    exact wk
   ·simp only[e2,List.length_append]
    exact List.Perm.refl _
   ·simp only;omega
  ·simp only[e1,Nat.zero_add,decide_eq_false_iff_not]at hc
   repeat(first|refine wD ?_|refine awp_seq_k fun K hK=>?_|refine wN fun bx=>?_|(refine wH ?_;clear hK))
   have e2:ofN f (k+1)=ofN f k:=by rw[ofN_succ,if_neg hc];simp
   refine⟨⟨(k+1,ad,cp),hlt⟩,?_,⟨[],?_⟩,?_⟩
   ·simp only[e2]
    exact wk
   ·simp only[e2]
    exact List.Perm.refl _
   ·simp only;omega
 ·have hge:k=200:=by simp at hb;omega
  subst hge
  repeat(first|refine wD ?_|refine awp_seq_k fun K hK=>?_|refine wN fun bx=>?_|(refine wH ?_;clear hK))
  refine fnQ_p1 2 rfl rfl rfl rfl ?_
  exact Sub.view _ _ _ _
end Go.Proofs.YtamgilppehibeaaGreatDoor
namespace Go.Proofs.YtamgilppehibeaaGreatDoor
open Go.Ab
theorem deg_range {m:List Pw} (h:may m=true) (v:Int):0≤degF v m∧degF v m≤10000:=by
 refine⟨deg_nonneg (may_srt h) v,?_⟩
 by_cases e:degF v m=0
 ·omega
 ·exact(deg_bnd h e).2.2
theorem ofN_congr {f g:Nat→Int} {n:Nat} (h:∀v,1≤v→v≤n→f v=g v):ofN f n=ofN g n:=by
 induction n with
 |zero=>rfl
 |succ n ih=>rw[ofN_succ,ofN_succ,ih fun v h1 h2=>h v h1 (by omega),h (n+1) (by omega) (by omega)]
theorem may_ofN {f:Nat→Int} (h:∀v,1≤v→v≤200→f v≤10000):may (ofN f 200)=true:=by
 refine may_of (ofN_srt f 200) fun v hv=>?_
 obtain⟨p,hp,e⟩:=deg_mem hv
 obtain⟨u,h1,h2,rfl,h3⟩:=ofN_mem hp
 simp only at e
 subst e
 refine⟨by omega,by omega,?_⟩
 rw[deg_ofN,if_pos ⟨h1,h2,h3⟩]
 exact h u h1 h2
theorem deg_ofN_all {f:Nat→Int} {F:Int→Int} (h:∀v:Nat,1≤v→v≤200→0≤f v∧F v=f v) (h0:∀v:Int,¬(1≤v∧v≤200)→F v=0) (v:Int):degF v (ofN f 200)=F v:=by
 by_cases hv:1≤v∧v≤200
 ·obtain⟨u,rfl⟩:∃u:Nat,v=u:=⟨v.toNat,by omega⟩
  obtain⟨h1,h2⟩:=h u (by omega) (by omega)
  rw[deg_ofN,h2]
  by_cases hp:0<f u
  ·rw[if_pos ⟨by omega,by omega,hp⟩]
  ·rw[if_neg (by omega)];omega
 ·rw[h0 v hv]
  exact Classical.byContradiction fun hne=>by
   obtain⟨p,hp,e⟩:=deg_mem hne
   obtain⟨u,h1,h2,rfl,_⟩:=ofN_mem hp
   exact hv (by simp only at e;omega)
theorem deg_out {m:List Pw} (h:may m=true) {v:Int} (hv:¬(1≤v∧v≤200)):degF v m=0:=
 Classical.byContradiction fun hne=>hv ⟨(deg_bnd h hne).1,(deg_bnd h hne).2.1⟩
theorem timesF_ofN {a b:List Pw} (ha:may a=true) (hb:may b=true) (h:∀v:Nat,1≤v→v≤200→degF v a+degF v b≤10000):timesF a b=(ofN (fun v=>degF v a+degF v b) 200,0):=by
 refine timesF_of ha hb (may_ofN h) (deg_ofN_all (F:=fun v=>degF v a+degF v b) (fun v _ _=>⟨?_,rfl⟩) fun v hv=>?_)
 ·have:=deg_range ha v
  have:=deg_range hb v
  omega
 ·simp only[deg_out ha hv,deg_out hb hv]
  rfl
theorem timesF_over {a b:List Pw} (ha:may a=true) (hb:may b=true) {v:Int} (h:degF v a+degF v b>10000):timesF a b=([],8):=by
 rcases timesF_cases ha hb with e|e
 ·exact e
 ·exfalso
  have hm:may (madeF gAdd (zipM a b))=true:=by
   rw[timesF,ha,hb]at e
   cases hh:may (madeF gAdd (zipM a b))
   ·simp[hh]at e
   ·rfl
  have h1:=(deg_range hm v).2
  rw[deg_add (may_srt ha) (may_srt hb)]at h1
  omega
theorem expsc {m:List Pw} (hm:m.length≤1000000) (h:may m=true):PCalls Tryz.prog 95 [mono m] (vecI fun j=>degF j m):=by
 have:=exps_c m hm
 rwa [plain_may h]at this
theorem cbRTimes:Callable Tryz.prog 135:=fun _ _=>by kernel_rfl
theorem rtimes_c (a b:List Pw) (ha:a.length≤400000) (hb:b.length≤400000):PCalls Tryz.prog 135 [mono a,mono b] (resE (timesF a b)):=by
 refine pcalls_of_awp tyok cbRTimes Tryz.func135 rfl rfl ?_
 cases hA:may a
 ·have pa:=rmayc (by omega) hA
  have e:timesF a b=([],2):=by simp[timesF,hA]
  repeat(first|refine wD ?_|refine awp_seq_k fun K hK=>?_|refine wN fun bx=>?_|refine wC pa ?_|(refine wH ?_;clear hK))
  rw[e]
  refine r2 ?_ ?_
  ·exact Sub.nilsv _ _
  ·exact Sub.refl _
 have pa:=rmayc (by omega) hA
 cases hB:may b
 ·have pb:=rmayc (by omega) hB
  have e:timesF a b=([],2):=by simp[timesF,hB]
  repeat(first|refine wD ?_|refine awp_seq_k fun K hK=>?_|refine wN fun bx=>?_|refine wC pa ?_|refine wC pb ?_|(refine wH ?_;clear hK))
  rw[e]
  refine r2 ?_ ?_
  ·exact Sub.nilsv _ _
  ·exact Sub.refl _
 have pb:=rmayc (by omega) hB
 have xa:=expsc (by omega) hA
 have xb:=expsc (by omega) hB
 have ra:=deg_range hA
 have rb:=deg_range hB
 ((repeat(first|refine wD ?_|refine awp_seq_k fun K hK=>?_|refine wC pa ?_|refine wC pb ?_|refine wC xa ?_|refine wC xb ?_|(refine wH ?_;clear hK)));refine wN fun b6=>?_;(repeat(first|refine wD ?_|refine awp_seq_k fun K hK=>?_|refine wC pa ?_|refine wC pb ?_|refine wC xa ?_|refine wC xb ?_|(refine wH ?_;clear hK)));refine wN fun b7=>?_;(repeat(first|refine wD ?_|refine awp_seq_k fun K hK=>?_|refine wN fun bx=>?_|refine wC pa ?_|refine wC pb ?_|refine wC xa ?_|refine wC xb ?_|(refine wH ?_;clear hK))))
 refine awp_loopK [6,7] rfl (ι:={x:Nat×(Nat→Int)//x.1≤200∧∀j:Nat,1≤j→(j≤x.1→x.2 j=degF j a+degF j b∧x.2 j≤10000)∧(x.1<j→x.2 j=degF j a)})
  (fun x=>[(8,.int .i64 ((x.1.1:Int)+1))]) (fun x=>[.box b7 147 (vecI fun j=>degF j b),.box b6 147 (vecI x.1.2)]) (fun x=>200-x.1.1) ⟨(0,fun j=>degF j a),Nat.zero_le _,fun j hj=>⟨fun h=>absurd h (by simp only;omega),fun _=>rfl⟩⟩ ?_ ⟨0,rfl⟩ ?_
 ·exact wk
 rintro⟨⟨k,g⟩,hk,hg⟩
 simp only at hk hg ⊢
 repeat(first|refine wD ?_|refine awp_seq_k fun K hK=>?_|refine wN fun bx=>?_|(refine wH ?_;clear hK))
 refine awp_cond rfl (fun hc=>?_) (fun hc=>?_)
 ·have hlt:k<200:=by simp at hc;omega
  have e1:0+((k:Int)+1).toNat=k+1:=by omega
  have h1:g (0+((k:Int)+1).toNat)=degF ((0+((k:Int)+1).toNat:Nat):Int) a:=by rw[e1];exact(hg (k+1) (by omega)).2 (by omega)
  have h2:=ra ((0+((k:Int)+1).toNat:Nat):Int)
  have h3:=rb ((0+((k:Int)+1).toNat:Nat):Int)
  repeat(first|refine wD ?_|refine awp_seq_k fun K hK=>?_|refine wN fun bx=>?_|(refine wH ?_;clear hK))
  refine awp_cond rfl (fun hc=>?_) (fun hc=>?_)
  ·simp only[if_pos,decide_eq_true_eq]at hc
   repeat(first|refine wD ?_|refine awp_seq_k fun K hK=>?_|refine wN fun bx=>?_|(refine wH ?_;clear hK))
   rw[timesF_over hA hB (v:=((0+((k:Int)+1).toNat:Nat):Int)) (by omega)]
   refine r2 ?_ ?_
   ·exact Sub.nilsv _ _
   ·exact Sub.refl _
  ·simp only[if_pos,decide_eq_false_iff_not]at hc
   repeat(first|refine wD ?_|refine awp_seq_k fun K hK=>?_|refine wN fun bx=>?_|(refine wH ?_;clear hK))
   refine⟨⟨(k+1,fun j=>if j=0+((k:Int)+1).toNat then g (0+((k:Int)+1).toNat)+degF ((0+((k:Int)+1).toNat:Nat):Int) b else g j),hlt,fun j hj=>?_⟩,?_,⟨0,?_⟩,?_⟩
   ·simp only
    by_cases e:j=0+((k:Int)+1).toNat
    ·rw[if_pos e]
     subst e
     refine⟨fun _=>⟨by omega,by omega⟩,fun h=>absurd h (by omega)⟩
    ·rw[if_neg e]
     exact⟨fun h=>(hg j hj).1 (by omega),fun h=>(hg j hj).2 (by omega)⟩
   ·exact wk
   ·rfl
   ·simp only;omega
 ·have hge:k=200:=by simp at hc;omega
  subst hge
  have oc:=of_c g
  have e2:ofN g 200=ofN (fun v=>degF v a+degF v b) 200:=ofN_congr fun v h1 h2=>((hg v h1).1 h2).1
  rw[e2]at oc
  repeat(first|refine wD ?_|refine awp_seq_k fun K hK=>?_|refine wN fun bx=>?_|refine wC oc ?_|(refine wH ?_;clear hK))
  rw[timesF_ofN hA hB fun v h1 h2=>by have:=(hg v h1).1 h2;omega]
  refine r2 ?_ ?_
  ·exact Sub.refl _
  ·exact Sub.refl _
end Go.Proofs.YtamgilppehibeaaGreatDoor
namespace Go.Proofs.YtamgilppehibeaaGreatDoor
open Go.Ab
theorem may_plain (m:List Pw):may (plainF m)=true:=by
 unfold plainF
 split
 ·assumption
 ·rfl
end Go.Proofs.YtamgilppehibeaaGreatDoor
namespace Go.Proofs.YtamgilppehibeaaGreatDoor
open Go.Ab
theorem class_of {m:List Pw} {v:Int} (h:0<degF v (plainF m)) (hi:∀u,v<u→degF u (plainF m)=0):classF m=v:=by
 have hA:=may_plain m
 unfold classF
 generalize plainF m=A at*
 cases hl:A.getLast? with
 |none=>
  rw[List.getLast?_eq_none_iff]at hl
  subst hl
  simp[degF]at h
 |some l=>
  simp only
  have hs:=may_srt hA
  obtain⟨q,hq⟩:=List.getLast?_eq_some_iff.1 hl
  have hm:l∈A:=by rw[hq];simp
  have e1:=deg_of_mem hs.1 hm
  have p1:=hs.2 l hm
  obtain⟨p,hp,e⟩:=deg_mem (m:=A) (v:=v) (by omega)
  have h1:¬v<l.1:=fun hlt=>by
   have:=hi l.1 hlt
   omega
  have h2:v≤l.1:=by
   rw[hq]at hp hs
   rcases List.mem_append.1 hp with hp|hp
   ·have:=(List.pairwise_append.1 hs.1).2.2 p hp l (by simp)
    simp only[Lt2]at this
    omega
   ·simp only[List.mem_singleton]at hp
    subst hp
    omega
  omega
theorem cbRCompare:Callable Tryz.prog 46:=fun _ _=>by kernel_rfl
theorem rcompare_c {a b:List Pw} {c:Int} (ha:a.length≤400000) (hb:b.length≤400000) (hA:may a=true) (hB:may b=true) (h:compareF a b=(c,0)):
  PCalls Tryz.prog 46 [mono a,mono b] (.int .i64 c):=by
 refine pcalls_of_awp tyok cbRCompare Tryz.func46 rfl rfl ?_
 obtain⟨c',h',ht⟩:=compare_tri hA hB
 obtain rfl:c=c':=by rw[h]at h';exact congrArg Prod.fst h'
 clear h h'
 have xa:=expsc (by omega) hA
 have xb:=expsc (by omega) hB
 ((repeat(first|refine wD ?_|refine awp_seq_k fun K hK=>?_|refine wC xa ?_|refine wC xb ?_|(refine wH ?_;clear hK)));refine wN fun b5=>?_;(repeat(first|refine wD ?_|refine awp_seq_k fun K hK=>?_|refine wC xa ?_|refine wC xb ?_|(refine wH ?_;clear hK)));refine wN fun b6=>?_;(repeat(first|refine wD ?_|refine awp_seq_k fun K hK=>?_|refine wN fun bx=>?_|refine wC xa ?_|refine wC xb ?_|(refine wH ?_;clear hK))))
 refine awp_loopK [5,6] rfl (ι:={x:Nat//x≤200∧∀u:Int,(x:Int)<u→degF u a=degF u b})
  (fun x=>[(7,.int .i64 (x.1:Int))]) (fun x=>[.box b6 147 (vecI fun j=>degF j b),.box b5 147 (vecI fun j=>degF j a)]) (fun x=>x.1) ⟨200,Nat.le_refl _,fun u hu=>?_⟩ ?_ ⟨0,rfl⟩ ?_
 ·rw[deg_out hA (by omega),deg_out hB (by omega)]
 ·exact wk
 rintro⟨k,hk,hg⟩
 simp only at hk hg ⊢
 repeat(first|refine wD ?_|refine awp_seq_k fun K hK=>?_|refine wN fun bx=>?_|(refine wH ?_;clear hK))
 refine awp_cond rfl (fun hc=>?_) (fun hc=>?_)
 ·have hpos:1≤k:=by simp at hc;omega
  have e1:0+(k:Int).toNat=k:=by omega
  repeat(first|refine wD ?_|refine awp_seq_k fun K hK=>?_|refine wN fun bx=>?_|(refine wH ?_;clear hK))
  refine awp_cond rfl (fun hc=>?_) (fun hc=>?_)
  ·simp only[e1,decide_eq_true_eq]at hc
   repeat(first|refine wD ?_|refine awp_seq_k fun K hK=>?_|refine wN fun bx=>?_|(refine wH ?_;clear hK))
   refine r1 ?_
   rw[ht.unique (.lt k hc hg)]
   exact Sub.refl _
  ·simp only[e1,decide_eq_false_iff_not]at hc
   repeat(first|refine wD ?_|refine awp_seq_k fun K hK=>?_|refine wN fun bx=>?_|(refine wH ?_;clear hK))
   refine awp_cond rfl (fun hd=>?_) (fun hd=>?_)
   ·simp only[e1,decide_eq_true_eq]at hd
    repeat(first|refine wD ?_|refine awp_seq_k fun K hK=>?_|refine wN fun bx=>?_|(refine wH ?_;clear hK))
    refine r1 ?_
    rw[ht.unique (.gt k hd fun u hu=>hg u hu)]
    exact Sub.refl _
   ·simp only[e1,decide_eq_false_iff_not]at hd
    repeat(first|refine wD ?_|refine awp_seq_k fun K hK=>?_|refine wN fun bx=>?_|(refine wH ?_;clear hK))
    refine⟨⟨k-1,by omega,fun u hu=>?_⟩,?_,⟨0,rfl⟩,?_⟩
    ·by_cases e:u=k
     ·subst e
      omega
     ·exact hg u (by omega)
    ·exact wk
    ·simp only;omega
 ·have hge:k=0:=by simp at hc;omega
  subst hge
  repeat(first|refine wD ?_|refine awp_seq_k fun K hK=>?_|refine wN fun bx=>?_|(refine wH ?_;clear hK))
  refine r1 ?_
  rw[ht.unique (.eq fun u=>?_)]
  ·exact Sub.refl _
  ·by_cases hu:0<u
   ·exact hg u hu
   ·rw[deg_out hA (by omega),deg_out hB (by omega)]
theorem without_deg (v u:Int):∀m:List Pw,degF u (withoutF v m)=if u=v then 0 else degF u m
 |[]=>by simp[withoutF,degF]
 |p::m=>by
  have ih:=without_deg v u m
  unfold withoutF at ih ⊢
  by_cases e:p.1=v
  ·rw[List.filter_cons_of_neg (by simp[e]),ih]
   by_cases e2:u=v
   ·rw[if_pos e2,if_pos e2]
   ·rw[if_neg e2,if_neg e2,degF,if_neg (by omega)]
  ·rw[List.filter_cons_of_pos (by simp[e]),degF,ih,degF]
   by_cases e2:p.1=u
   ·rw[if_pos e2,if_neg (by omega),if_pos e2]
   ·rw[if_neg e2,if_neg e2]
theorem without_srt {m:List Pw} (v:Int) (h:Srt m):Srt (withoutF v m):=
 ⟨h.1.sublist List.filter_sublist,fun p hp=>h.2 p (List.filter_sublist.subset hp)⟩
end Go.Proofs.YtamgilppehibeaaGreatDoor
