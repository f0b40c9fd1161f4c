/-
  Plain law of sense.Script: what it tells; what well formed statements have.
-/
import Derived.Test.YthfglhjdnpoepaaGreatDoorSe4
import Derived.Test.YthfglhjdnpoepaaGreatDoorShM
import Derived.Test.YthfglhjdnpoepaaGreatDoorTy
import Derived.Test.YthfglhjdnpoepaaGreatDoorSi
import Derived.Test.YthfglhjdnpoepaaGreatDoorAbC
import Derived.Test.YthfglhjdnpoepaaGreatDoorSwM
import Derived.Test.YthfglhjdnpoepaaGreatDoorRsM
import Derived.Test.YthfglhjdnpoepaaGreatDoorSx1
set_option maxRecDepth 100000
set_option maxHeartbeats 6400000
namespace Go.Proofs.YthfglhjdnpoepaaGreatDoor
open Go.Ab
theorem idxL_mem {w:List UInt8}:∀{l:List (List UInt8)},w∈l→0≤idxL w l∧idxL w l<(l.length:Int)
 |x::l,h=>by
  simp only[idxL,List.length_cons]
  split
  ·omega
  rename_i hne
  have ih:=idxL_mem (w:=w) (l:=l) (by
   rcases List.mem_cons.1 h with e|e
   ·exact absurd e hne
   ·exact e)
  split<;>omega
theorem signQ_zero (q:Rat):(signQ q=0)↔q=0:=by
 unfold signQ signZ
 constructor
 ·intro h
  have:q.num=0:=by
   split at h
   ·assumption
   ·split at h<;>omega
  exact Rat.num_eq_zero.1 this
 ·rintro rfl
  decide
theorem argsG_len {f:FigR} {A:List TokI} {el ec:Int}:∀{l:List TokI} {i:Nat} {s:LkR},(argsG f A el ec i l s).e=0→l=[]∨((i+l.length:Nat):Int)≤f.pts+f.nums
 |[],_,_,_=>.inl rfl
 |t::l,i,s,h=>by
  unfold argsG at h
  split at h
  ·have:=(meet_zero (by decide) h).2
   cases this
  rename_i h1
  refine .inr ?_
  rw[List.length_cons]
  split at h
  ·rcases argsG_len h with rfl|e
   ·simp only[List.length_nil];omega
   ·omega
  ·rcases argsG_len h with rfl|e
   ·simp only[List.length_nil];omega
   ·omega
theorem getD_eq_getElem' {α:Type} [Inhabited α] {l:List α} {i:Nat} (h:i<l.length):l.getD i default=l[i]:=by
 rw[List.getD_eq_getElem?_getD,List.getElem?_eq_getElem h]
 rfl
theorem wf_stmt {l:List StI} (h:(lookF l).e=0) {i:Nat} (hi:i<l.length) (hk:3≤(l.getD i default).k):
  (l.getD i default).args.length≤100∧(∀t∈(l.getD i default).args,t.k≠3→t.w∈namesF l)∧((l.getD i default).k=4→(l.getD i default).new.w∈namesF l)∧
  ((l.getD i default).k=3→∀t∈(l.getD i default).args,t.w∈namesF l):=by
 obtain⟨_,_,hnd,h40,hw⟩:=lookF_id h
 obtain⟨hp,hs⟩:=hw i hi
 have ex:l.getD i default=l[i]:=getD_eq_getElem' hi
 rw[ex]at hk ⊢
 generalize hx:l[i]=x at hk hp hs ⊢
 have hmem:∀n∈namesOf x,n∈namesF l:=fun n hn=>List.mem_flatMap.2 ⟨x,hx▸List.getElem_mem hi,hn⟩
 have hpre:∀n∈namesF (l.take i),n∈namesF l:=fun n hn=>by
  obtain⟨y,hy,hn⟩:=List.mem_flatMap.1 hn
  exact List.mem_flatMap.2 ⟨y,List.mem_of_mem_take hy,hn⟩
 have hsub:(namesOf x).length≤(namesF l).length:=by
  have e:l=l.take i++x::l.drop (i+1):=by
   rw[←hx,List.getElem_cons_drop,List.take_append_drop]
  have:namesF l=namesF (l.take i)++(namesOf x++namesF (l.drop (i+1))):=by
   rw[←namesF_cons,←namesF_append,←e]
  rw[this,List.length_append,List.length_append]
  omega
 have h345:x.k=3∨x.k=4∨x.k=5:=by
  have:=place_k hp
  omega
 rcases h345 with h3|h3|h3
 ·have en:namesOf x=x.args.map (·.w):=by unfold namesOf;rw[if_pos h3]
  rw[en]at hmem hsub
  rw[List.length_map]at hsub
  exact⟨by omega,fun t ht _=>hmem _ (List.mem_map_of_mem ht),fun e=>by omega,fun _ t ht=>hmem _ (List.mem_map_of_mem ht)⟩
 ·have en:namesOf x=[x.new.w]:=by unfold namesOf;rw[if_neg (by omega),if_pos h3]
  rw[en]at hmem
  refine⟨?_,fun t ht hn=>?_,fun _=>hmem _ (List.mem_cons_self ..),fun e=>by omega⟩
  ·unfold stmtG argsF at hs
   rw[if_neg (by omega),if_pos h3,add_e]at hs
   rcases argsG_len hs with e|e
   ·rw[e];exact Nat.zero_le _
   ·cases hc:conF x.word.w with
    |none=>
     have:=(meet_zero (by decide) (argsG_zero hs)).2
     rw[hc]at this
     cases this
    |some f=>
     rw[hc]at e
     have e:((0+x.args.length:Nat):Int)≤f.pts+f.nums:=e
     have hb:=con_in hc
     simp only[figB,Bool.and_eq_true,decide_eq_true_eq]at hb
     omega
  ·rcases stmtG_args hs (.inl h3) t ht with e|⟨_,e⟩
   ·exact absurd e hn
   ·exact hpre _ (by simpa using e)
 ·refine⟨?_,fun t ht hn=>?_,fun e=>by omega,fun e=>by omega⟩
  ·unfold stmtG argsF at hs
   rw[if_neg (by omega),if_neg (by omega),if_pos h3]at hs
   rcases argsG_len hs with e|e
   ·rw[e];exact Nat.zero_le _
   ·cases hc:preF x.word.w with
    |none=>
     have:=(meet_zero (by decide) (argsG_zero hs)).2
     rw[hc]at this
     cases this
    |some f=>
     rw[hc]at e
     have e:((0+x.args.length:Nat):Int)≤f.pts+f.nums:=e
     have hb:=pre_in hc
     simp only[figB,Bool.and_eq_true,decide_eq_true_eq]at hb
     omega
  ·rcases stmtG_args hs (.inr h3) t ht with e|⟨_,e⟩
   ·exact absurd e hn
   ·exact hpre _ (by simpa using e)
def whP (ns:List (List UInt8)) (l:List SpotR) (w:List UInt8):SpotR:=l.getD (idxL w ns).toNat default
theorem whP_ok {k:Nat} {ns:List (List UInt8)} {l:List SpotR} {w:List UInt8} (h:SpotsOk k l) (hl:l.length=ns.length) (hw:w∈ns):SpotOk k (whP ns l w):=by
 have:=idxL_mem hw
 exact h.at (by omega)
def ptsS (ns:List (List UInt8)) (l:List SpotR) (a:List TokI):List SpotR:=(a.filter fun t=>decide (t.k≠3)).map fun t=>whP ns l t.w
def numS (a:List TokI):List Int:=(a.filter fun t=>decide (t.k=3)).map (·.n)
theorem ptsS_len (ns:List (List UInt8)) (l:List SpotR) (a:List TokI):(ptsS ns l a).length≤a.length:=by
 unfold ptsS
 rw[List.length_map]
 exact List.length_filter_le _ _
theorem numS_len (a:List TokI):(numS a).length≤a.length:=by
 unfold numS
 rw[List.length_map]
 exact List.length_filter_le _ _
theorem ptsS_ok {k:Nat} {ns:List (List UInt8)} {l:List SpotR} {a:List TokI} (h:SpotsOk k l) (hl:l.length=ns.length) (ha:∀t∈a,t.k≠3→t.w∈ns):SpotsOk k (ptsS ns l a):=by
 intro s hs
 obtain⟨t,ht,rfl⟩:=List.mem_map.1 hs
 have:=List.mem_filter.1 ht
 exact whP_ok h hl (ha t this.1 (of_decide_eq_true this.2))
theorem numS_ok {a:List TokI} (h:∀t∈a,-9223372036854775808≤t.n∧t.n≤9223372036854775807):∀z∈numS a,-9223372036854775808≤z∧z≤9223372036854775807:=by
 intro z hz
 obtain⟨t,ht,rfl⟩:=List.mem_map.1 hz
 exact h t (List.mem_filter.1 ht).1
theorem ptsS_succ (ns:List (List UInt8)) (l:List SpotR) {a:List TokI} {j:Nat} (hj:j<a.length):
  ptsS ns l (a.take (j+1))=if(a.getD j default).k=3 then ptsS ns l (a.take j) else ptsS ns l (a.take j)++[whP ns l (a.getD j default).w]:=by
 unfold ptsS
 rw[List.take_succ_eq_append_getElem hj,List.filter_append,List.map_append,getD_eq_getElem' hj]
 by_cases h:a[j].k=3
 ·rw[if_pos h,List.filter_cons_of_neg (by simp[h])];simp
 ·rw[if_neg h,List.filter_cons_of_pos (by simp[h])];simp
theorem numS_succ {a:List TokI} {j:Nat} (hj:j<a.length):
  numS (a.take (j+1))=if(a.getD j default).k=3 then numS (a.take j)++[(a.getD j default).n] else numS (a.take j):=by
 unfold numS
 rw[List.take_succ_eq_append_getElem hj,List.filter_append,List.map_append,getD_eq_getElem' hj]
 by_cases h:a[j].k=3
 ·rw[if_pos h,List.filter_cons_of_pos (by simp[h])];simp
 ·rw[if_neg h,List.filter_cons_of_neg (by simp[h])];simp
theorem eqsK_ok {k n:Nat} {P:Nat→Rat×Rat} {nums:List Int} {f:FigR} (hk:k≤100) (hP:∀i,i<n→POk k (P i)) (hN:∀z∈nums,-9223372036854775808≤z∧z≤9223372036854775807) (h:FigIn n nums.length f):∀q∈f.eqs.map (eqQ P nums),QOk 10000000 q:=fun q hq=>by
 obtain⟨e,he,rfl⟩:=List.mem_map.1 hq
 have:=eqQ_ok hP (fun z hz=>by have:=hN z hz;omega) (h.eqs e he) e.length
 rw[List.take_length]at this
 exact this.mono (by omega)
theorem madeK_ok {k:Nat} {w:List UInt8} {p:SpotR} {l:List SpotR} {nums:List Int} (hk1:1≤k) (hk:k≤100) (hp:SpotOk k p) (h:SpotsOk k l) (hN:∀z∈nums,-9223372036854775808≤z∧z≤9223372036854775807):
  (∀q∈(madeQ w p l nums).1,QOk 10000000 q)∧(madeQ w p l nums).1.length≤20:=by
 unfold madeQ
 cases hc:conF w with
 |none=>exact⟨fun q hq=>absurd hq List.not_mem_nil,Nat.zero_le _⟩
 |some f=>
  simp only
  by_cases e:(l.length:Int)=f.pts∧(nums.length:Int)=f.nums
  ·rw[if_pos e]
   have hfin:=(figB_in (n:=(p::l).length) (m:=nums.length) (con_in hc) (by rw[List.length_cons];omega) e.2).1
   have hall:SpotsOk k (p::l):=fun s hs=>by
    rcases List.mem_cons.1 hs with rfl|hs
    ·exact hp
    ·exact h s hs
   exact⟨eqsK_ok (n:=(p::l).length) hk (spots_P hk1 hall) hN hfin,by rw[List.length_map];have:=hfin.len;omega⟩
  ·rw[if_neg e]
   exact⟨fun q hq=>absurd hq List.not_mem_nil,Nat.zero_le _⟩
theorem askedK_ok {k:Nat} {w:List UInt8} {l:List SpotR} (hk1:1≤k) (hk:k≤100) (h:SpotsOk k l):(∀q∈(askedQ w l).1,QOk 10000000 q)∧(askedQ w l).1.length≤20:=by
 unfold askedQ
 cases hc:preF w with
 |none=>exact⟨fun q hq=>absurd hq List.not_mem_nil,Nat.zero_le _⟩
 |some f=>
  simp only
  by_cases e:(l.length:Int)=f.pts
  ·rw[if_pos e]
   have hnm:f.nums=0:=by
    have:preL.all (fun f=>decide (f.nums=0))=true:=by decide +kernel
    exact of_decide_eq_true (List.all_eq_true.1 this f (pre_mem hc).1)
   have hfin:=(figB_in (n:=l.length) (m:=([]:List Int).length) (pre_in hc) (by omega) (by rw[hnm];rfl)).1
   exact⟨eqsK_ok (n:=l.length) hk (spots_P hk1 h) (fun z hz=>absurd hz List.not_mem_nil) hfin,by rw[List.length_map];have:=hfin.len;omega⟩
  ·rw[if_neg e]
   exact⟨fun q hq=>absurd hq List.not_mem_nil,Nat.zero_le _⟩
def zeroL (l:List Rat):Bool:=l.all fun q=>decide (q=0)
noncomputable def stepS (ns:List (List UInt8)) (l:List SpotR) (s:Bool×Bool) (x:StI):Bool×Bool:=
 if x.k=4 then(s.1&&zeroL (madeQ x.word.w (whP ns l x.new.w) (ptsS ns l x.args) (numS x.args)).1,s.2)
 else if x.k=5 then(s.1,zeroL (askedQ x.word.w (ptsS ns l x.args)).1) else s
noncomputable def senseF (r:List StI) (l:List SpotR):Bool×Bool×Int:=
 if(lookF r).e≠0 then(false,false,(lookF r).e)
 else if l.length≠(namesF r).length then(false,false,13)
 else((r.foldl (stepS (namesF r) l) (true,false)).1,(r.foldl (stepS (namesF r) l) (true,false)).2,0)
theorem senseF_e {r:List StI} {l:List SpotR} (h:(lookF r).e≠0):senseF r l=(false,false,(lookF r).e):=if_pos h
theorem senseF_n {r:List StI} {l:List SpotR} (h:(lookF r).e=0) (hl:l.length≠(namesF r).length):senseF r l=(false,false,13):=(if_neg fun e=>e h).trans (if_pos hl)
theorem senseF_ok {r:List StI} {l:List SpotR} (h:(lookF r).e=0) (hl:l.length=(namesF r).length):senseF r l=((r.foldl (stepS (namesF r) l) (true,false)).1,(r.foldl (stepS (namesF r) l) (true,false)).2,0):=(if_neg fun e=>e h).trans (if_neg fun e=>e hl)
def senseV (x:Bool×Bool×Int):AV:=.tuple [.bool x.1,.bool x.2.1,.int .i64 x.2.2]
end Go.Proofs.YthfglhjdnpoepaaGreatDoor
namespace Go.Proofs.YthfglhjdnpoepaaGreatDoor
open Go.Ab
theorem cbIxQ:Callable Tryz.prog 121:=fun _ _=>by kernel_rfl
theorem indexQ_c (xs:List Rat) (f:FuncId) (p:Rat→Bool) (hl:xs.length≤1000000000) (hp:∀j,j<xs.length→PCalls Tryz.prog f [.agg (ratEs (ratC (xs.getD j default)))] (.bool (p (xs.getD j default)))):
  PCalls Tryz.prog 121 [ratL xs,.func (.func f) [] []] (.int .i64 (idxP p xs)):=by
 refine pcalls_of_awp tyok cbIxQ Tryz.func121 rfl rfl ?_
 unfold ratL
 repeat(first|refine wD ?_|refine awp_seq_k fun K hK=>?_|refine wN fun bx=>?_|(refine wH ?_;clear hK))
 refine awp_loop0 (ι:={i:Nat//i≤xs.length∧∀j,j<i→p (xs.getD j default)=false})
  (fun i=>[(0,ratL xs),(1,.func (.func f) [] []),(7,.int .i64 xs.length),(8,.int .i64 i.1)]) (fun _=>[]) (fun i=>xs.length-i.1) ⟨0,Nat.zero_le _,fun j hj=>absurd hj (by omega)⟩ wk dp ?_
 rintro⟨i,hi,hn⟩
 simp only at hi hn ⊢
 unfold ratL
 by_cases hlt:i<xs.length
 ·have hlt':(i:Int)<xs.length:=by omega
  have g:PCalls Tryz.prog f ([]++[.agg (ratEs (ratC (xs.getD ((i:Int)).toNat default)))]++[]) (.bool (p (xs.getD i default))):=hp i hlt
  repeat(first|refine wDB ?_|refine awp_seq_k fun K hK=>?_|refine wN fun bx=>?_|refine qpc rfl rfl rfl (g) ?_|refine qpo rfl rfl rfl rfl rfl rfl (fun _=>g) ?_|(refine wH ?_;clear hK))
  cases hb:p (xs.getD i default)with
  |true=>
   repeat(first|refine wD ?_|refine awp_seq_k fun K hK=>?_|refine wN fun bx=>?_|(refine wH ?_;clear hK))
   refine r1 ?_
   exact Sub.of_eq (by rw[idxP_hit p xs i hlt hb hn])
  |false=>
   repeat(first|refine wD ?_|refine awp_seq_k fun K hK=>?_|refine wN fun bx=>?_|(refine wH ?_;clear hK))
   refine⟨⟨i+1,hlt,fun j hj=>?_⟩,wk,dp,?_⟩
   ·by_cases e:j=i
    ·rw[e];exact hb
    ·exact hn j (by omega)
   ·simp only;omega
 ·have hge:¬(i:Int)<xs.length:=by omega
  repeat(first|refine wDB ?_|refine awp_seq_k fun K hK=>?_|refine wN fun bx=>?_|(refine wH ?_;clear hK))
  refine r1 ?_
  exact Sub.of_eq (by rw[idxP_miss p xs fun j hj=>hn j (by omega)])
theorem cbCtQ:Callable Tryz.prog 93:=fun _ _=>by kernel_rfl
theorem containsQ_c (xs:List Rat) (f:FuncId) (p:Rat→Bool) (hl:xs.length≤1000000000) (hp:∀j,j<xs.length→PCalls Tryz.prog f [.agg (ratEs (ratC (xs.getD j default)))] (.bool (p (xs.getD j default)))):
  PCalls Tryz.prog 93 [ratL xs,.func (.func f) [] []] (.bool (xs.any p)):=by
 refine pcalls_of_awp tyok cbCtQ Tryz.func93 rfl rfl ?_
 have g:=indexQ_c xs f p hl hp
 repeat(first|refine wD ?_|refine awp_seq_k fun K hK=>?_|refine wN fun bx=>?_|refine qpc rfl rfl rfl (g) ?_|refine qpo rfl rfl rfl rfl rfl rfl (fun _=>g) ?_|(refine wH ?_;clear hK))
 refine r1 ?_
 exact Sub.of_eq (congrArg AV.bool (idxP_any p xs))
theorem cbNgt1:Callable Tryz.prog 94:=fun _ _=>by kernel_rfl
theorem nought1_c (q:Rat) (h:QOk 10000000 q):PCalls Tryz.prog 94 [.agg (ratEs (ratC q))] (.bool (!decide (q=0))):=by
 refine pcalls_of_awp tyok cbNgt1 Tryz.func94 rfl rfl ?_
 have g:=ratSign_c (ratC q) (ratC_ok h)
 rw[ratC_q]at g
 ((repeat(first|refine wD ?_|refine awp_seq_k fun K hK=>?_|refine qpc rfl rfl rfl (g) ?_|refine qpo rfl rfl rfl rfl rfl rfl (fun _=>g) ?_|(refine wH ?_;clear hK)));refine wN fun b1=>?_;(repeat(first|refine wD ?_|refine awp_seq_k fun K hK=>?_|refine wN fun bx=>?_|refine qpc rfl rfl rfl (g) ?_|refine qpo rfl rfl rfl rfl rfl rfl (fun _=>g) ?_|(refine wH ?_;clear hK))))
 refine r1 ?_
 refine Sub.of_eq (congrArg AV.bool ?_)
 by_cases hz:q=0
 ·have hs:=(signQ_zero q).2 hz
  rw[hs,decide_eq_true hz]
  rfl
 ·have hs:¬signQ q=0:=fun e=>hz ((signQ_zero q).1 e)
  simp[hz,hs]
theorem cbNgt:Callable Tryz.prog 61:=fun _ _=>by kernel_rfl
theorem nought_c (l:List Rat) (hl:l.length≤1000000000) (h:∀q∈l,QOk 10000000 q):PCalls Tryz.prog 61 [ratL l] (.bool (l.all fun q=>decide (q=0))):=by
 refine pcalls_of_awp tyok cbNgt Tryz.func61 rfl rfl ?_
 have g:=containsQ_c l 94 (fun q=> !decide (q=0)) hl fun j hj=>nought1_c _ (h _ (getD_mem hj))
 repeat(first|refine wD ?_|refine awp_seq_k fun K hK=>?_|refine wN fun bx=>?_|refine qpc rfl rfl rfl (g) ?_|refine qpo rfl rfl rfl rfl rfl rfl (fun _=>g) ?_|(refine wH ?_;clear hK))
 refine r1 ?_
 refine Sub.of_eq (congrArg AV.bool ?_)
 induction l with
 |nil=>rfl
 |cons q l ih=>
  rw[List.any_cons,List.all_cons,Bool.not_or,Bool.not_not,ih (by rw[List.length_cons]at hl;omega) (fun x hx=>h x (List.mem_cons_of_mem _ hx)) (containsQ_c l 94 (fun q=> !decide (q=0)) (by rw[List.length_cons]at hl;omega) fun j hj=>nought1_c _ (h _ (List.mem_cons_of_mem _ (getD_mem hj))))]
theorem cbSpt:Callable Tryz.prog 60:=fun _ _=>by kernel_rfl
theorem spot_c (ns:List (List UInt8)) (l:List SpotR) (t:TokI) (hn:ns.length≤1000000000) (hl:l.length=ns.length) (h:t.w∈ns):
  PCalls Tryz.prog 60 [.agg (tokEI t),.rptr [spots l],.rptr [sl txtE 1 ns .view]] (.agg (spE (whP ns l t.w))):=by
 refine pcalls_of_awp tyok cbSpt Tryz.func60 rfl rfl ?_
 have g:=index_c ns t.w hn
 have b:=idxL_mem h
 repeat(first|refine wDB ?_|refine awp_seq_k fun K hK=>?_|refine wN fun bx=>?_|refine qpc rfl rfl rfl (g) ?_|refine qpo rfl rfl rfl rfl rfl rfl (fun _=>g) ?_|(refine wH ?_;clear hK))
 refine rcA ?_
 exact Sub.of_eq rfl
end Go.Proofs.YthfglhjdnpoepaaGreatDoor
namespace Go.Proofs.YthfglhjdnpoepaaGreatDoor
open Go.Ab
def spotF (l:List SpotR) (ns:List (List UInt8)):AV:=.func (.func 60) [] [.rptr [spots l],.rptr [sl txtE 1 ns .view]]
theorem cbSScr:Callable Tryz.prog 27:=fun _ _=>by kernel_rfl
theorem sscript_c (k:Nat) (l:List StI) (p:List SpotR) (hk1:1≤k) (hk:k≤100) (hl:l.length≤10000000000000000) (hA:∀x∈l,x.args.length≤10000000000000000)
  (hN:∀x∈l,∀t∈x.args,-9223372036854775808≤t.n∧t.n≤9223372036854775807) (hp:SpotsOk k p) (_:p.length≤1000000):
  PCalls Tryz.prog 27 [stmtsI l,spots p] (senseV (senseF l p)):=by
 refine pcalls_of_awp tyok cbSScr Tryz.func27 rfl rfl ?_
 have g1:=check_c l hl hA
 have g2:=shpoints_c l hl hA
 unfold senseF
 by_cases he:(lookF l).e=0
 rotate_left
 ·rw[if_pos he]
  ((repeat(first|refine wDB ?_|refine awp_seq_k fun K hK=>?_|refine qpc rfl rfl rfl (g1) ?_|refine qpo rfl rfl rfl rfl rfl rfl (fun _=>g1) ?_|(refine wH ?_;clear hK)));refine wN fun b3=>?_;(repeat(first|refine wDB ?_|refine awp_seq_k fun K hK=>?_|refine qpc rfl rfl rfl (g1) ?_|refine qpo rfl rfl rfl rfl rfl rfl (fun _=>g1) ?_|(refine wH ?_;clear hK)));refine wN fun b7=>?_;(repeat(first|refine wDB ?_|refine awp_seq_k fun K hK=>?_|refine wN fun bx=>?_|refine qpc rfl rfl rfl (g1) ?_|refine qpo rfl rfl rfl rfl rfl rfl (fun _=>g1) ?_|(refine wH ?_;clear hK))))
  refine r3 ?_ ?_ ?_
  all_goals exact Sub.refl _
 obtain⟨_,e2,hnd,h40,_⟩:=lookF_id he
 have ens:(lookF l).ns=namesF l:=by rw[e2]
 rw[if_pos he,ens]at g2
 rw[if_neg (fun h=>h he)]
 have wf:=fun i hi hk=>wf_stmt he (i:=i) hi hk
 generalize namesF l=ns at g2 hnd h40 wf ⊢
 by_cases hlen:p.length=ns.length
 rotate_left
 ·rw[if_pos hlen]
  have hlen':¬(p.length:Int)=ns.length:=by omega
  ((repeat(first|refine wDB ?_|refine awp_seq_k fun K hK=>?_|refine qpc rfl rfl rfl (g1) ?_|refine qpc rfl rfl rfl (g2) ?_|refine qpo rfl rfl rfl rfl rfl rfl (fun _=>g1) ?_|refine qpo rfl rfl rfl rfl rfl rfl (fun _=>g2) ?_|(refine wH ?_;clear hK)));refine wN fun b3=>?_;(repeat(first|refine wDB ?_|refine awp_seq_k fun K hK=>?_|refine qpc rfl rfl rfl (g1) ?_|refine qpc rfl rfl rfl (g2) ?_|refine qpo rfl rfl rfl rfl rfl rfl (fun _=>g1) ?_|refine qpo rfl rfl rfl rfl rfl rfl (fun _=>g2) ?_|(refine wH ?_;clear hK)));refine wN fun b7=>?_;(repeat(first|refine wDB ?_|refine awp_seq_k fun K hK=>?_|refine qpc rfl rfl rfl (g1) ?_|refine qpc rfl rfl rfl (g2) ?_|refine qpo rfl rfl rfl rfl rfl rfl (fun _=>g1) ?_|refine qpo rfl rfl rfl rfl rfl rfl (fun _=>g2) ?_|(refine wH ?_;clear hK)));refine wN fun b9=>?_;(repeat(first|refine wDB ?_|refine awp_seq_k fun K hK=>?_|refine wN fun bx=>?_|refine qpc rfl rfl rfl (g1) ?_|refine qpc rfl rfl rfl (g2) ?_|refine qpo rfl rfl rfl rfl rfl rfl (fun _=>g1) ?_|refine qpo rfl rfl rfl rfl rfl rfl (fun _=>g2) ?_|(refine wH ?_;clear hK))))
  refine r3 ?_ ?_ ?_
  all_goals exact Sub.refl _
 rw[if_neg (fun h=>h hlen)]
 have hlen':(p.length:Int)=ns.length:=by omega
 ((repeat(first|refine wDB ?_|refine awp_seq_k fun K hK=>?_|(refine wH ?_;clear hK)));refine wN fun b3=>?_)
 (((repeat(first|refine wT ?_|refine wN fun bx=>?_)));(try refine wP ?_);repeat(refine wH ?_;clear hK))
 refine awp_freeze [] (s:=3) rfl rfl ?_
 ((repeat(first|refine wDB ?_|refine awp_seq_k fun K hK=>?_|refine qpc rfl rfl rfl (g1) ?_|refine qpc rfl rfl rfl (g2) ?_|refine qpo rfl rfl rfl rfl rfl rfl (fun _=>g1) ?_|refine qpo rfl rfl rfl rfl rfl rfl (fun _=>g2) ?_|(refine wH ?_;clear hK)));refine wN fun b7=>?_;(repeat(first|refine wDB ?_|refine awp_seq_k fun K hK=>?_|refine qpc rfl rfl rfl (g1) ?_|refine qpc rfl rfl rfl (g2) ?_|refine qpo rfl rfl rfl rfl rfl rfl (fun _=>g1) ?_|refine qpo rfl rfl rfl rfl rfl rfl (fun _=>g2) ?_|(refine wH ?_;clear hK)));refine wN fun b9=>?_)
 (((repeat(first|refine wT ?_|refine wN fun bx=>?_)));(try refine wP ?_);repeat(refine wH ?_;clear hK))
 refine awp_freeze [] (s:=9) rfl rfl ?_
 repeat(first|refine wDB ?_|refine awp_seq_k fun K hK=>?_|refine wN fun bx=>?_|(refine wH ?_;clear hK))
 refine awp_loop0 (ι:={y:Nat×Bool×Bool//y.1≤l.length∧(l.drop y.1).foldl (stepS ns p) (y.2.1,y.2.2)=l.foldl (stepS ns p) (true,false)})
  (fun y=>[(4,.bool y.1.2.1),(5,.bool y.1.2.2),(10,spotF p ns),(37,stmtsI l),(38,.int .i64 l.length),(39,.int .i64 y.1.1)]) (fun _=>[]) (fun y=>l.length-y.1.1) ⟨(0,true,false),Nat.zero_le _,rfl⟩ wk dp ?_
 rintro⟨⟨i,a,b⟩,hi,hf⟩
 simp only at hi hf ⊢
 by_cases hlt:i<l.length
 rotate_left
 ·have hge:¬(i:Int)<l.length:=by omega
  obtain rfl:i=l.length:=by omega
  rw[List.drop_length]at hf
  repeat(first|refine wDB ?_|refine awp_seq_k fun K hK=>?_|refine wN fun bx=>?_|(refine wH ?_;clear hK))
  rw[←hf]
  refine r3 ?_ ?_ ?_
  all_goals exact Sub.refl _
 have hlt':(i:Int)<l.length:=by omega
 rw[List.drop_eq_getElem_cons hlt,←getD_eq_getElem' hlt,List.foldl_cons]at hf
 have w:=wf i hlt
 have hxn:=hN (l.getD i default) (getD_mem hlt)
 have hxa:=hA (l.getD i default) (getD_mem hlt)
 ((repeat(first|refine wDB ?_|refine awp_seq_k fun K hK=>?_|(refine wH ?_;clear hK)));refine wN fun b12=>?_)
 (((repeat(first|refine wT ?_|refine wN fun bx=>?_)));(try refine wP ?_);repeat(refine wH ?_;clear hK))
 refine awp_boxSub [] (v':=.agg (stmtEI (l.getD i default))) (Sub.of_eq rfl) ?_
 refine awp_freeze [] (s:=12) rfl rfl ?_
 generalize l.getD i default=x at hf w hxn hxa ⊢
 by_cases hk3:x.k<3
 ·have es:stepS ns p (a,b) x=(a,b):=by unfold stepS;rw[if_neg (by omega),if_neg (by omega)]
  rw[es]at hf
  repeat(first|refine wDB ?_|refine awp_seq_k fun K hK=>?_|refine wN fun bx=>?_|(refine wH ?_;clear hK))
  refine awp_loop0 (ι:={j:Nat//j≤x.args.length})
   (fun j=>[(4,.bool a),(5,.bool b),(10,spotF p ns),(12,.rptr (stmtEI x)),(37,stmtsI l),(38,.int .i64 l.length),(39,.int .i64 i),(44,sl tokEI 5 x.args .view),(45,.int .i64 x.args.length),(46,.int .i64 j.1)])
   (fun _=>[]) (fun j=>x.args.length-j.1) ⟨0,Nat.zero_le _⟩ wk dp ?_
  rintro⟨j,hj⟩
  simp only at hj ⊢
  by_cases hjl:j<x.args.length
  ·have hjl':(j:Int)<x.args.length:=by omega
   ((repeat(first|refine wDB ?_|refine awp_seq_k fun K hK=>?_|(refine wH ?_;clear hK)));refine wN fun b16=>?_;(repeat(first|refine wDB ?_|refine awp_seq_k fun K hK=>?_|refine wN fun bx=>?_|(refine wH ?_;clear hK))))
   exact⟨⟨j+1,hjl⟩,wk,dp,by simp only;omega⟩
  ·have hge:¬(j:Int)<x.args.length:=by omega
   have n4:¬x.k=4:=by omega
   have n5:¬x.k=5:=by omega
   repeat(first|refine wDB ?_|refine awp_seq_k fun K hK=>?_|refine wN fun bx=>?_|(refine wH ?_;clear hK))
   exact⟨⟨(i+1,a,b),hlt,hf⟩,wk,dp,by simp only;omega⟩
 have hk3':3≤x.k:=by omega
 obtain⟨w1,w2,w3,_⟩:=w hk3'
 repeat(first|refine wDB ?_|refine awp_seq_k fun K hK=>?_|refine wN fun bx=>?_|(refine wH ?_;clear hK))
 refine awp_tok0 8 28 ?_
 refine awp_tok0 1 3 ?_
 refine awp_loop0 (ι:={y:Nat×(Option Addr×Nat)×(Option Addr×Nat)//y.1≤x.args.length})
  (fun y=>[(4,.bool a),(5,.bool b),(10,spotF p ns),(12,.rptr (stmtEI x)),(13,sl spE 8 (ptsS ns p (x.args.take y.1.1)) (.own y.1.2.1.1 y.1.2.1.2)),(14,sl numE 1 (numS (x.args.take y.1.1)) (.own y.1.2.2.1 y.1.2.2.2)),(37,stmtsI l),(38,.int .i64 l.length),(39,.int .i64 i),(44,sl tokEI 5 x.args .view),(45,.int .i64 x.args.length),(46,.int .i64 y.1.1)])
  (fun y=>[.tok y.1.2.2.1 y.1.2.2.2 (numS (x.args.take y.1.1)).length 1 3,.tok y.1.2.1.1 y.1.2.1.2 (ptsS ns p (x.args.take y.1.1)).length 8 28]) (fun y=>x.args.length-y.1.1) ⟨(0,(none,0),(none,0)),Nat.zero_le _⟩ wk ⟨0,rfl⟩ ?_
 rintro⟨⟨j,⟨a1,c1⟩,⟨a2,c2⟩⟩,hj⟩
 simp only at hj ⊢
 have b1:=ptsS_len ns p (x.args.take j)
 have b2:=numS_len (x.args.take j)
 rw[List.length_take]at b1 b2
 by_cases hjl:j<x.args.length
 ·have hjl':(j:Int)<x.args.length:=by omega
  have s1:=ptsS_succ ns p hjl
  have s2:=numS_succ hjl
  have wt:=w2 (x.args.getD j default) (getD_mem hjl)
  ((repeat(first|refine wDB ?_|refine awp_seq_k fun K hK=>?_|(refine wH ?_;clear hK)));refine wN fun b16=>?_)
  (((repeat(first|refine wT ?_|refine wN fun bx=>?_)));(try refine wP ?_);repeat(refine wH ?_;clear hK))
  refine awp_boxSub [] (v':=.agg (tokEI (x.args.getD j default))) (Sub.of_eq rfl) ?_
  refine awp_freeze [] (s:=16) rfl rfl ?_
  generalize x.args.getD j default=t at s1 s2 wt ⊢
  by_cases ht:t.k=3
  ·rw[if_pos ht]at s1 s2
   repeat(first|refine wDB ?_|refine awp_seq_k fun K hK=>?_|refine wN fun bx=>?_|(refine wH ?_;clear hK))
   refine qapp tyok numE _ t.n (SubL.refl _) ?_ fun ad cp=>?_
   ·simp only
    omega
   rw[←s1,←s2]
   repeat(first|refine wDB ?_|refine awp_seq_k fun K hK=>?_|refine wN fun bx=>?_|(refine wH ?_;clear hK))
   exact⟨⟨(j+1,(a1,c1),(ad,cp)),hjl⟩,wk,⟨0,rfl⟩,by simp only;omega⟩
  ·rw[if_neg ht]at s1 s2
   have gs:PCalls Tryz.prog 60 ([]++[.agg (tokEI t)]++[.rptr [spots p],.rptr [sl txtE 1 ns .view]]) (.agg (spE (whP ns p t.w))):=spot_c ns p t (by omega) hlen (wt ht)
   repeat(first|refine wDB ?_|refine awp_seq_k fun K hK=>?_|refine wN fun bx=>?_|refine qpc rfl rfl rfl (gs) ?_|refine qpo rfl rfl rfl rfl rfl rfl (fun _=>gs) ?_|(refine wH ?_;clear hK))
   refine qapp tyok spE _ (whP ns p t.w) (SubL.refl _) ?_ fun ad cp=>?_
   ·simp only
    omega
   rw[←s1,←s2]
   repeat(first|refine wDB ?_|refine awp_seq_k fun K hK=>?_|refine wN fun bx=>?_|(refine wH ?_;clear hK))
   exact⟨⟨(j+1,(ad,cp),(a2,c2)),hjl⟩,wk,⟨0,rfl⟩,by simp only;omega⟩
 have hge:¬(j:Int)<x.args.length:=by omega
 obtain rfl:j=x.args.length:=by omega
 rw[List.take_length]at b1 b2 ⊢
 have pok:=ptsS_ok hp hlen w2
 have no:=numS_ok hxn
 by_cases h4:x.k=4
 ·have gs:PCalls Tryz.prog 60 ([]++[.agg (tokEI x.new)]++[.rptr [spots p],.rptr [sl txtE 1 ns .view]]) (.agg (spE (whP ns p x.new.w))):=spot_c ns p x.new (by omega) hlen (w3 h4)
  have gm:=smade_c k x.word.w (whP ns p x.new.w) (ptsS ns p x.args) (numS x.args) hk1 hk (whP_ok hp hlen (w3 h4)) pok (by omega) no (by omega)
  have gm2:=PCalls.sub gm (vs:=[.str x.word.w,.agg (spE (whP ns p x.new.w)),sl spE 8 (ptsS ns p x.args) (.own a1 c1),sl numE 1 (numS x.args) (.own a2 c2)]) (.cons (Sub.refl _) (.cons (Sub.refl _) (.cons (Sub.view _ _ _ _) (.cons (Sub.view _ _ _ _) .nil))))
  have hok:=madeK_ok (w:=x.word.w) hk1 hk (whP_ok hp hlen (w3 h4)) pok no
  have gn:=nought_c (madeQ x.word.w (whP ns p x.new.w) (ptsS ns p x.args) (numS x.args)).1 (by omega) hok.1
  have es:stepS ns p (a,b) x=(a&&zeroL (madeQ x.word.w (whP ns p x.new.w) (ptsS ns p x.args) (numS x.args)).1,b):=by unfold stepS;rw[if_pos h4]
  rw[es]at hf
  unfold zeroL at hf
  have n5:¬x.k=5:=by omega
  cases a with
  |true=>
   repeat(first|refine wKB ?_|refine awp_seq_k fun K hK=>?_|refine wN fun bx=>?_|(refine wH ?_;clear hK))
   refine areg_kept mixed tyok [(6,[])] [0,1,2,3,4,5,7,8,6,9,10,11,12,13,14] (by decide +kernel) ?_
   repeat(first|refine wDB ?_|refine awp_seq_k fun K hK=>?_|refine wN fun bx=>?_|refine qpc rfl rfl rfl (gs) ?_|refine qpc rfl rfl rfl (gm2) ?_|refine qpc rfl rfl rfl (gn) ?_|refine qpo rfl rfl rfl rfl rfl rfl (fun _=>gs) ?_|refine qpo rfl rfl rfl rfl rfl rfl (fun _=>gm2) ?_|refine qpo rfl rfl rfl rfl rfl rfl (fun _=>gn) ?_|(refine wH ?_;clear hK))
   exact⟨⟨(i+1,_,b),hlt,hf⟩,wk,dp,by simp only;omega⟩
  |false=>
   repeat(first|refine wKB ?_|refine awp_seq_k fun K hK=>?_|refine wN fun bx=>?_|(refine wH ?_;clear hK))
   refine areg_kept mixed tyok [(6,[])] [0,1,2,3,4,5,7,8,6,9,10,11,12,13,14] (by decide +kernel) ?_
   repeat(first|refine wDB ?_|refine awp_seq_k fun K hK=>?_|refine wN fun bx=>?_|refine qpc rfl rfl rfl (gs) ?_|refine qpc rfl rfl rfl (gm2) ?_|refine qpc rfl rfl rfl (gn) ?_|refine qpo rfl rfl rfl rfl rfl rfl (fun _=>gs) ?_|refine qpo rfl rfl rfl rfl rfl rfl (fun _=>gm2) ?_|refine qpo rfl rfl rfl rfl rfl rfl (fun _=>gn) ?_|(refine wH ?_;clear hK))
   exact⟨⟨(i+1,false,b),hlt,hf⟩,wk,dp,by simp only;omega⟩
 by_cases h5:x.k=5
 ·have ga:=sasked_c k x.word.w (ptsS ns p x.args) hk1 hk pok (by omega)
  have ga2:=PCalls.sub ga (vs:=[.str x.word.w,sl spE 8 (ptsS ns p x.args) (.own a1 c1)]) (.cons (Sub.refl _) (.cons (Sub.view _ _ _ _) .nil))
  have hok:=askedK_ok (w:=x.word.w) hk1 hk pok
  have gn:=nought_c (askedQ x.word.w (ptsS ns p x.args)).1 (by omega) hok.1
  have es:stepS ns p (a,b) x=(a,zeroL (askedQ x.word.w (ptsS ns p x.args)).1):=by unfold stepS;rw[if_neg h4,if_pos h5]
  rw[es]at hf
  unfold zeroL at hf
  repeat(first|refine wDB ?_|refine awp_seq_k fun K hK=>?_|refine wN fun bx=>?_|refine qpc rfl rfl rfl (ga2) ?_|refine qpc rfl rfl rfl (gn) ?_|refine qpo rfl rfl rfl rfl rfl rfl (fun _=>ga2) ?_|refine qpo rfl rfl rfl rfl rfl rfl (fun _=>gn) ?_|(refine wH ?_;clear hK))
  exact⟨⟨(i+1,a,_),hlt,hf⟩,wk,dp,by simp only;omega⟩
 ·have es:stepS ns p (a,b) x=(a,b):=by unfold stepS;rw[if_neg h4,if_neg h5]
  rw[es]at hf
  repeat(first|refine wDB ?_|refine awp_seq_k fun K hK=>?_|refine wN fun bx=>?_|(refine wH ?_;clear hK))
  exact⟨⟨(i+1,a,b),hlt,hf⟩,wk,dp,by simp only;omega⟩
end Go.Proofs.YthfglhjdnpoepaaGreatDoor
namespace Go.Proofs.YthfglhjdnpoepaaGreatDoor
open Go.Ab
def grT (n:Int) (t:TokI):Int:=IntKind.i64.wrap (n+(t.w.length:Int)/8)
def grS (n:Int) (x:StI):Int:=x.args.foldl grT (IntKind.i64.wrap (IntKind.i64.wrap (n+1)+x.args.length))
def grL (l:List StI):Int:=l.foldl grS 0
theorem foldl_take {α β:Type} [Inhabited α] (f:β→α→β) (b:β) {l:List α} {i:Nat} (h:i<l.length):(l.take (i+1)).foldl f b=f ((l.take i).foldl f b) (l.getD i default):=by
 rw[List.take_succ_eq_append_getElem h,List.foldl_append,show l.getD i default=l[i] by simp[List.getD,h]]
 rfl
theorem getD_in {α:Type} [Inhabited α] {l:List α} {i:Nat} (h:i<l.length):l.getD i default∈l:=by
 rw[List.getD_eq_getElem?_getD,List.getElem?_eq_getElem h]
 exact List.getElem_mem h
theorem cbGrt:Callable Tryz.prog 26:=fun _ _=>by kernel_rfl
theorem great_c (l:List StI) (hl:l.length≤1000000000000000) (hA:∀x∈l,x.args.length≤1000000000000000) (hT:∀x∈l,∀t∈x.args,t.w.length≤1000000000000000):PCalls Tryz.prog 26 [stmtsI l] (.bool (decide (grL l>1000))):=by
 refine pcalls_of_awp tyok cbGrt Tryz.func26 rfl rfl ?_
 repeat(first|refine wD ?_|refine awp_seq_k fun K hK=>?_|refine wN fun bx=>?_|(refine wH ?_;clear hK))
 refine awp_loop0 (ι:={i:Nat//i≤l.length}) (fun i=>[(0,stmtsI l),(3,.int .i64 ((l.take i.1).foldl grS 0)),(4,.int .i64 i.1)]) (fun _=>[]) (fun i=>l.length-i.1) ⟨0,Nat.zero_le _⟩ wk dp ?_
 rintro⟨i,hi⟩
 simp only at hi ⊢
 by_cases hlt:i<l.length
 ·have hlt':(i:Int)<l.length:=by omega
  have hst:=foldl_take grS 0 hlt
  have hm:=getD_in hlt
  have hx:=hA _ hm
  have hgt:l.getD ((i:Int)).toNat default=l.getD i default:=rfl
  repeat(first|refine wDB ?_|refine awp_seq_k fun K hK=>?_|refine wN fun bx=>?_|(refine wH ?_;clear hK))
  refine qaddw ?_
  repeat(first|refine wDB ?_|refine awp_seq_k fun K hK=>?_|refine wN fun bx=>?_|(refine wH ?_;clear hK))
  refine qaddw ?_
  repeat(first|refine wDB ?_|refine awp_seq_k fun K hK=>?_|refine wN fun bx=>?_|(refine wH ?_;clear hK))
  refine awp_loop0 (ι:={k:Nat//k≤(l.getD i default).args.length})
   (fun k=>[(0,stmtsI l),(3,.int .i64 (((l.getD i default).args.take k.1).foldl grT (IntKind.i64.wrap (IntKind.i64.wrap ((l.take i).foldl grS 0+1)+(l.getD i default).args.length)))),(4,.int .i64 i),(5,.int .i64 k.1)])
   (fun _=>[]) (fun k=>(l.getD i default).args.length-k.1) ⟨0,Nat.zero_le _⟩ wk dp ?_
  rintro⟨k,hk⟩
  simp only at hk ⊢
  by_cases hkl:k<(l.getD i default).args.length
  ·have hkl':(k:Int)<(l.getD i default).args.length:=by omega
   have hw:=hT _ hm _ (getD_in hkl)
   have hk2:(k:Int)<(l.getD ((i:Int)).toNat default).args.length:=hkl'
   have hw':((l.getD ((i:Int)).toNat default).args.getD ((k:Int)).toNat default).w.length≤1000000000000000:=hw
   have hkt:=foldl_take grT (IntKind.i64.wrap (IntKind.i64.wrap ((l.take i).foldl grS 0+1)+(l.getD i default).args.length)) hkl
   repeat(first|refine wDB ?_|refine awp_seq_k fun K hK=>?_|refine wN fun bx=>?_|(refine wH ?_;clear hK))
   refine qaddw ?_
   repeat(first|refine wDB ?_|refine awp_seq_k fun K hK=>?_|refine wN fun bx=>?_|(refine wH ?_;clear hK))
   refine⟨⟨k+1,hkl⟩,⟨⟨_,rfl,Sub.refl _⟩,⟨_,rfl,Sub.of_eq (congrArg _ hkt.symm)⟩,wk⟩,dp,by simp only;omega⟩
  ·have hkg:¬(k:Int)<(l.getD i default).args.length:=by omega
   obtain rfl:k=(l.getD i default).args.length:=by omega
   rw[List.take_length]
   repeat(first|refine wDB ?_|refine awp_seq_k fun K hK=>?_|refine wN fun bx=>?_|(refine wH ?_;clear hK))
   refine⟨⟨i+1,hlt⟩,⟨⟨_,rfl,Sub.refl _⟩,⟨_,rfl,Sub.of_eq (congrArg _ hst.symm)⟩,wk⟩,dp,by simp only;omega⟩
 ·have hge:¬(i:Int)<l.length:=by omega
  obtain rfl:i=l.length:=by omega
  rw[List.take_length]
  repeat(first|refine wDB ?_|refine awp_seq_k fun K hK=>?_|refine wN fun bx=>?_|(refine wH ?_;clear hK))
  refine r1 ?_
  exact Sub.refl _
end Go.Proofs.YthfglhjdnpoepaaGreatDoor
namespace Go.Proofs.YthfglhjdnpoepaaGreatDoor
open Go.Ab
theorem cbRNgt:Callable Tryz.prog 65:=fun _ _=>by kernel_rfl
theorem rnought_c (l:List Rat) (hl:l.length≤1000000000):PCalls Tryz.prog 65 [ratQ l] (.bool (zeroL l)):=by
 refine pcalls_of_awp tyok cbRNgt Tryz.func65 rfl rfl ?_
 unfold ratQ
 repeat(first|refine wD ?_|refine awp_seq_k fun K hK=>?_|refine wN fun bx=>?_|(refine wH ?_;clear hK))
 refine awp_loop0 (ι:={i:Nat//i≤l.length∧zeroL (l.drop i)=zeroL l}) (fun i=>[(0,sl (fun q=>qE (qrC q)) 4 l .view),(3,.int .i64 i.1)]) (fun _=>[]) (fun i=>l.length-i.1) ⟨0,Nat.zero_le _,rfl⟩ wk dp ?_
 rintro⟨i,hi,hf⟩
 simp only at hi hf ⊢
 by_cases hlt:i<l.length
 ·have hlt':(i:Int)<l.length:=by omega
  have g:=qSign_c (l.getD ((i:Int)).toNat default)
  rw[List.drop_eq_getElem_cons hlt,←getD_eq_getElem' hlt]at hf
  unfold zeroL at hf
  rw[List.all_cons]at hf
  by_cases hz:l.getD i default=0
  ·have hs:signQ (l.getD ((i:Int)).toNat default)=0:=(signQ_zero _).2 hz
   rw[decide_eq_true hz,Bool.true_and]at hf
   repeat(first|refine wDB ?_|refine awp_seq_k fun K hK=>?_|refine wN fun bx=>?_|refine qpc rfl rfl rfl (g) ?_|refine qpo rfl rfl rfl rfl rfl rfl (fun _=>g) ?_|(refine wH ?_;clear hK))
   exact⟨⟨i+1,hlt,hf⟩,wk,dp,by simp only;omega⟩
  ·have hs:¬signQ (l.getD ((i:Int)).toNat default)=0:=fun e=>hz ((signQ_zero _).1 e)
   rw[decide_eq_false hz,Bool.false_and]at hf
   repeat(first|refine wDB ?_|refine awp_seq_k fun K hK=>?_|refine wN fun bx=>?_|refine qpc rfl rfl rfl (g) ?_|refine qpo rfl rfl rfl rfl rfl rfl (fun _=>g) ?_|(refine wH ?_;clear hK))
   refine r1 ?_
   exact Sub.of_eq (congrArg AV.bool hf)
 ·have hge:¬(i:Int)<l.length:=by omega
  obtain rfl:i=l.length:=by omega
  rw[List.drop_length]at hf
  repeat(first|refine wDB ?_|refine awp_seq_k fun K hK=>?_|refine wN fun bx=>?_|(refine wH ?_;clear hK))
  refine r1 ?_
  exact Sub.of_eq (congrArg AV.bool hf)
theorem cbRIx24:Callable Tryz.prog 64:=fun _ _=>by kernel_rfl
theorem rindex24_c (xs:List (List UInt8)) (x:List UInt8) (hx:xs.length≤1000000000):PCalls Tryz.prog 64 [sl txtE 1 xs .view,.str x] (.int .i64 (idxL x xs)):=by
 refine pcalls_of_awp tyok cbRIx24 Tryz.func64 rfl rfl ?_
 repeat(first|refine wD ?_|refine awp_seq_k fun K hK=>?_|refine wN fun bx=>?_|(refine wH ?_;clear hK))
 refine awp_loop0 (ι:={i:Nat//i≤xs.length∧∀j,j<i→xs.getD j default≠x})
  (fun i=>[(0,sl txtE 1 xs .view),(1,.str x),(5,.int .i64 i.1)]) (fun _=>[]) (fun i=>xs.length-i.1) ⟨0,Nat.zero_le _,fun j hj=>absurd hj (by omega)⟩ wk dp ?_
 rintro⟨i,hi,hn⟩
 simp only at hi hn ⊢
 by_cases hlt:i<xs.length
 ·have hlt':(i:Int)<xs.length:=by omega
  repeat(first|refine wDB ?_|refine awp_seq_k fun K hK=>?_|refine wN fun bx=>?_|(refine wH ?_;clear hK))
  refine awp_cond rfl (fun hb=>?_) (fun hb=>?_)
  ·have he:xs.getD i default=x:=by simpa using hb
   repeat(first|refine wD ?_|refine awp_seq_k fun K hK=>?_|refine wN fun bx=>?_|(refine wH ?_;clear hK))
   refine r1 ?_
   exact Sub.of_eq (by rw[idxL_hit x xs i hlt he hn])
  ·have he:xs.getD i default≠x:=by simpa using hb
   repeat(first|refine wD ?_|refine awp_seq_k fun K hK=>?_|refine wN fun bx=>?_|(refine wH ?_;clear hK))
   refine⟨⟨i+1,hlt,fun j hj=>?_⟩,wk,dp,?_⟩
   ·by_cases e:j=i
    ·rw[e];exact he
    ·exact hn j (by omega)
   ·simp only;omega
 ·have hge:¬(i:Int)<xs.length:=by omega
  repeat(first|refine wDB ?_|refine awp_seq_k fun K hK=>?_|refine wN fun bx=>?_|(refine wH ?_;clear hK))
  refine r1 ?_
  exact Sub.of_eq (by rw[idxL_miss x xs fun j hj=>hn j (by omega)])
theorem sqP_of' (l:List SpotR):sqP (l.map ofSpot)=spP l:=by
 funext i
 unfold sqP spP
 rw[List.getD_eq_getElem?_getD,List.getD_eq_getElem?_getD,List.getElem?_map]
 cases l[i]? with
 |some s=>exact ofSpot_p s
 |none=>
  show(default:SQ).p=(default:SpotR).p
  decide +kernel
theorem sqP_cons' (p:SpotR) (l:List SpotR):sqP (ofSpot p::l.map ofSpot)=spP (p::l):=sqP_of' (p::l)
def atQ (ns:List (List UInt8)) (l:List SQ) (w:List UInt8):SQ:=l.getD (idxL w ns).toNat default
def ptsQ (ns:List (List UInt8)) (l:List SQ) (a:List TokI):List SQ:=(a.filter fun t=>decide (t.k≠3)).map fun t=>atQ ns l t.w
theorem ptsQ_len (ns:List (List UInt8)) (l:List SQ) (a:List TokI):(ptsQ ns l a).length≤a.length:=by
 unfold ptsQ
 rw[List.length_map]
 exact List.length_filter_le _ _
theorem ptsQ_succ (ns:List (List UInt8)) (l:List SQ) {a:List TokI} {j:Nat} (hj:j<a.length):
  ptsQ ns l (a.take (j+1))=if(a.getD j default).k=3 then ptsQ ns l (a.take j) else ptsQ ns l (a.take j)++[atQ ns l (a.getD j default).w]:=by
 unfold ptsQ
 rw[List.take_succ_eq_append_getElem hj,List.filter_append,List.map_append,getD_eq_getElem' hj]
 by_cases h:a[j].k=3
 ·rw[if_pos h,List.filter_cons_of_neg (by simp[h])];simp
 ·rw[if_neg h,List.filter_cons_of_pos (by simp[h])];simp
theorem cbRSpt:Callable Tryz.prog 63:=fun _ _=>by kernel_rfl
theorem rspots_c (x:StI) (ns:List (List UInt8)) (p:List SQ) (hn:ns.length≤1000000000) (hx:x.args.length≤1000000) (hl:p.length=ns.length) (w2:∀t∈x.args,t.k≠3→t.w∈ns):
  PCalls Tryz.prog 63 [.agg (stmtEI x),sl txtE 1 ns .view,spotsQ p] (.tuple [spotsQ (ptsQ ns p x.args),nums30 (numS x.args)]):=by
 refine pcalls_of_awp tyok cbRSpt Tryz.func63 rfl rfl ?_
 ((repeat(first|refine wDB ?_|refine awp_seq_k fun K hK=>?_|(refine wH ?_;clear hK)));refine wN fun b3=>?_)
 (((repeat(first|refine wT ?_|refine wN fun bx=>?_)));(try refine wP ?_);repeat(refine wH ?_;clear hK))
 refine awp_freeze [] (s:=3) rfl rfl ?_
 repeat(first|refine wDB ?_|refine awp_seq_k fun K hK=>?_|refine wN fun bx=>?_|(refine wH ?_;clear hK))
 refine awp_tok0 8 46 ?_
 refine awp_tok0 1 3 ?_
 refine awp_loop0 (ι:={y:Nat×(Option Addr×Nat)×(Option Addr×Nat)//y.1≤x.args.length})
  (fun y=>[(1,sl txtE 1 ns .view),(2,spotsQ p),(3,.rptr (stmtEI x)),(8,sl sqE 8 (ptsQ ns p (x.args.take y.1.1)) (.own y.1.2.1.1 y.1.2.1.2)),(9,sl numE 1 (numS (x.args.take y.1.1)) (.own y.1.2.2.1 y.1.2.2.2)),(10,.int .i64 y.1.1)])
  (fun y=>[.tok y.1.2.2.1 y.1.2.2.2 (numS (x.args.take y.1.1)).length 1 3,.tok y.1.2.1.1 y.1.2.1.2 (ptsQ ns p (x.args.take y.1.1)).length 8 46]) (fun y=>x.args.length-y.1.1) ⟨(0,(none,0),(none,0)),Nat.zero_le _⟩ wk ⟨0,rfl⟩ ?_
 rintro⟨⟨j,⟨a1,c1⟩,⟨a2,c2⟩⟩,hj⟩
 simp only at hj ⊢
 have b1:=ptsQ_len ns p (x.args.take j)
 have b2:=numS_len (x.args.take j)
 rw[List.length_take]at b1 b2
 by_cases hjl:j<x.args.length
 ·have hjl':(j:Int)<x.args.length:=by omega
  have s1:=ptsQ_succ ns p hjl
  have s2:=numS_succ hjl
  have wt:=w2 (x.args.getD j default) (getD_mem hjl)
  by_cases ht:(x.args.getD j default).k=3
  ·have ht':(x.args.getD ((j:Int)).toNat default).k=3:=ht
   rw[if_pos ht]at s1 s2
   repeat(first|refine wDB ?_|refine awp_seq_k fun K hK=>?_|refine wN fun bx=>?_|(refine wH ?_;clear hK))
   refine qapp tyok numE _ (x.args.getD j default).n (SubL.refl _) ?_ fun ad cp=>?_
   ·simp only
    omega
   rw[←s1,←s2]
   repeat(first|refine wDB ?_|refine awp_seq_k fun K hK=>?_|refine wN fun bx=>?_|(refine wH ?_;clear hK))
   exact⟨⟨(j+1,(a1,c1),(ad,cp)),hjl⟩,wk,⟨0,rfl⟩,by simp only;omega⟩
  ·have ht':¬(x.args.getD ((j:Int)).toNat default).k=3:=ht
   rw[if_neg ht]at s1 s2
   have gi:=rindex24_c ns (x.args.getD ((j:Int)).toNat default).w hn
   have gb:=idxL_mem (wt ht)
   have gb':0≤idxL (x.args.getD ((j:Int)).toNat default).w ns∧idxL (x.args.getD ((j:Int)).toNat default).w ns<(ns.length:Int):=gb
   have gl:idxL (x.args.getD ((j:Int)).toNat default).w ns<(p.length:Int):=by omega
   repeat(first|refine wDB ?_|refine awp_seq_k fun K hK=>?_|refine wN fun bx=>?_|refine qpc rfl rfl rfl (gi) ?_|refine qpo rfl rfl rfl rfl rfl rfl (fun _=>gi) ?_|(refine wH ?_;clear hK))
   refine qapp tyok sqE _ (atQ ns p (x.args.getD j default).w) (SubL.refl _) ?_ fun ad cp=>?_
   ·simp only
    omega
   rw[←s1,←s2]
   repeat(first|refine wDB ?_|refine awp_seq_k fun K hK=>?_|refine wN fun bx=>?_|(refine wH ?_;clear hK))
   exact⟨⟨(j+1,(ad,cp),(a2,c2)),hjl⟩,wk,⟨0,rfl⟩,by simp only;omega⟩
 have hge:¬(j:Int)<x.args.length:=by omega
 obtain rfl:j=x.args.length:=by omega
 rw[List.take_length]
 repeat(first|refine wDB ?_|refine awp_seq_k fun K hK=>?_|refine wN fun bx=>?_|(refine wH ?_;clear hK))
 refine r2 ?_ ?_
 ·exact Sub.view _ _ _ _
 ·exact Sub.view _ _ _ _
theorem atQ_of {ns:List (List UInt8)} {p:List SpotR} {w:List UInt8} (hl:p.length=ns.length) (hw:w∈ns):atQ ns (p.map ofSpot) w=ofSpot (whP ns p w):=by
 have:=idxL_mem hw
 unfold atQ whP
 rw[getD_eq_getElem' (by rw[List.length_map];omega),getD_eq_getElem' (by omega),List.getElem_map]
theorem ptsQ_of {ns:List (List UInt8)} {p:List SpotR} (hl:p.length=ns.length) {a:List TokI} (h:∀t∈a,t.k≠3→t.w∈ns):ptsQ ns (p.map ofSpot) a=(ptsS ns p a).map ofSpot:=by
 unfold ptsQ ptsS
 rw[List.map_map]
 refine List.map_congr_left fun t ht=>?_
 have:=List.mem_filter.1 ht
 exact atQ_of hl (h t this.1 (of_decide_eq_true this.2))
theorem cbRScr24:Callable Tryz.prog 28:=fun _ _=>by kernel_rfl
theorem rscript24_c (k:Nat) (l:List StI) (p:List SpotR) (hk1:1≤k) (hk:k≤100) (hl:l.length≤10000000000000000) (hA:∀x∈l,x.args.length≤10000000000000000)
  (hN:∀x∈l,∀t∈x.args,-9223372036854775808≤t.n∧t.n≤9223372036854775807) (hp:SpotsOk k p) (_:p.length≤1000000):
  PCalls Tryz.prog 28 [stmtsI l,spotsQ (p.map ofSpot)] (senseV (senseF l p)):=by
 refine pcalls_of_awp tyok cbRScr24 Tryz.func28 rfl rfl ?_
 have g1:=look22_c l hl hA
 have hpm:(p.map ofSpot).length=p.length:=List.length_map _
 unfold senseF
 by_cases he:(lookF l).e=0
 rotate_left
 ·rw[if_pos he]
  rw[lookR_of,if_neg he]at g1
  have g1:PCalls Tryz.prog 62 [stmtsI l] (.tuple [sl txtE 1 [] .view,placeV (lookF l).ln (lookF l).co,.int .i64 (lookF l).e]):=g1
  ((repeat(first|refine wDB ?_|refine awp_seq_k fun K hK=>?_|refine qpc rfl rfl rfl (g1) ?_|refine qpo rfl rfl rfl rfl rfl rfl (fun _=>g1) ?_|(refine wH ?_;clear hK)));refine wN fun b8=>?_;(repeat(first|refine wDB ?_|refine awp_seq_k fun K hK=>?_|refine wN fun bx=>?_|refine qpc rfl rfl rfl (g1) ?_|refine qpo rfl rfl rfl rfl rfl rfl (fun _=>g1) ?_|(refine wH ?_;clear hK))))
  refine r3 ?_ ?_ ?_
  all_goals exact Sub.refl _
 obtain⟨h3,e2,hnd,h40,hw⟩:=lookF_id he
 have ens:(lookF l).ns=namesF l:=by rw[e2]
 rw[lookR_of,if_pos he,ens]at g1
 have g1:PCalls Tryz.prog 62 [stmtsI l] (.tuple [sl txtE 1 (namesF l) .view,placeV 0 0,.int .i64 0]):=g1
 rw[if_neg (fun h=>h he)]
 have wf:=fun i hi hk=>wf_stmt he (i:=i) hi hk
 have hk0:(l.getD 0 default).k=1:=by
  rw[getD_eq_getElem' (by omega)]
  exact((place_k (hw 0 (by omega)).1).1 rfl).1
 have hk1':(l.getD 1 default).k=2:=by
  rw[getD_eq_getElem' (by omega)]
  exact(place_k (hw 1 (by omega)).1).2.1 rfl
 have hk2:∀i,2≤i→i<l.length→3≤(l.getD i default).k:=fun i h1 h2=>by
  rw[getD_eq_getElem' h2]
  have:=place_k (hw i h2).1
  by_cases e:i+1=l.length
  ·have:=this.2.2.1 h1 e
   omega
  ·have:=this.2.2.2 h1 e
   omega
 clear hw
 generalize namesF l=ns at g1 hnd h40 wf ens ⊢
 by_cases hlen:p.length=ns.length
 rotate_left
 ·rw[if_pos hlen]
  have hlen':¬((p.map ofSpot).length:Int)=ns.length:=by omega
  ((repeat(first|refine wDB ?_|refine awp_seq_k fun K hK=>?_|refine qpc rfl rfl rfl (g1) ?_|refine qpo rfl rfl rfl rfl rfl rfl (fun _=>g1) ?_|(refine wH ?_;clear hK)));refine wN fun b8=>?_;(repeat(first|refine wDB ?_|refine awp_seq_k fun K hK=>?_|refine wN fun bx=>?_|refine qpc rfl rfl rfl (g1) ?_|refine qpo rfl rfl rfl rfl rfl rfl (fun _=>g1) ?_|(refine wH ?_;clear hK))))
  refine r3 ?_ ?_ ?_
  all_goals exact Sub.refl _
 rw[if_neg (fun h=>h hlen)]
 have hlen':((p.map ofSpot).length:Int)=ns.length:=by omega
 have hf0:(l.drop 2).foldl (stepS ns p) (true,false)=l.foldl (stepS ns p) (true,false):=by
  have e:l=l.getD 0 default::l.getD 1 default::l.drop 2:=by
   rw[getD_eq_getElem' (by omega),getD_eq_getElem' (by omega),List.getElem_cons_drop,List.getElem_cons_drop]
   rfl
  have s0:∀x s,x.k<3→stepS ns p s x=s:=fun x s h=>by unfold stepS;rw[if_neg (by omega),if_neg (by omega)]
  conv=>rhs;rw[e]
  rw[List.foldl_cons,List.foldl_cons,s0 _ _ (by omega),s0 _ _ (by omega)]
 ((repeat(first|refine wDB ?_|refine awp_seq_k fun K hK=>?_|refine qpc rfl rfl rfl (g1) ?_|refine qpo rfl rfl rfl rfl rfl rfl (fun _=>g1) ?_|(refine wH ?_;clear hK)));refine wN fun b8=>?_;(repeat(first|refine wDB ?_|refine awp_seq_k fun K hK=>?_|refine wN fun bx=>?_|refine qpc rfl rfl rfl (g1) ?_|refine qpo rfl rfl rfl rfl rfl rfl (fun _=>g1) ?_|(refine wH ?_;clear hK))))
 refine awp_loop0 (ι:={y:Nat×Bool×Bool//2≤y.1∧y.1≤l.length∧(l.drop y.1).foldl (stepS ns p) (y.2.1,y.2.2)=l.foldl (stepS ns p) (true,false)})
  (fun y=>[(0,stmtsI l),(1,spotsQ (p.map ofSpot)),(7,sl txtE 1 ns .view),(10,.bool y.1.2.1),(11,.bool y.1.2.2),(12,.int .i64 y.1.1)]) (fun _=>[]) (fun y=>l.length-y.1.1) ⟨(2,true,false),Nat.le_refl _,by omega,hf0⟩ wk dp ?_
 rintro⟨⟨i,a,b⟩,hi2,hi,hf⟩
 simp only at hi2 hi hf ⊢
 by_cases hlt:i<l.length
 rotate_left
 ·have hge:¬(i:Int)<l.length:=by omega
  obtain rfl:i=l.length:=by omega
  rw[List.drop_length]at hf
  repeat(first|refine wDB ?_|refine awp_seq_k fun K hK=>?_|refine wN fun bx=>?_|(refine wH ?_;clear hK))
  rw[←hf]
  refine r3 ?_ ?_ ?_
  all_goals exact Sub.refl _
 have hlt':(i:Int)<l.length:=by omega
 rw[List.drop_eq_getElem_cons hlt,←getD_eq_getElem' hlt,List.foldl_cons]at hf
 have hk3:=hk2 i hi2 hlt
 obtain⟨wa,w2,w3,_⟩:=wf i hlt hk3
 have hxn:=hN (l.getD i default) (getD_mem hlt)
 have pok:=ptsS_ok hp hlen w2
 have no:=numS_ok hxn
 have b1:=ptsS_len ns p (l.getD i default).args
 have b2:=numS_len (l.getD i default).args
 have gsp:=rspots_c (l.getD i default) ns (p.map ofSpot) (by omega) (by omega) (by omega) w2
 rw[ptsQ_of hlen w2]at gsp
 obtain⟨m,rfl⟩:∃m,k=m+1:=⟨k-1,by omega⟩
 have hmap:∀s∈(ptsS ns p (l.getD i default).args).map ofSpot,SQOk (m+1) s:=fun s hs=>by
  obtain⟨z,hz,rfl⟩:=List.mem_map.1 hs
  exact ofSpot_ok (pok z hz)
 have gsp':PCalls Tryz.prog 63 [.agg (stmtEI (l.getD ((i:Int)).toNat default)),sl txtE 1 ns .view,spotsQ (p.map ofSpot)] (.tuple [spotsQ ((ptsS ns p (l.getD i default).args).map ofSpot),nums30 (numS (l.getD i default).args)]):=gsp
 by_cases h4:(l.getD i default).k=4
 ·have h4':(l.getD ((i:Int)).toNat default).k=4:=h4
  have hwn:=w3 h4
  have gi:=rindex24_c ns (l.getD ((i:Int)).toNat default).new.w (by omega)
  have gb:0≤idxL (l.getD ((i:Int)).toNat default).new.w ns∧idxL (l.getD ((i:Int)).toNat default).new.w ns<(ns.length:Int):=idxL_mem hwn
  have gl:idxL (l.getD ((i:Int)).toNat default).new.w ns<((p.map ofSpot).length:Int):=by omega
  have gm:=r24Made_c (m+1) (l.getD i default).word.w (ofSpot (whP ns p (l.getD i default).new.w)) ((ptsS ns p (l.getD i default).args).map ofSpot) (numS (l.getD i default).args) (by omega) (ofSpot_ok (whP_ok hp hlen hwn)) hmap no
  rw[List.length_map,sqP_cons',←madeV_eq,←atQ_of hlen hwn]at gm
  have gm':PCalls Tryz.prog 10 [.str (l.getD ((i:Int)).toNat default).word.w,.agg (sqE ((p.map ofSpot).getD (idxL (l.getD ((i:Int)).toNat default).new.w ns).toNat default)),spotsQ ((ptsS ns p (l.getD i default).args).map ofSpot),nums30 (numS (l.getD i default).args)] _:=gm
  have hok:=madeK_ok (w:=(l.getD i default).word.w) hk1 hk (whP_ok hp hlen hwn) pok no
  have gn:=rnought_c (madeQ (l.getD i default).word.w (whP ns p (l.getD i default).new.w) (ptsS ns p (l.getD i default).args) (numS (l.getD i default).args)).1 (by omega)
  have es:stepS ns p (a,b) (l.getD i default)=(a&&zeroL (madeQ (l.getD i default).word.w (whP ns p (l.getD i default).new.w) (ptsS ns p (l.getD i default).args) (numS (l.getD i default).args)).1,b):=by unfold stepS;rw[if_pos h4]
  rw[es]at hf
  have n5:¬(l.getD ((i:Int)).toNat default).k=5:=by omega
  cases a with
  |true=>
   repeat(first|refine wKB ?_|refine awp_seq_k fun K hK=>?_|refine wN fun bx=>?_|refine qpc rfl rfl rfl (gsp') ?_|refine qpo rfl rfl rfl rfl rfl rfl (fun _=>gsp') ?_|(refine wH ?_;clear hK))
   refine areg_kept mixed tyok [(14,[])] [0,1,2,3,4,5,6,7,8,9,10,11,12,13,17,18,14,15,16,19,20,21,22,23,24] (by decide +kernel) ?_
   repeat(first|refine wDB ?_|refine awp_seq_k fun K hK=>?_|refine wN fun bx=>?_|refine qpc rfl rfl rfl (gsp') ?_|refine qpc rfl rfl rfl (gi) ?_|refine qpc rfl rfl rfl (gm') ?_|refine qpc rfl rfl rfl (gn) ?_|refine qpo rfl rfl rfl rfl rfl rfl (fun _=>gsp') ?_|refine qpo rfl rfl rfl rfl rfl rfl (fun _=>gi) ?_|refine qpo rfl rfl rfl rfl rfl rfl (fun _=>gm') ?_|refine qpo rfl rfl rfl rfl rfl rfl (fun _=>gn) ?_|(refine wH ?_;clear hK))
   exact⟨⟨(i+1,_,b),by omega,hlt,hf⟩,wk,dp,by simp only;omega⟩
  |false=>
   repeat(first|refine wKB ?_|refine awp_seq_k fun K hK=>?_|refine wN fun bx=>?_|refine qpc rfl rfl rfl (gsp') ?_|refine qpo rfl rfl rfl rfl rfl rfl (fun _=>gsp') ?_|(refine wH ?_;clear hK))
   refine areg_kept mixed tyok [(14,[])] [0,1,2,3,4,5,6,7,8,9,10,11,12,13,17,18,14,15,16,19,20,21,22,23,24] (by decide +kernel) ?_
   repeat(first|refine wDB ?_|refine awp_seq_k fun K hK=>?_|refine wN fun bx=>?_|refine qpc rfl rfl rfl (gsp') ?_|refine qpc rfl rfl rfl (gi) ?_|refine qpc rfl rfl rfl (gm') ?_|refine qpc rfl rfl rfl (gn) ?_|refine qpo rfl rfl rfl rfl rfl rfl (fun _=>gsp') ?_|refine qpo rfl rfl rfl rfl rfl rfl (fun _=>gi) ?_|refine qpo rfl rfl rfl rfl rfl rfl (fun _=>gm') ?_|refine qpo rfl rfl rfl rfl rfl rfl (fun _=>gn) ?_|(refine wH ?_;clear hK))
   exact⟨⟨(i+1,false,b),by omega,hlt,hf⟩,wk,dp,by simp only;omega⟩
 have h4':¬(l.getD ((i:Int)).toNat default).k=4:=h4
 by_cases h5:(l.getD i default).k=5
 ·have h5':(l.getD ((i:Int)).toNat default).k=5:=h5
  have ga:=r24Asked_c (m+1) (l.getD i default).word.w ((ptsS ns p (l.getD i default).args).map ofSpot) (by omega) hmap
  rw[List.length_map,sqP_of',←askedV_eq]at ga
  have ga':PCalls Tryz.prog 14 [.str (l.getD ((i:Int)).toNat default).word.w,spotsQ ((ptsS ns p (l.getD i default).args).map ofSpot)] _:=ga
  have hok:=askedK_ok (w:=(l.getD i default).word.w) hk1 hk pok
  have gn:=rnought_c (askedQ (l.getD i default).word.w (ptsS ns p (l.getD i default).args)).1 (by omega)
  have es:stepS ns p (a,b) (l.getD i default)=(a,zeroL (askedQ (l.getD i default).word.w (ptsS ns p (l.getD i default).args)).1):=by unfold stepS;rw[if_neg h4,if_pos h5]
  rw[es]at hf
  repeat(first|refine wDB ?_|refine awp_seq_k fun K hK=>?_|refine wN fun bx=>?_|refine qpc rfl rfl rfl (gsp') ?_|refine qpc rfl rfl rfl (ga') ?_|refine qpc rfl rfl rfl (gn) ?_|refine qpo rfl rfl rfl rfl rfl rfl (fun _=>gsp') ?_|refine qpo rfl rfl rfl rfl rfl rfl (fun _=>ga') ?_|refine qpo rfl rfl rfl rfl rfl rfl (fun _=>gn) ?_|(refine wH ?_;clear hK))
  exact⟨⟨(i+1,a,_),by omega,hlt,hf⟩,wk,dp,by simp only;omega⟩
 ·have h5':¬(l.getD ((i:Int)).toNat default).k=5:=h5
  have es:stepS ns p (a,b) (l.getD i default)=(a,b):=by unfold stepS;rw[if_neg h4,if_neg h5]
  rw[es]at hf
  repeat(first|refine wDB ?_|refine awp_seq_k fun K hK=>?_|refine wN fun bx=>?_|refine qpc rfl rfl rfl (gsp') ?_|refine qpo rfl rfl rfl rfl rfl rfl (fun _=>gsp') ?_|(refine wH ?_;clear hK))
  exact⟨⟨(i+1,a,b),by omega,hlt,hf⟩,wk,dp,by simp only;omega⟩
end Go.Proofs.YthfglhjdnpoepaaGreatDoor
namespace Go.Proofs.YthfglhjdnpoepaaGreatDoor
open Go.Ab
theorem cbLscr:Callable Tryz.prog 5:=fun _ _=>by kernel_rfl
theorem senseScript_w (m:Nat) (l:List StI) (p:List SpotR) (hl:l.length≤1000000000000000) (hA:∀x∈l,x.args.length≤1000000000000000) (hT:∀x∈l,∀t∈x.args,t.w.length≤1000000000000000)
  (hN:∀x∈l,∀t∈x.args,-9223372036854775808≤t.n∧t.n≤9223372036854775807) (hp:SpotsOk m p) (hpl:p.length≤1099511627744):
  PCalls Tryz.prog 5 [stmtsI l,spots p] (.bool true):=by
 refine pcalls_of_awp tyok cbLscr Tryz.func5 rfl rfl ?_
 have g1:=great_c l hl hA hT
 have g2:=lgreat_c p (by omega)
 have gk:=lknown_c
 cases c1:decide (grL l>1000)with
 |true=>
  rw[c1]at g1
  repeat(first|refine wDB ?_|refine awp_seq_k fun K hK=>?_|refine wN fun bx=>?_|refine qpc rfl rfl rfl (g1) ?_|refine qpc rfl rfl rfl (gk) ?_|refine qpo rfl rfl rfl rfl rfl rfl (fun _=>g1) ?_|refine qpo rfl rfl rfl rfl rfl rfl (fun _=>gk) ?_|(refine wH ?_;clear hK))
  refine r1 ?_
  exact Sub.refl _
 |false=>
 rw[c1]at g1
 cases c2:greatB p with
 |true=>
  rw[c2]at g2
  repeat(first|refine wDB ?_|refine awp_seq_k fun K hK=>?_|refine wN fun bx=>?_|refine qpc rfl rfl rfl (g1) ?_|refine qpc rfl rfl rfl (g2) ?_|refine qpc rfl rfl rfl (gk) ?_|refine qpo rfl rfl rfl rfl rfl rfl (fun _=>g1) ?_|refine qpo rfl rfl rfl rfl rfl rfl (fun _=>g2) ?_|refine qpo rfl rfl rfl rfl rfl rfl (fun _=>gk) ?_|(refine wH ?_;clear hK))
  refine r1 ?_
  exact Sub.refl _
 |false=>
 rw[c2]at g2
 obtain⟨h3,h45⟩:=greatB_no c2 hp
 have s1:=sscript_c 3 l p (by decide) (by decide) (by omega) (fun x hx=>by have:=hA x hx;omega) hN h3 (by omega)
 have s2:=rscript24_c 3 l p (by decide) (by decide) (by omega) (fun x hx=>by have:=hA x hx;omega) hN h3 (by omega)
 have ka:=r24All_c p (by omega) (fun s hs=>⟨(h3 s hs).x.mono (by decide),(h3 s hs).y.mono (by decide)⟩)
 generalize senseF l p=z at s1 s2
 obtain⟨a,b,e⟩:=z
 have s1:PCalls Tryz.prog 27 [stmtsI l,spots p] (.tuple [.bool a,.bool b,.int .i64 e]):=s1
 have s2:PCalls Tryz.prog 28 [stmtsI l,spotsQ (p.map ofSpot)] (.tuple [.bool a,.bool b,.int .i64 e]):=s2
 cases a<;>cases b
 all_goals
  repeat(first|refine wDB ?_|refine awp_seq_k fun K hK=>?_|refine wN fun bx=>?_|refine qpc rfl rfl rfl (g1) ?_|refine qpc rfl rfl rfl (g2) ?_|refine qpc rfl rfl rfl (s1) ?_|refine qpc rfl rfl rfl (ka) ?_|refine qpc rfl rfl rfl (s2) ?_|refine qpc rfl rfl rfl (gk) ?_|refine qpo rfl rfl rfl rfl rfl rfl (fun _=>g1) ?_|refine qpo rfl rfl rfl rfl rfl rfl (fun _=>g2) ?_|refine qpo rfl rfl rfl rfl rfl rfl (fun _=>s1) ?_|refine qpo rfl rfl rfl rfl rfl rfl (fun _=>ka) ?_|refine qpo rfl rfl rfl rfl rfl rfl (fun _=>s2) ?_|refine qpo rfl rfl rfl rfl rfl rfl (fun _=>gk) ?_|(refine wH ?_;clear hK))
  refine r1 ?_
  exact Sub.refl _
theorem senseScript_c (l:List StI) (p:List SpotR) (hl:l.length≤1000000000000000) (hA:∀x∈l,x.args.length≤1000000000000000) (_:∀x∈l,x.new.w.length≤1000000000000000) (hT:∀x∈l,∀t∈x.args,t.w.length≤1000000000000000)
  (hN:∀x∈l,∀t∈x.args,-9223372036854775808≤t.n∧t.n≤9223372036854775807) (hp:(∀t∈p,SpotOk reachBytes t)∧p.length≤1099511627744):
  PCalls Tryz.prog 5 [stmtsI l,spots p] (.bool true):=senseScript_w reachBytes l p hl hA hT hN hp.1 hp.2
end Go.Proofs.YthfglhjdnpoepaaGreatDoor
