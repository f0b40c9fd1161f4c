/-
  Plain law of sense.Script: what it tells; what well formed statements have.
-/
import Derived.Test.YthfglhjdnpoepaaGreatDoorSe4
import Derived.Test.YthfglhjdnpoepaaGreatDoorShM
namespace Go.Proofs.YthfglhjdnpoepaaGreatDoor
open Go.Ab
theorem idxL_mem {w:List UInt8}:∀{l:List (List UInt8)},w∈l→0≤idxL w l∧idxL w l<(l.length:Int)
 |x::l,h=>by
  simp only[idxL,List.length_cons]
  split
  ·omega
  rename_i hne
  have ih:=idxL_mem (w:=w) (l:=l) (by
   rcases List.mem_cons.1 h with e|e
   ·exact absurd e hne
   ·exact e)
  split<;>omega
theorem signQ_zero (q:Rat):(signQ q=0)↔q=0:=by
 unfold signQ signZ
 constructor
 ·intro h
  have:q.num=0:=by
   split at h
   ·assumption
   ·split at h<;>omega
  exact Rat.num_eq_zero.1 this
 ·rintro rfl
  decide
theorem argsG_len {f:FigR} {A:List TokI} {el ec:Int}:∀{l:List TokI} {i:Nat} {s:LkR},(argsG f A el ec i l s).e=0→l=[]∨((i+l.length:Nat):Int)≤f.pts+f.nums
 |[],_,_,_=>.inl rfl
 |t::l,i,s,h=>by
  unfold argsG at h
  split at h
  ·have:=(meet_zero (by decide) h).2
   cases this
  rename_i h1
  refine .inr ?_
  rw[List.length_cons]
  split at h
  ·rcases argsG_len h with rfl|e
   ·simp only[List.length_nil];omega
   ·omega
  ·rcases argsG_len h with rfl|e
   ·simp only[List.length_nil];omega
   ·omega
theorem getD_eq_getElem' {α:Type} [Inhabited α] {l:List α} {i:Nat} (h:i<l.length):l.getD i default=l[i]:=by
 rw[List.getD_eq_getElem?_getD,List.getElem?_eq_getElem h]
 rfl
theorem wf_stmt {l:List StI} (h:(lookF l).e=0) {i:Nat} (hi:i<l.length) (hk:3≤(l.getD i default).k):
  (l.getD i default).args.length≤100∧(∀t∈(l.getD i default).args,t.k≠3→t.w∈namesF l)∧((l.getD i default).k=4→(l.getD i default).new.w∈namesF l)∧
  ((l.getD i default).k=3→∀t∈(l.getD i default).args,t.w∈namesF l):=by
 obtain⟨_,_,hnd,h40,hw⟩:=lookF_id h
 obtain⟨hp,hs⟩:=hw i hi
 have ex:l.getD i default=l[i]:=getD_eq_getElem' hi
 rw[ex]at hk ⊢
 generalize hx:l[i]=x at hk hp hs ⊢
 have hmem:∀n∈namesOf x,n∈namesF l:=fun n hn=>List.mem_flatMap.2 ⟨x,hx▸List.getElem_mem hi,hn⟩
 have hpre:∀n∈namesF (l.take i),n∈namesF l:=fun n hn=>by
  obtain⟨y,hy,hn⟩:=List.mem_flatMap.1 hn
  exact List.mem_flatMap.2 ⟨y,List.mem_of_mem_take hy,hn⟩
 have hsub:(namesOf x).length≤(namesF l).length:=by
  have e:l=l.take i++x::l.drop (i+1):=by
   rw[←hx,List.getElem_cons_drop,List.take_append_drop]
  have:namesF l=namesF (l.take i)++(namesOf x++namesF (l.drop (i+1))):=by
   rw[←namesF_cons,←namesF_append,←e]
  rw[this,List.length_append,List.length_append]
  omega
 have h345:x.k=3∨x.k=4∨x.k=5:=by
  have:=place_k hp
  omega
 rcases h345 with h3|h3|h3
 ·have en:namesOf x=x.args.map (·.w):=by unfold namesOf;rw[if_pos h3]
  rw[en]at hmem hsub
  rw[List.length_map]at hsub
  exact⟨by omega,fun t ht _=>hmem _ (List.mem_map_of_mem ht),fun e=>by omega,fun _ t ht=>hmem _ (List.mem_map_of_mem ht)⟩
 ·have en:namesOf x=[x.new.w]:=by unfold namesOf;rw[if_neg (by omega),if_pos h3]
  rw[en]at hmem
  refine⟨?_,fun t ht hn=>?_,fun _=>hmem _ (List.mem_cons_self ..),fun e=>by omega⟩
  ·unfold stmtG argsF at hs
   rw[if_neg (by omega),if_pos h3,add_e]at hs
   rcases argsG_len hs with e|e
   ·rw[e];exact Nat.zero_le _
   ·cases hc:conF x.word.w with
    |none=>
     have:=(meet_zero (by decide) (argsG_zero hs)).2
     rw[hc]at this
     cases this
    |some f=>
     rw[hc]at e
     have e:((0+x.args.length:Nat):Int)≤f.pts+f.nums:=e
     have hb:=con_in hc
     simp only[figB,Bool.and_eq_true,decide_eq_true_eq]at hb
     omega
  ·rcases stmtG_args hs (.inl h3) t ht with e|⟨_,e⟩
   ·exact absurd e hn
   ·exact hpre _ (by simpa using e)
 ·refine⟨?_,fun t ht hn=>?_,fun e=>by omega,fun e=>by omega⟩
  ·unfold stmtG argsF at hs
   rw[if_neg (by omega),if_neg (by omega),if_pos h3]at hs
   rcases argsG_len hs with e|e
   ·rw[e];exact Nat.zero_le _
   ·cases hc:preF x.word.w with
    |none=>
     have:=(meet_zero (by decide) (argsG_zero hs)).2
     rw[hc]at this
     cases this
    |some f=>
     rw[hc]at e
     have e:((0+x.args.length:Nat):Int)≤f.pts+f.nums:=e
     have hb:=pre_in hc
     simp only[figB,Bool.and_eq_true,decide_eq_true_eq]at hb
     omega
  ·rcases stmtG_args hs (.inr h3) t ht with e|⟨_,e⟩
   ·exact absurd e hn
   ·exact hpre _ (by simpa using e)
def whP (ns:List (List UInt8)) (l:List SpotR) (w:List UInt8):SpotR:=l.getD (idxL w ns).toNat default
theorem whP_ok {k:Nat} {ns:List (List UInt8)} {l:List SpotR} {w:List UInt8} (h:SpotsOk k l) (hl:l.length=ns.length) (hw:w∈ns):SpotOk k (whP ns l w):=by
 have:=idxL_mem hw
 exact h.at (by omega)
def ptsS (ns:List (List UInt8)) (l:List SpotR) (a:List TokI):List SpotR:=(a.filter fun t=>decide (t.k≠3)).map fun t=>whP ns l t.w
def numS (a:List TokI):List Int:=(a.filter fun t=>decide (t.k=3)).map (·.n)
theorem ptsS_len (ns:List (List UInt8)) (l:List SpotR) (a:List TokI):(ptsS ns l a).length≤a.length:=by
 unfold ptsS
 rw[List.length_map]
 exact List.length_filter_le _ _
theorem numS_len (a:List TokI):(numS a).length≤a.length:=by
 unfold numS
 rw[List.length_map]
 exact List.length_filter_le _ _
theorem ptsS_ok {k:Nat} {ns:List (List UInt8)} {l:List SpotR} {a:List TokI} (h:SpotsOk k l) (hl:l.length=ns.length) (ha:∀t∈a,t.k≠3→t.w∈ns):SpotsOk k (ptsS ns l a):=by
 intro s hs
 obtain⟨t,ht,rfl⟩:=List.mem_map.1 hs
 have:=List.mem_filter.1 ht
 exact whP_ok h hl (ha t this.1 (of_decide_eq_true this.2))
theorem numS_ok {a:List TokI} (h:∀t∈a,-9223372036854775808≤t.n∧t.n≤9223372036854775807):∀z∈numS a,-9223372036854775808≤z∧z≤9223372036854775807:=by
 intro z hz
 obtain⟨t,ht,rfl⟩:=List.mem_map.1 hz
 exact h t (List.mem_filter.1 ht).1
theorem ptsS_succ (ns:List (List UInt8)) (l:List SpotR) {a:List TokI} {j:Nat} (hj:j<a.length):
  ptsS ns l (a.take (j+1))=if(a.getD j default).k=3 then ptsS ns l (a.take j) else ptsS ns l (a.take j)++[whP ns l (a.getD j default).w]:=by
 unfold ptsS
 rw[List.take_succ_eq_append_getElem hj,List.filter_append,List.map_append,getD_eq_getElem' hj]
 by_cases h:a[j].k=3
 ·rw[if_pos h,List.filter_cons_of_neg (by simp[h])];simp
 ·rw[if_neg h,List.filter_cons_of_pos (by simp[h])];simp
theorem numS_succ {a:List TokI} {j:Nat} (hj:j<a.length):
  numS (a.take (j+1))=if(a.getD j default).k=3 then numS (a.take j)++[(a.getD j default).n] else numS (a.take j):=by
 unfold numS
 rw[List.take_succ_eq_append_getElem hj,List.filter_append,List.map_append,getD_eq_getElem' hj]
 by_cases h:a[j].k=3
 ·rw[if_pos h,List.filter_cons_of_pos (by simp[h])];simp
 ·rw[if_neg h,List.filter_cons_of_neg (by simp[h])];simp
theorem eqsK_ok {k n:Nat} {P:Nat→Rat×Rat} {nums:List Int} {f:FigR} (hk:k≤100) (hP:∀i,i<n→POk k (P i)) (hN:∀z∈nums,-9223372036854775808≤z∧z≤9223372036854775807) (h:FigIn n nums.length f):∀q∈f.eqs.map (eqQ P nums),QOk 10000000 q:=fun q hq=>by
 obtain⟨e,he,rfl⟩:=List.mem_map.1 hq
 have:=eqQ_ok hP (fun z hz=>by have:=hN z hz;omega) (h.eqs e he) e.length
 rw[List.take_length]at this
 exact this.mono (by omega)
theorem madeK_ok {k:Nat} {w:List UInt8} {p:SpotR} {l:List SpotR} {nums:List Int} (hk1:1≤k) (hk:k≤100) (hp:SpotOk k p) (h:SpotsOk k l) (hN:∀z∈nums,-9223372036854775808≤z∧z≤9223372036854775807):
  (∀q∈(madeQ w p l nums).1,QOk 10000000 q)∧(madeQ w p l nums).1.length≤20:=by
 unfold madeQ
 cases hc:conF w with
 |none=>exact⟨fun q hq=>absurd hq List.not_mem_nil,Nat.zero_le _⟩
 |some f=>
  simp only
  by_cases e:(l.length:Int)=f.pts∧(nums.length:Int)=f.nums
  ·rw[if_pos e]
   have hfin:=(figB_in (n:=(p::l).length) (m:=nums.length) (con_in hc) (by rw[List.length_cons];omega) e.2).1
   have hall:SpotsOk k (p::l):=fun s hs=>by
    rcases List.mem_cons.1 hs with rfl|hs
    ·exact hp
    ·exact h s hs
   exact⟨eqsK_ok (n:=(p::l).length) hk (spots_P hk1 hall) hN hfin,by rw[List.length_map];have:=hfin.len;omega⟩
  ·rw[if_neg e]
   exact⟨fun q hq=>absurd hq List.not_mem_nil,Nat.zero_le _⟩
theorem askedK_ok {k:Nat} {w:List UInt8} {l:List SpotR} (hk1:1≤k) (hk:k≤100) (h:SpotsOk k l):(∀q∈(askedQ w l).1,QOk 10000000 q)∧(askedQ w l).1.length≤20:=by
 unfold askedQ
 cases hc:preF w with
 |none=>exact⟨fun q hq=>absurd hq List.not_mem_nil,Nat.zero_le _⟩
 |some f=>
  simp only
  by_cases e:(l.length:Int)=f.pts
  ·rw[if_pos e]
   have hnm:f.nums=0:=by
    have:preL.all (fun f=>decide (f.nums=0))=true:=by decide +kernel
    exact of_decide_eq_true (List.all_eq_true.1 this f (pre_mem hc).1)
   have hfin:=(figB_in (n:=l.length) (m:=([]:List Int).length) (pre_in hc) (by omega) (by rw[hnm];rfl)).1
   exact⟨eqsK_ok (n:=l.length) hk (spots_P hk1 h) (fun z hz=>absurd hz List.not_mem_nil) hfin,by rw[List.length_map];have:=hfin.len;omega⟩
  ·rw[if_neg e]
   exact⟨fun q hq=>absurd hq List.not_mem_nil,Nat.zero_le _⟩
def zeroL (l:List Rat):Bool:=l.all fun q=>decide (q=0)
noncomputable def stepS (ns:List (List UInt8)) (l:List SpotR) (s:Bool×Bool) (x:StI):Bool×Bool:=
 if x.k=4 then(s.1&&zeroL (madeQ x.word.w (whP ns l x.new.w) (ptsS ns l x.args) (numS x.args)).1,s.2)
 else if x.k=5 then(s.1,zeroL (askedQ x.word.w (ptsS ns l x.args)).1) else s
noncomputable def senseF (r:List StI) (l:List SpotR):Bool×Bool×Int:=
 if(lookF r).e≠0 then(false,false,(lookF r).e)
 else if l.length≠(namesF r).length then(false,false,13)
 else((r.foldl (stepS (namesF r) l) (true,false)).1,(r.foldl (stepS (namesF r) l) (true,false)).2,0)
theorem senseF_e {r:List StI} {l:List SpotR} (h:(lookF r).e≠0):senseF r l=(false,false,(lookF r).e):=if_pos h
theorem senseF_n {r:List StI} {l:List SpotR} (h:(lookF r).e=0) (hl:l.length≠(namesF r).length):senseF r l=(false,false,13):=(if_neg fun e=>e h).trans (if_pos hl)
theorem senseF_ok {r:List StI} {l:List SpotR} (h:(lookF r).e=0) (hl:l.length=(namesF r).length):senseF r l=((r.foldl (stepS (namesF r) l) (true,false)).1,(r.foldl (stepS (namesF r) l) (true,false)).2,0):=(if_neg fun e=>e h).trans (if_neg fun e=>e hl)
def senseV (x:Bool×Bool×Int):AV:=.tuple [.bool x.1,.bool x.2.1,.int .i64 x.2.2]
end Go.Proofs.YthfglhjdnpoepaaGreatDoor
