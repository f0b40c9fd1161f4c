/-
  The words of two scripts, a line end between: LexerJoins.
-/
import Derived.Test.YtlnhgdiklfaeeaaDoorLo1
import Derived.Test.YtlnhgdiklfaeeaaDoorJl
import Derived.Test.YtlnhgdiklfaeeaaDoorKw
import Derived.Test.YtlnhgdiklfaeeaaDoorRx3
import Derived.Test.YtlnhgdiklfaeeaaDoorAb42
namespace Go.Proofs.YtlnhgdiklfaeeaaDoor
open Go.Ab
def tokC (t:TokR) (ln:Int) (j:Nat):Value:=match j with
 |0=>.int .u8 t.k
 |1=>.string ⟨t.w.toArray⟩
 |2=>.int .i64 t.n
 |3=>.int .i64 ln
 |_=>.int .i64 t.co
theorem tokC_rep (st:Stab) (w:World) (t:TokR) {j:Nat} {v:AV} (h:(tokE t)[j]?=some v):Rep st w v (tokC t t.ln j):=by
 unfold tokE encT at h
 match j,h with
 |0,h=>simp at h;subst h;exact .int _ _
 |1,h=>simp at h;subst h;exact .str _
 |2,h=>simp at h;subst h;exact .int _ _
 |3,h=>simp at h;subst h;exact .int _ _
 |4,h=>simp at h;subst h;exact .int _ _
 |j+5,h=>simp at h
def lnAt (d:Nat) (i k:Nat) (i' k':Nat) (ln:Nat):Int:=if i'<i∨i'=i∧k'<k then(ln:Int)+d else ln
structure MemL (M:Mem) (outs:List LnO) (g0 d i k:Nat):Prop where
 hdr:∀(i':Nat) (x:LnO),outs[i']?=some x→M g0 i'=some (.slice (some ⟨x.g,0,none⟩) x.ts.length x.cap)
 cap:∀x∈outs,x.ts.length≤x.cap
 tok:∀(i':Nat) (x:LnO) (k':Nat) (t:TokR) (j:Nat),outs[i']?=some x→x.ts[k']?=some t→j<5→M x.g (k'*5+j)=some (tokC t (lnAt d i k i' k' t.ln) j)
theorem nodup_at {outs:List LnO} (h:(outs.map (·.g)).Nodup) {i j:Nat} {x y:LnO} (hx:outs[i]?=some x) (hy:outs[j]?=some y) (e:x.g=y.g):i=j:=by
 obtain⟨hi,rfl⟩:=List.getElem?_eq_some_iff.1 hx
 obtain⟨hj,rfl⟩:=List.getElem?_eq_some_iff.1 hy
 have key:=List.pairwise_iff_getElem.1 h
 rcases Nat.lt_trichotomy i j with c|c|c
 ·exact absurd (by rw[List.getElem_map,List.getElem_map];exact e) (key i j (by simpa using hi) (by simpa using hj) c)
 ·exact c
 ·exact absurd (by rw[List.getElem_map,List.getElem_map];exact e.symm) (key j i (by simpa using hj) (by simpa using hi) c)
theorem MemL.set {M:Mem} {outs:List LnO} {g0 d i k:Nat} (h:MemL M outs g0 d i k) (hd:(outs.map (·.g)).Nodup) (hg:g0∉outs.map (·.g)) {x:LnO} {t:TokR} (hx:outs[i]?=some x) (ht:x.ts[k]?=some t):
  MemL (memSet M x.g (k*5+3) (.int .i64 ((t.ln:Int)+d))) outs g0 d i (k+1):=by
 refine⟨fun i' y hy=>?_,h.cap,fun i' y k' u j hy hu hj=>?_⟩
 ·unfold memSet
  rw[if_neg]
  ·exact h.hdr i' y hy
  ·rintro⟨e,_⟩
   exact hg (e▸List.mem_map.2 ⟨x,List.mem_of_getElem? hx,rfl⟩)
 ·unfold memSet
  split
  ·rename_i e
   obtain⟨e1,e2⟩:=e
   obtain rfl:=nodup_at hd hy hx e1
   rw[hy]at hx
   cases hx
   obtain rfl:k'=k:=by omega
   obtain rfl:j=3:=by omega
   rw[hu]at ht
   cases ht
   have e4:lnAt d i' (k'+1) i' k' t.ln=(t.ln:Int)+d:=by
    unfold lnAt
    rw[if_pos (by omega)]
   rw[e4]
   rfl
  ·rename_i e
   rw[h.tok i' y k' u j hy hu hj]
   by_cases hj3:j=3
   ·subst hj3
    have hne:¬(i'=i∧k'=k):=by
     rintro⟨rfl,rfl⟩
     rw[hx]at hy
     cases hy
     exact e ⟨rfl,rfl⟩
    simp only[tokC,lnAt]
    by_cases c:i'<i∨i'=i∧k'<k
    ·rw[if_pos c,if_pos (by omega)]
    ·rw[if_neg c,if_neg (by omega)]
   ·match j,hj3,hj with
    |0,_,_=>rfl
    |1,_,_=>rfl
    |2,_,_=>rfl
    |4,_,_=>rfl
theorem MemL.line {M:Mem} {outs:List LnO} {g0 d i:Nat} {x:LnO} (h:MemL M outs g0 d i x.ts.length) (hx:outs[i]?=some x):MemL M outs g0 d (i+1) 0:=by
 refine⟨h.hdr,h.cap,fun i' y k' u j hy hu hj=>?_⟩
 rw[h.tok i' y k' u j hy hu hj]
 have hk:=(List.getElem?_eq_some_iff.1 hu).1
 have e:lnAt d i x.ts.length i' k' u.ln=lnAt d (i+1) 0 i' k' u.ln:=by
  unfold lnAt
  by_cases c:i'<i∨i'=i∧k'<x.ts.length
  ·rw[if_pos c,if_pos (by omega)]
  ·rw[if_neg c,if_neg]
   rintro(h1|h1)
   ·refine c ?_
    by_cases e:i'=i
    ·subst e
     rw[hx]at hy
     cases hy
     exact .inr ⟨rfl,hk⟩
    ·exact .inl (by omega)
   ·omega
 rw[e]
theorem MemL.sub {M:Mem} {outs:List LnO} {g0 d cap:Nat} (h:MemL M outs g0 d outs.length 0) (hc:outs.length≤cap):SubM M (.mslice g0 0 outs.length cap) (linesV ((outs.map (·.ts)).map (List.map (upD d)))):=fun st w hh c hc'=>by
 cases hc'
 have hl:((outs.map (·.ts)).map (List.map (upD d))).length=outs.length:=by simp
 unfold linesV sl
 rw[hl]
 have hex:∀i,i<outs.length→∃x,outs[i]?=some x∧((outs.map (·.ts)).map (List.map (upD d))).getD i default=x.ts.map (upD d):=fun i hi=>
  ⟨outs[i],List.getElem?_eq_getElem hi,by simp[List.getD_eq_getElem?_getD,hi]⟩
 refine .slice 1 outs.length _ .view (some ⟨g0,0,none⟩) cap g0 0 (fun i _=>match outs[i]? with
  |some x=>.slice (some ⟨x.g,0,none⟩) x.ts.length x.cap
  |none=>undef) hc (.inr rfl) (fun i hi=>rfl) (fun i j hi hj=>?_) (fun i j v hi hv=>?_) trivial (fun i j hi hj=>?_)
 ·obtain⟨x,hx,-⟩:=hex i hi
  have hj0:j=0:=by omega
  subst hj0
  rw[hx,Nat.zero_add,Nat.mul_one,Nat.add_zero]
  exact hh _ _ _ (h.hdr i x hx)
 ·obtain⟨x,hx,e⟩:=hex i hi
  rw[e]at hv
  cases j with
  |succ j=>simp[lineE]at hv
  |zero=>
   simp only[lineE,List.getElem?_cons_zero,Option.some.injEq]at hv
   subst hv
   rw[hx]
   unfold toksV sl
   rw[List.length_map]
   have hk:∀k',k'<x.ts.length→∃t,x.ts[k']?=some t∧(x.ts.map (upD d)).getD k' default=upD d t:=fun k' hk'=>
    ⟨x.ts[k'],List.getElem?_eq_getElem hk',by simp[List.getD_eq_getElem?_getD,hk']⟩
   refine .slice 5 x.ts.length _ .view (some ⟨x.g,0,none⟩) x.cap x.g 0 (fun k' j=>match x.ts[k']? with
    |some t=>tokC (upD d t) (upD d t).ln j
    |none=>undef) (h.cap x (List.mem_of_getElem? hx)) (.inr rfl) (fun k' hk'=>rfl) (fun k' j hk' hj=>?_) (fun k' j v hk' hv=>?_) trivial (fun k' j hk' hj=>?_)
   ·obtain⟨t,ht,-⟩:=hk k' hk'
    rw[ht,Nat.zero_add]
    have hm:=h.tok i x k' t j hx ht hj
    have el:lnAt d outs.length 0 i k' t.ln=((upD d t).ln:Int):=by
     unfold lnAt
     rw[if_pos (.inl hi)]
     simp[upD]
    rw[el]at hm
    have ec:tokC t ((upD d t).ln:Int) j=tokC (upD d t) ((upD d t).ln:Int) j:=by
     match j with
     |0=>rfl
     |1=>rfl
     |2=>rfl
     |3=>rfl
     |j+4=>rfl
    rw[ec]at hm
    exact hh _ _ _ hm
   ·obtain⟨t,ht,e⟩:=hk k' hk'
    rw[e]at hv
    rw[ht]
    exact tokC_rep st w (upD d t) hv
   ·obtain⟨t,ht,-⟩:=hk k' hk'
    rw[ht]
    match j with
    |0=>rfl
    |1=>rfl
    |2=>rfl
    |3=>rfl
    |j+4=>rfl
 ·obtain⟨x,hx,-⟩:=hex i hi
  rw[hx]
  rfl
structure ZL where
 outs:List LnO
 g0:Nat
 cap:Nat
structure LinG (r:List (List TokR)) (d:Nat) (M:Mem) (z:ZL):Prop where
 eq:z.outs.map (·.ts)=r
 ne:∀x∈z.outs,x.ts≠[]
 dis:(z.outs.map (·.g)).Nodup
 own:z.g0∉z.outs.map (·.g)
 mem:MemL M z.outs z.g0 d 0 0
 le:z.outs.length≤z.cap
theorem conc_tuple3 {x y z:Value}:Sub (.conc (.tuple ⟨[x,y,z]⟩)) (.tuple [.conc x,.conc y,.conc z]):=fun st w c h=>by
 cases h
 refine .tuple _ _ rfl fun j v u hv hu=>?_
 match j,hv,hu with
 |0,hv,hu=>simp at hv hu;subst hv;subst hu;exact .conc _
 |1,hv,hu=>simp at hv hu;subst hv;subst hu;exact .conc _
 |2,hv,hu=>simp at hv hu;subst hv;subst hu;exact .conc _
theorem flat_place (l c:Int):Flat (placeV l c):=fun st w st' w' x h=>by
 unfold placeV at h ⊢
 cases h with
 |agg _ cs hl hr=>
  refine .agg _ _ hl fun j v y hv hy=>?_
  match j,hv with
  |0,hv=>
   have:=hr 0 _ y rfl hy
   simp at hv
   subst hv
   exact Flat.int _ _ _ _ _ _ _ this
  |1,hv=>
   have:=hr 1 _ y rfl hy
   simp at hv
   subst hv
   exact Flat.int _ _ _ _ _ _ _ this
theorem thaw_lines (s:List UInt8) (hs:s.length≤65536) (r:List (List TokR)) (hr0:r≠[]) (hf:linesF s=.inr r) (d:Nat):ACalls Tryd.prog 5 [.str s] [] fun r' H'=>∃t:Thaw (fun M (_:LinesO r) z=>LinG r d M z),r'=.ret (.tuple [.mslice t.z.g0 0 t.z.outs.length t.z.cap,placeV 0 0,.int .i64 0])∧H'=[memE t.M]:=by
 refine ACalls.thaw (V:=fun z:ZL=>.tuple [.mslice z.g0 0 z.outs.length z.cap,placeV 0 0,.int .i64 0]) (fun v hv=>by rw[List.mem_singleton.1 hv];exact Flat.str _) (lines_o s hs r hf) fun M x c hc=>?_
 obtain⟨outs,a,cap,heq,hap⟩:=x
 obtain⟨cs,rfl,hl,hr⟩:=(show RepM M (.tuple [sl lineO 1 outs (.own a cap),placeV 0 0,.int .i64 0]) c from hc).tuple
 match cs,hl with
 |[c0,c1,c2],_=>
 have r0:=hr 0 _ c0 rfl rfl
 have r1:=hr 1 _ c1 rfl rfl
 have r2:=hr 2 _ c2 rfl rfl
 have hne:outs≠[]:=by
  rintro rfl
  exact hr0 (by rw[←heq];rfl)
 obtain⟨g0,rfl,hg0⟩:=hap.own hne
 have hpos:0<outs.length:=List.length_pos_iff.2 hne
 obtain⟨a',cap',b,off,C,rfl,q1,q2,q3,q4,q5,q6⟩:=r0.slice
 obtain⟨rfl,rfl⟩:a'=some ⟨g0,0,none⟩∧cap'=cap:=q3
 have q2':=q2.resolve_left (by omega)
 simp only[Option.some.injEq,Addr.mk.injEq]at q2'
 obtain⟨rfl,rfl,-⟩:=q2'
 have line:∀(i:Nat) (x:LnO),outs[i]?=some x→M g0 i=some (.slice (some ⟨x.g,0,none⟩) x.ts.length x.cap)∧x.ts.length≤x.cap∧∀(k:Nat) (t:TokR) (j:Nat),x.ts[k]?=some t→j<5→M x.g (k*5+j)=some (tokC t t.ln j):=by
  intro i x hx
  obtain⟨hi,rfl⟩:=List.getElem?_eq_some_iff.1 hx
  have hm:=(q5 i 0 hi (by decide)).1
  have ed:outs.getD i default=outs[i]:=by simp[List.getD_eq_getElem?_getD,hi]
  have ht:=q6 i 0 (sl tokE 5 outs[i].ts (.own (some ⟨outs[i].g,0,none⟩) outs[i].cap)) hi (by simp only[ed];rfl)
  obtain⟨a2,cap2,b2,off2,C2,e2,w1,w2,w3,w4,w5,w6⟩:=ht.slice
  obtain⟨rfl,rfl⟩:a2=some ⟨outs[i].g,0,none⟩∧cap2=outs[i].cap:=w3
  have hts:=hap.ne _ (List.getElem_mem hi)
  have w2':=w2.resolve_left (by have:=List.length_pos_iff.2 hts;omega)
  simp only[Option.some.injEq,Addr.mk.injEq]at w2'
  obtain⟨e3,e4,-⟩:=w2'
  subst e3
  subst e4
  rw[e2,Nat.mul_one,Nat.add_zero,Nat.zero_add]at hm
  refine⟨hm,w1,fun k t j hk hj=>?_⟩
  obtain⟨hk',rfl⟩:=List.getElem?_eq_some_iff.1 hk
  have hm2:=(w5 k j hk' hj).1
  rw[Nat.zero_add]at hm2
  rw[hm2]
  have ek:outs[i].ts.getD k default=outs[i].ts[k]:=by simp[List.getD_eq_getElem?_getD,hk']
  have cell:∀v,(tokE outs[i].ts[k])[j]?=some v→RepM M v (C2 k j):=fun v hv=>w6 k j v hk' (by simp only[ek];exact hv)
  match j,hj,cell with
  |0,_,cell=>rw[(cell _ rfl).int];rfl
  |1,_,cell=>rw[(cell _ rfl).str];rfl
  |2,_,cell=>rw[(cell _ rfl).int];rfl
  |3,_,cell=>rw[(cell _ rfl).int];rfl
  |4,_,cell=>rw[(cell _ rfl).int];rfl
 refine⟨⟨outs,g0,cap'⟩,⟨heq,hap.ne,hap.dis,hg0,⟨fun i x hx=>(line i x hx).1,fun x hx=>?_,fun i x k t j hx ht hj=>?_⟩,q1⟩,?_⟩
 ·obtain⟨i,hi,rfl⟩:=List.getElem_of_mem hx
  exact(line i _ (List.getElem?_eq_getElem hi)).2.1
 ·rw[(line i x hx).2.2 k t j ht hj]
  have e:lnAt d 0 0 i k t.ln=t.ln:=by
   unfold lnAt
   rw[if_neg (by omega)]
  rw[e]
 ·refine conc_tuple3.trans (Sub.tuple3 (fun st w x hx=>?_) (fun st w x hx=>?_) (fun st w x hx=>?_))
  ·cases hx
   exact .mslice _ _ _ _
  ·cases hx
   exact r1.flat (flat_place _ _) st w
  ·cases hx
   exact r2.flat (Flat.int _ _) st w
end Go.Proofs.YtlnhgdiklfaeeaaDoor
