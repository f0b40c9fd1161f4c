/-
  What may come in any order, and what only reckons among it.
-/
import Derived.Test.YtcbdfmmiigpddaaDoorAb29
namespace Go.Ab
section
variable {P:Program} {N:Nat} {ty:TypeId→Option TyI} {Q:APost}
def AllX (P:Program) (N:Nat) (ty:TypeId→Option TyI) (l:List Oper) (LD:LDs) (Q:APost) (τ:List Nat):Nat→List Nat→Tmps→AHeap→Prop
 |0,_,T,H=>TR P N ty l LD false (pQ l Q) (sel l τ) T H
 |n+1,A,T,H=>∀a∈A,(∀b∈A.erase a,¬Anc l a b)→(hardAt l LD.sc a=true∧OneO P N l LD a T H (AllX P N ty l LD Q τ n (A.erase a)))∨
   (hardAt l LD.sc a=false∧TR P N ty l LD false (pQ l (fun x T H=>match x with|.normal=>AllX P N ty l LD Q τ n (A.erase a) T H|x=>Q x T H)) (sel l [a]) T H)
def Qx (P:Program) (N:Nat) (ty:TypeId→Option TyI) (l:List Oper) (LD:LDs) (Q:APost) (τ A:List Nat):APost:=fun x T H=>match x with
 |.normal=>AllX P N ty l LD Q τ A.length A T H
 |x=>Q x T H
def CX (P:Program) (N:Nat) (ty:TypeId→Option TyI) (l:List Oper) (LD:LDs) (mv:Nat→Bool) (Q:APost) (τ:List Nat) (rest:List Nat) (T:Tmps) (H:AHeap):Prop:=
 (TR P N ty l LD false (pQ l Q) (sel l rest) T H∧∀t∈rest,mv t=false)∨
 ∃s A' A,rest=s++(A'++τ)∧A'.Perm A∧A'≠[]∧(∀j∈s,mv j=false∧hardAt l LD.sc j=false)∧(∀a∈A',mv a=true)∧A'.Pairwise (fun a b=>¬Anc l a b)∧TR P N ty l LD false (pQ l (Qx P N ty l LD Q τ A)) (sel l s) T H
theorem allx_head {l:List Oper} {LD:LDs} {τ:List Nat} {i:Nat} {A'' A:List Nat} {T:Tmps} {H:AHeap} (hp:(i::A'').Perm A) (hw:(i::A'').Pairwise (fun a b=>¬Anc l a b)) (h:AllX P N ty l LD Q τ A.length A T H):
  A''.Perm (A.erase i)∧((hardAt l LD.sc i=true∧OneO P N l LD i T H (AllX P N ty l LD Q τ (A.erase i).length (A.erase i)))∨
   (hardAt l LD.sc i=false∧TR P N ty l LD false (pQ l (fun x T H=>match x with|.normal=>AllX P N ty l LD Q τ (A.erase i).length (A.erase i) T H|x=>Q x T H)) (sel l [i]) T H)):=by
 have hm:i∈A:=hp.mem_iff.1 (by simp)
 have hp2:A''.Perm (A.erase i):=by
  have:=hp.erase i
  rwa [List.erase_cons_head]at this
 have hl:A.length=(A.erase i).length+1:=by
  rw[List.length_erase_of_mem hm]
  have:=List.length_pos_of_mem hm
  omega
 rw[hl]at h
 exact⟨hp2,h i hm fun b hb=>(List.pairwise_cons.1 hw).1 b (hp2.mem_iff.2 hb)⟩
theorem cx_next {l:List Oper} {LD:LDs} {mv:Nat→Bool} {τ:List Nat} (hτ:∀t∈τ,mv t=false) {i:Nat} {A'' A:List Nat} {T:Tmps} {H:AHeap} (hp:A''.Perm (A.erase i)) (h2:∀a∈i::A'',mv a=true) (hw:(i::A'').Pairwise (fun a b=>¬Anc l a b))
  (h:AllX P N ty l LD Q τ (A.erase i).length (A.erase i) T H):CX P N ty l LD mv Q τ (A''++τ) T H:=by
 cases A'' with
 |nil=>
  have e:A.erase i=[]:=List.nil_perm.1 hp
  rw[e]at h
  exact .inl ⟨h,hτ⟩
 |cons a A2=>exact .inr ⟨[],a::A2,A.erase i,rfl,hp,by simp,fun j hj=>absurd hj List.not_mem_nil,fun x hx=>h2 x (by simp only[List.mem_cons]at hx ⊢;exact .inr hx),(List.pairwise_cons.1 hw).2,.nil h⟩
theorem chain_cx (hty:TyOk P ty) {l:List Oper} {LD:LDs} {mv:Nat→Bool} {τ:List Nat} (hτ:∀t∈τ,mv t=false):Chain P N l LD mv Q (CX P N ty l LD mv Q τ) where
 soft:=fun i rest T H o h ho hs=>by
  have hsi:hardAt l LD.sc i=false:=hs
  rcases h with⟨h,hn⟩|⟨s,A',A,e,hp,hA,h1,h2,hw,h⟩
  ·simp only[sel,ho]at h
   obtain⟨res,need,g1,g2,g3,g4,g5⟩:=TR.soft hty h rfl (by rw[hardAt_eq ho]at hs;exact hs)
   exact⟨res,need,g1,g2,g3,.inl ⟨g4,fun t ht=>hn t (by simp[ht])⟩,g5⟩
  ·cases s with
   |nil=>
    cases A' with
    |nil=>exact absurd rfl hA
    |cons a A''=>
     simp only[List.nil_append,List.cons_append,List.cons.injEq]at e
     obtain⟨rfl,rfl⟩:=e
     simp only[sel]at h
     have h':AllX P N ty l LD Q τ A.length A T H:=by
      cases h with
      |nil h=>exact h
      |know t x b hW=>cases hW
     obtain⟨hp2,hx⟩:=allx_head hp hw h'
     rcases hx with⟨hh,_⟩|⟨_,hx⟩
     ·rw[hsi]at hh
      cases hh
     ·simp only[sel,ho]at hx
      obtain⟨res,need,g1,g2,g3,g4,g5⟩:=TR.soft hty hx rfl (by rw[hardAt_eq ho]at hs;exact hs)
      refine⟨res,need,g1,g2,g3,?_,g5⟩
      have h3:AllX P N ty l LD Q τ (A.erase i).length (A.erase i) (putR o.dst res T) H:=by
       cases g4 with
       |nil h=>exact h
       |know t x b hW=>cases hW
      exact cx_next hτ hp2 h2 hw h3
   |cons q s=>
    simp only[List.cons_append,List.cons.injEq]at e
    obtain⟨rfl,rfl⟩:=e
    simp only[sel,ho]at h
    obtain⟨res,need,g1,g2,g3,g4,g5⟩:=TR.soft hty h rfl (by rw[hardAt_eq ho]at hs;exact hs)
    exact⟨res,need,g1,g2,g3,.inr ⟨s,A',A,rfl,hp,hA,fun j hj=>h1 j (by simp[hj]),h2,hw,g4⟩,g5⟩
 hard:=fun i rest T H o h ho hs=>by
  have hsi:hardAt l LD.sc i=true:=hs
  rcases h with⟨h,hn⟩|⟨s,A',A,e,hp,hA,h1,h2,hw,h⟩
  ·simp only[sel,ho]at h
   obtain⟨K,g1,g2⟩:=TR.step hty h rfl (by rw[hardAt_eq ho]at hs;exact hs)
   exact⟨K,g1,fun r H' hK=>⟨.inl ⟨(g2 r H' hK).1,fun t ht=>hn t (by simp[ht])⟩,(g2 r H' hK).2⟩⟩
  ·cases s with
   |cons q s=>
    simp only[List.cons_append,List.cons.injEq]at e
    have:=(h1 q (by simp)).2
    rw[←e.1,hsi]at this
    cases this
   |nil=>
    cases A' with
    |nil=>exact absurd rfl hA
    |cons a A''=>
     simp only[List.nil_append,List.cons_append,List.cons.injEq]at e
     obtain⟨rfl,rfl⟩:=e
     simp only[sel]at h
     have h':AllX P N ty l LD Q τ A.length A T H:=by
      cases h with
      |nil h=>exact h
      |know t x b hW=>cases hW
     obtain⟨hp2,hx⟩:=allx_head hp hw h'
     rcases hx with⟨_,hx⟩|⟨hh,_⟩
     ·obtain⟨o',K,e1,e2,e3⟩:=hx
      rw[ho]at e1
      cases e1
      refine⟨K,e2 Q,fun r H' hK=>?_⟩
      obtain⟨g1,g2,g3⟩:=e3 r H' hK
      exact⟨cx_next hτ hp2 h2 hw g1,g2,g3⟩
     ·rw[hsi]at hh
      cases hh
 nil:=fun T H h=>by
  rcases h with⟨h,_⟩|⟨s,A',A,e,_,hA,_⟩
  ·simp only[sel]at h
   cases h with
   |nil h=>exact h
   |know t x b hW=>cases hW
  ·cases s<;>cases A'<;>simp at e hA
 move:=fun A0 i r T H hi h0 hr h=>by
  rcases h with⟨_,hn⟩|⟨s,A',A,e,hp,hA,h1,h2,hw,h⟩
  ·have:=hn i (by simp)
   rw[hi]at this
   cases this
  ·have hs:s=[]:=by
    cases s with
    |nil=>rfl
    |cons q s=>
     have hq:=(h1 q (by simp)).1
     cases A0 with
     |nil=>
      simp only[List.nil_append,List.cons_append,List.cons.injEq]at e
      rw[←e.1,hi]at hq
      cases hq
     |cons b B=>
      simp only[List.cons_append,List.cons.injEq]at e
      have:=h0 b (by simp)
      rw[e.1,hq]at this
      cases this
   subst hs
   obtain⟨A1,A2,rfl,rfl,rfl⟩:=cut_in (fun t ht x=>by rw[x]at ht;rw[hτ i ht]at hi;cases hi) A0 A' (by simpa using e)
   have hpm:(A0++i::A2).Perm (i::(A0++A2)):=List.perm_middle
   refine .inr ⟨[],i::(A0++A2),A,by simp,hpm.symm.trans hp,by simp,fun j hj=>absurd hj List.not_mem_nil,fun x hx=>h2 x (hpm.mem_iff.2 hx),?_,h⟩
   rw[List.pairwise_append]at hw
   obtain⟨w1,w2,w3⟩:=hw
   rw[List.pairwise_cons]at w2
   rw[List.pairwise_cons,List.pairwise_append]
   refine⟨fun b hb=>?_,w1,w2.2,fun a ha b hb=>w3 a ha b (by simp[hb])⟩
   rcases List.mem_append.1 hb with hb|hb
   ·exact hr b hb
   ·exact w2.1 b hb
theorem Anc.lt {l:List Oper} (he:∀(i:Nat) (o:Oper) (e:Edge),l[i]?=some o→e∈o.after→Region.binds .any e=true→e.on<i) {i j:Nat} (h:Anc l i j):j<i:=by
 induction h with
 |edge ho hm hb=>exact he _ _ _ ho hm hb
 |trans ho hm hb _ ih=>have:=he _ _ _ ho hm hb;omega
theorem loadOk_nil {sc:List Nat} {l:List Oper} {A:List Nat} (t:Nat):∀(π:List Nat) (i:Nat),loadOk sc l A [] t π i=loadOk sc l A [] 0 π i
 |[],_=>rfl
 |j::r,i=>by
  unfold loadOk
  rw[loadOk_nil t r i]
  rfl
def anyOk (l:List Oper) (σ A τ:List Nat):Bool:=
 A.all (fun a=>A.all fun b=>Nat.beq a b || (ancB (ancsOf l []) a b || pairOkM [] l (ancsOf l []) (fun i=>A.contains i) a b))&&σ.all (fun j=> !A.contains j&& !hardAt l (fun x=>([]:List Nat).contains x) j)&&τ.all (fun t=> !A.contains t)&& !A.isEmpty&&pairsOk (fun a b=>Nat.blt a b) A&&
 A.all fun a=>hardAt l (fun x=>([]:List Nat).contains x) a || !loadOk [] l (ancsOf l []) [] 0 (σ++(A++τ)) a
theorem areg_any (hm:P.follows .mixedOrders=true) (hty:TyOk P ty) (σ A τ:List Nat) {id:Nat} {l:List Oper} {T:Tmps} {H:AHeap} (hchk:drawOkM [] l N (fun i=>A.contains i) (σ++(A++τ))=true) (hA:anyOk l σ A τ=true)
  (h:TR P N ty l (ldOf [] l (ancsOf l []) [] (σ++(A++τ))) false (pQ l (Qx P N ty l (ldOf [] l (ancsOf l []) [] (σ++(A++τ))) Q τ A)) (sel l σ) T H):AWP P N (.region id l.toArray true) T H Q:=by
 simp only[anyOk,Bool.and_eq_true,List.all_eq_true,Bool.not_eq_true',Bool.or_eq_true]at hA
 obtain⟨⟨⟨⟨⟨a2,a3⟩,a4⟩,a5⟩,a6⟩,a7⟩:=hA
 have hmem:∀a,A.contains a=true→a∈A:=fun a ha=>by simpa using ha
 have hmem':∀a∈A,A.contains a=true:=fun a ha=>by simpa using ha
 have C:=checked_of [] [] hchk
 have hpw:A.Pairwise (fun a b=>¬Anc l a b):=(pairsOk_spec a6).imp fun {a b} h ha=>by
  have h1:=Anc.lt C.edge ha
  have h2:a<b:=Nat.le_of_ble_eq_true h
  omega
 refine areg_chain hm (mv:=fun i=>A.contains i) (σ++(A++τ)) (chain_cx hty a4) (fun a b ha hb hne hna=>?_) C ⟨σ,A,τ,rfl,a3,hmem',a4⟩
  (.inr ⟨σ,A,A,rfl,List.Perm.refl _,by rintro rfl;simp at a5,a3,hmem',hpw,h⟩)
 have hp:pairOkM [] l (ancsOf l []) (fun i=>A.contains i) a b=true:=by
  rcases a2 a (hmem a ha) b (hmem b hb)with e|e|e
  ·exact absurd (Nat.eq_of_beq_eq_true e) hne
  ·exact absurd (ancB_spec e) hna
  ·exact e
 obtain⟨p1,p2,p3,p4⟩:=pairOkM_spec hp
 refine⟨p1,p2,p3,p4,fun hs t ht=>?_⟩
 rcases a7 a (hmem a ha)with e|e
 ·exact absurd ((show hardAt l (fun x=>([]:List Nat).contains x) a=false from hs).symm.trans e) (by simp)
 ·have ht2:loadOk [] l (ancsOf l []) [] t (σ++(A++τ)) a=true:=ht
  rw[loadOk_nil,e]at ht2
  cases ht2
theorem allx_zero {l:List Oper} {LD:LDs} {τ A:List Nat} {T:Tmps} {H:AHeap} (h:TR P N ty l LD false (pQ l Q) (sel l τ) T H):AllX P N ty l LD Q τ 0 A T H:=h
end
end Go.Ab
