/-
  LexerJoins: the words of two scripts, a line end between, are those of both.
-/
import Derived.Test.YtlnhgdiklfaeeaaDoorLo2
set_option maxRecDepth 100000
set_option maxHeartbeats 6400000
namespace Go.Proofs.YtlnhgdiklfaeeaaDoor
open Go.Ab
theorem splitC_cnt (c:UInt8):∀s:List UInt8,(splitC c s).length=Lib.countByte s c+1
 |[]=>rfl
 |b::s=>by
  have ih:=splitC_cnt c s
  unfold Lib.countByte at ih ⊢
  simp only[splitC]
  split
  ·rename_i h
   rw[List.length_cons,ih,List.count_cons]
   simp[h]
  ·rename_i h
   have hb:(b==c)=false:=by simpa using h
   rw[List.count_cons,hb]
   cases hs:splitC c s with
   |nil=>exact absurd hs (splitC_ne c s)
   |cons p ps=>rw[hs]at ih;simpa using ih
theorem len_nil {α:Type}:(([]:List α).length:Int)=0:=rfl
theorem lins_bound {s:List UInt8} (hs:s.length≤2000) {r:List (List TokR)} (hf:linesF s=.inr r):r.length≤2001∧∀l∈r,l.length≤2001:=by
 have:=linesG_len _ _ _ s.length (fun p hp=>splitC_piece 10 s p hp) hf
 have h2:=splitC_count 10 s
 exact⟨by omega,fun l hl=>by have:=this.2 l hl;omega⟩
theorem linesG_ln:∀(ps:List (List UInt8)) (n:Nat) (r:List (List TokR)),linesG n ps=.inr r→∀l∈r,∀t∈l,t.ln≤n+ps.length
 |[],n,r,h=>by
  simp only[linesG,Sum.inr.injEq]at h
  subst h
  exact fun l hl=>absurd hl List.not_mem_nil
 |p::ps,n,r,h=>by
  simp only[linesG]at h
  have tk:∀(ws:List (Nat×List UInt8)) (ts:List TokR),toksF (n+1) ws=.inr ts→∀t∈ts,t.ln=n+1:=by
   intro ws
   induction ws with
   |nil=>
    intro ts e
    simp only[toksF,Sum.inr.injEq]at e
    subst e
    exact fun t ht=>absurd ht List.not_mem_nil
   |cons x ws ih=>
    intro ts e
    obtain⟨c,w⟩:=x
    simp only[toksF]at e
    split at e
    ·cases e
    ·split at e
     ·cases e
     ·rename_i r' hr
      simp only[Sum.inr.injEq]at e
      subst e
      intro t ht
      rcases List.mem_cons.1 ht with rfl|ht
      ·rfl
      ·exact ih _ hr t ht
  split at h
  ·cases h
  ·rename_i ts hts
   split at h
   ·cases h
   ·rename_i r' hr
    have ih:=linesG_ln ps (n+1) r' hr
    simp only[Sum.inr.injEq]at h
    have h1:∀l∈r',∀t∈l,t.ln≤n+(p::ps).length:=fun l hl t ht=>by
     have:=ih l hl t ht
     simp only[List.length_cons]
     omega
    split at h
    ·subst h
     exact h1
    ·subst h
     intro l hl t ht
     rcases List.mem_cons.1 hl with rfl|hl
     ·have:=tk _ _ hts t ht
      simp only[List.length_cons]
      omega
     ·exact h1 l hl t ht
theorem linesG_il:∀(ps:List (List UInt8)) (n l c:Nat),linesG n ps=.inl (l,c)→l≤n+ps.length
 |[],n,l,c,h=>by simp[linesG]at h
 |p::ps,n,l,c,h=>by
  have tk:∀(ws:List (Nat×List UInt8)) (q:Nat×Nat),toksF (n+1) ws=.inl q→q.1=n+1:=by
   intro ws
   induction ws with
   |nil=>intro q e;simp[toksF]at e
   |cons x ws ih=>
    intro q e
    obtain⟨c,w⟩:=x
    simp only[toksF]at e
    split at e
    ·simp only[Sum.inl.injEq]at e
     rw[←e]
    ·split at e
     ·rename_i q' hq
      simp only[Sum.inl.injEq]at e
      subst e
      exact ih _ hq
     ·cases e
  simp only[linesG]at h
  split at h
  ·rename_i q hq
   simp only[Sum.inl.injEq]at h
   have:=tk _ _ hq
   rw[h]at this
   simp only[List.length_cons]
   simp only at this
   omega
  ·split at h
   ·rename_i q hq
    simp only[Sum.inl.injEq]at h
    subst h
    have:=linesG_il ps (n+1) l c hq
    simp only[List.length_cons]
    omega
   ·cases h
structure LjS (outs:List LnO) (g0 d:Nat) where
 i:Nat
 M:Mem
 le:i≤outs.length
 mem:MemL M outs g0 d i 0
structure LjT (outs:List LnO) (g0 d i n:Nat) where
 k:Nat
 M:Mem
 le:k≤n
 mem:MemL M outs g0 d i k
theorem cbLj:Callable Tryd.prog 3:=fun _ _=>by kernel_rfl
theorem lexerJoins_c (s t:List UInt8):PCalls Tryd.prog 3 [.str s,.str t] (.bool true):=by
 refine pcalls_of_awp tyok cbLj Tryd.func3 rfl rfl ?_
 have kn:=known19_c
 by_cases h1:(s.length:Int)>2000
 ·repeat(first|refine wDB ?_|refine awp_seq_k fun K hK=>?_|refine wN fun bx=>?_|refine qpc rfl rfl rfl (kn) ?_|refine qpo rfl rfl rfl rfl rfl rfl (fun _=>kn) ?_|(refine wH ?_;clear hK))
  refine r1 ?_
  exact Sub.refl _
 by_cases h2:(t.length:Int)>2000
 ·repeat(first|refine wDB ?_|refine awp_seq_k fun K hK=>?_|refine wN fun bx=>?_|refine qpc rfl rfl rfl (kn) ?_|refine qpo rfl rfl rfl rfl rfl rfl (fun _=>kn) ?_|(refine wH ?_;clear hK))
  refine r1 ?_
  exact Sub.refl _
 have hs:s.length≤2000:=by omega
 have ht:t.length≤2000:=by omega
 have hl:((s++[10])++t).length≤4001:=by simp;omega
 have gA:=lines_c s (by omega)
 have gB:=lines_c t (by omega)
 have gC:=lines_c ((s++[10])++t) (by omega)
 have gN:=count1_c s 10
 have hz:(([]:List (List TokR)).length:Int)=0:=rfl
 have hcnt:=splitC_cnt 10 s
 have hcb:Lib.countByte s 10≤2000:=Nat.le_trans (List.count_le_length) hs
 have hj:=linesF_join s t
 have ej:(s++[10])++t=s++10::t:=by simp
 rw[←ej]at hj
 have na:¬s.length>65536:=by omega
 have nb:¬t.length>65536:=by omega
 have nc:¬((s++[10])++t).length>65536:=by omega
 cases hA:linesF s with
 |inl p=>
  obtain⟨l,c⟩:=p
  rw[hA]at hj
  rw[linesR_inl na hA]at gA
  rw[linesR_inl nc hj]at gC
  obtain⟨r,lb,cb,eb,hB,-⟩:=linesR_form t (by omega)
  rw[hB]at gB
  ((repeat(first|refine wDB ?_|refine awp_seq_k fun K hK=>?_|refine qpc rfl rfl rfl (gA) ?_|refine qpc rfl rfl rfl (gB) ?_|refine qpo rfl rfl rfl rfl rfl rfl (fun _=>gA) ?_|refine qpo rfl rfl rfl rfl rfl rfl (fun _=>gB) ?_|(refine wH ?_;clear hK)));refine wN fun b6=>?_;(repeat(first|refine wDB ?_|refine awp_seq_k fun K hK=>?_|refine qpc rfl rfl rfl (gA) ?_|refine qpc rfl rfl rfl (gB) ?_|refine qpo rfl rfl rfl rfl rfl rfl (fun _=>gA) ?_|refine qpo rfl rfl rfl rfl rfl rfl (fun _=>gB) ?_|(refine wH ?_;clear hK)));refine wN fun b9=>?_;(repeat(first|refine wDB ?_|refine awp_seq_k fun K hK=>?_|refine wN fun bx=>?_|refine qpc rfl rfl rfl (gA) ?_|refine qpc rfl rfl rfl (gB) ?_|refine qpo rfl rfl rfl rfl rfl rfl (fun _=>gA) ?_|refine qpo rfl rfl rfl rfl rfl rfl (fun _=>gB) ?_|(refine wH ?_;clear hK))))
  refine TR.pure _ _ _ rfl rfl rfl rfl True.intro ?_ ?_
  ·simp
   omega
  repeat(first|refine wDB ?_|refine awp_seq_k fun K hK=>?_|refine wN fun bx=>?_|refine qpc rfl rfl rfl (gC) ?_|refine qpc rfl rfl rfl (gN) ?_|refine qpc rfl rfl rfl (kn) ?_|refine qpo rfl rfl rfl rfl rfl rfl (fun _=>gC) ?_|refine qpo rfl rfl rfl rfl rfl rfl (fun _=>gN) ?_|refine qpo rfl rfl rfl rfl rfl rfl (fun _=>kn) ?_|(refine wH ?_;clear hK))
  refine r1 ?_
  exact Sub.of_eq (by simp)
 |inr ra=>
 rw[linesR_inr na hA]at gA
 cases hB:linesF t with
 |inl p=>
  obtain⟨l,c⟩:=p
  rw[hA,hB]at hj
  simp only[mapS,appS,preS]at hj
  rw[linesR_inl nb hB]at gB
  rw[linesR_inl nc hj]at gC
  ((repeat(first|refine wDB ?_|refine awp_seq_k fun K hK=>?_|refine qpc rfl rfl rfl (gA) ?_|refine qpc rfl rfl rfl (gB) ?_|refine qpo rfl rfl rfl rfl rfl rfl (fun _=>gA) ?_|refine qpo rfl rfl rfl rfl rfl rfl (fun _=>gB) ?_|(refine wH ?_;clear hK)));refine wN fun b6=>?_;(repeat(first|refine wDB ?_|refine awp_seq_k fun K hK=>?_|refine qpc rfl rfl rfl (gA) ?_|refine qpc rfl rfl rfl (gB) ?_|refine qpo rfl rfl rfl rfl rfl rfl (fun _=>gA) ?_|refine qpo rfl rfl rfl rfl rfl rfl (fun _=>gB) ?_|(refine wH ?_;clear hK)));refine wN fun b9=>?_;(repeat(first|refine wDB ?_|refine awp_seq_k fun K hK=>?_|refine wN fun bx=>?_|refine qpc rfl rfl rfl (gA) ?_|refine qpc rfl rfl rfl (gB) ?_|refine qpo rfl rfl rfl rfl rfl rfl (fun _=>gA) ?_|refine qpo rfl rfl rfl rfl rfl rfl (fun _=>gB) ?_|(refine wH ?_;clear hK))))
  refine TR.pure _ _ _ rfl rfl rfl rfl True.intro ?_ ?_
  ·simp
   omega
  have hln:l≤2001:=by
   have h3:=linesG_il _ _ _ _ hB
   have h4:=splitC_count 10 t
   omega
  repeat(first|refine wDB ?_|refine awp_seq_k fun K hK=>?_|refine wN fun bx=>?_|refine qpc rfl rfl rfl (gC) ?_|refine qpc rfl rfl rfl (gN) ?_|refine qpc rfl rfl rfl (kn) ?_|refine qpo rfl rfl rfl rfl rfl rfl (fun _=>gC) ?_|refine qpo rfl rfl rfl rfl rfl rfl (fun _=>gN) ?_|refine qpo rfl rfl rfl rfl rfl rfl (fun _=>kn) ?_|(refine wH ?_;clear hK))
  refine r1 ?_
  refine Sub.of_eq ?_
  have e:((l+(splitC 10 s).length:Nat):Int)=(l:Int)+(1+(Lib.countByte s 10:Int)):=by omega
  simp[e]
 |inr rb=>
 rw[hA,hB]at hj
 simp only[mapS,appS,preS]at hj
 rw[linesR_inr nc hj]at gC
 obtain⟨la1,la2⟩:=lins_bound hs hA
 obtain⟨lb1,lb2⟩:=lins_bound ht hB
 generalize hd:(splitC 10 s).length=d at hj gC hcnt
 have hbl:∀l∈rb.map (List.map (upD d)),l.length≤2001:=fun l hl=>by
  obtain⟨l',h3,rfl⟩:=List.mem_map.1 hl
  rw[List.length_map]
  exact lb2 l' h3
 have gS:PCalls Tryd.prog 7 [linesV (ra++rb.map (List.map (upD d))),linesV (ra++rb.map (List.map (upD d)))] (.bool true):=by
  have h3:=rsame_c (ra++rb.map (List.map (upD d))) (ra++rb.map (List.map (upD d))) (by rw[List.length_append,List.length_map];omega) (fun l hl=>by
   rcases List.mem_append.1 hl with hl|hl
   ·have:=la2 l hl
    omega
   ·have:=hbl l hl
    omega)
  rw[decide_eq_true rfl]at h3
  exact h3
 by_cases hb0:rb=[]
 ·subst hb0
  rw[linesR_inr nb hB]at gB
  ((repeat(first|refine wDB ?_|refine awp_seq_k fun K hK=>?_|refine qpc rfl rfl rfl (gA) ?_|refine qpc rfl rfl rfl (gB) ?_|refine qpo rfl rfl rfl rfl rfl rfl (fun _=>gA) ?_|refine qpo rfl rfl rfl rfl rfl rfl (fun _=>gB) ?_|(refine wH ?_;clear hK)));refine wN fun b6=>?_;(repeat(first|refine wDB ?_|refine awp_seq_k fun K hK=>?_|refine qpc rfl rfl rfl (gA) ?_|refine qpc rfl rfl rfl (gB) ?_|refine qpo rfl rfl rfl rfl rfl rfl (fun _=>gA) ?_|refine qpo rfl rfl rfl rfl rfl rfl (fun _=>gB) ?_|(refine wH ?_;clear hK)));refine wN fun b9=>?_;(repeat(first|refine wDB ?_|refine awp_seq_k fun K hK=>?_|refine wN fun bx=>?_|refine qpc rfl rfl rfl (gA) ?_|refine qpc rfl rfl rfl (gB) ?_|refine qpo rfl rfl rfl rfl rfl rfl (fun _=>gA) ?_|refine qpo rfl rfl rfl rfl rfl rfl (fun _=>gB) ?_|(refine wH ?_;clear hK))))
  refine TR.pure _ _ _ rfl rfl rfl rfl True.intro ?_ ?_
  ·simp
   omega
  repeat(first|refine wDB ?_|refine awp_seq_k fun K hK=>?_|refine wN fun bx=>?_|refine qpc rfl rfl rfl (gC) ?_|refine qpc rfl rfl rfl (gN) ?_|refine qpo rfl rfl rfl rfl rfl rfl (fun _=>gC) ?_|refine qpo rfl rfl rfl rfl rfl rfl (fun _=>gN) ?_|(refine wH ?_;clear hK))
  refine awp_loop0 (ι:=Unit) (fun _=>[(5,linesV ra),(8,linesV []),(11,linesV (ra++[].map (List.map (upD d)))),(13,.int .i64 0),(92,.int .i64 0),(93,.int .i64 0)]) (fun _=>[]) (fun _=>0) () wk (by exact⟨3,rfl⟩) ?_
  intro _
  repeat(first|refine wDB ?_|refine awp_seq_k fun K hK=>?_|refine wN fun bx=>?_|(refine wH ?_;clear hK))
  refine qappF tyok lineE ra (fun i hi=>SubL.refl _) ?_ fun ad cp=>?_
  ·simp only[Nat.zero_add]
   omega
  repeat(first|refine wDB ?_|refine awp_seq_k fun K hK=>?_|refine wN fun bx=>?_|(refine wH ?_;clear hK))
  refine TR.appendO tyok 0 (fun ad cp=>sl lineE 1 (ra++[].map (List.map (upD d))) (.own ad cp)) rfl rfl rfl rfl True.intro rfl rfl rfl rfl rfl rfl rfl rfl rfl rfl ?_ (fun ad cp=>glue_sl lineE 1 ra (List.map (List.map (upD d)) []) _) fun ad2 cp2=>?_
  ·simp
   omega
  repeat(first|refine wDB ?_|refine awp_seq_k fun K hK=>?_|refine wN fun bx=>?_|refine qpc rfl rfl rfl (gS.sub (.cons (Sub.refl _) (.cons (Sub.view _ _ _ _) .nil))) ?_|refine qpc rfl rfl rfl (kn) ?_|refine qpo rfl rfl rfl rfl rfl rfl (fun _=>gS.sub (.cons (Sub.refl _) (.cons (Sub.view _ _ _ _) .nil))) ?_|refine qpo rfl rfl rfl rfl rfl rfl (fun _=>kn) ?_|(refine wH ?_;clear hK))
  refine r1 ?_
  exact Sub.refl _
 ·((repeat(first|refine wDB ?_|refine awp_seq_k fun K hK=>?_|refine qpc rfl rfl rfl (gA) ?_|refine qpo rfl rfl rfl rfl rfl rfl (fun _=>gA) ?_|(refine wH ?_;clear hK)));refine wN fun b6=>?_)
  (((repeat(first|refine wT ?_|refine wN fun bx=>?_)));(try refine wP ?_);repeat(refine wH ?_;clear hK))
  refine awp_freeze [] (s:=6) rfl rfl ?_
  repeat(first|refine wDB ?_|refine awp_seq_k fun K hK=>?_|refine wN fun bx=>?_|(refine wH ?_;clear hK))
  refine qcallXV (G:=[]) (H2:=fun z=>[memE z.M]) (thaw_lines t (by omega) rb hb0 hB d) ?_
  rintro⟨_,⟨outs,g0,cap⟩,M0,heq,hne,hdis,hown,hmem,hle⟩
  simp only at heq hne hdis hown hmem hle ⊢
  ((repeat(first|refine wDB ?_|refine awp_seq_k fun K hK=>?_|(refine wH ?_;clear hK)));refine wN fun b9=>?_)
  (((repeat(first|refine wT ?_|refine wN fun bx=>?_)));(try refine wP ?_);repeat(refine wH ?_;clear hK))
  refine awp_freeze [] (s:=9) rfl rfl ?_
  repeat(first|refine wDB ?_|refine awp_seq_k fun K hK=>?_|refine wN fun bx=>?_|(refine wH ?_;clear hK))
  refine TR.pure _ _ _ rfl rfl rfl rfl True.intro ?_ ?_
  ·simp
   omega
  repeat(first|refine wDB ?_|refine awp_seq_k fun K hK=>?_|refine wN fun bx=>?_|refine qpc rfl rfl rfl (gC) ?_|refine qpc rfl rfl rfl (gN) ?_|refine qpo rfl rfl rfl rfl rfl rfl (fun _=>gC) ?_|refine qpo rfl rfl rfl rfl rfl rfl (fun _=>gN) ?_|(refine wH ?_;clear hK))
  have hlo:outs.length≤2001:=by
   rw[←List.length_map (f:=fun x:LnO=>x.ts),heq]
   exact lb1
  have hlx:∀x∈outs,x.ts.length≤2001:=fun x hx=>lb2 _ (by rw[←heq];exact List.mem_map.2 ⟨x,hx,rfl⟩)
  have hln:∀x∈outs,∀t'∈x.ts,t'.ln≤2001:=fun x hx t' ht'=>by
   have h3:=linesG_ln _ _ _ hB _ (by rw[←heq];exact List.mem_map.2 ⟨x,hx,rfl⟩) t' ht'
   have h4:=splitC_count 10 t
   omega
  have hdi:(d:Int)=1+(Lib.countByte s 10:Int):=by omega
  refine awp_loopP (ι:=LjS outs g0 d) (fun y=>[(5,linesV ra),(8,.mslice g0 0 outs.length cap),(11,linesV (ra++rb.map (List.map (upD d)))),(13,.int .i64 0),(14,.int .i64 (1+(Lib.countByte s 10:Int))),(92,.int .i64 outs.length),(93,.int .i64 y.i)]) (fun y=>[memE y.M]) (fun y=>outs.length-y.i) ⟨0,M0,Nat.zero_le _,hmem⟩ wk (by(repeat(first|exact pickNil|refine pickD (by(first|exact .here|exact .there (.here)|exact .there (.there (.here))|exact .there (.there (.there (.here)))|exact .there (.there (.there (.there (.here))))|exact .there (.there (.there (.there (.there (.here)))))|exact .there (.there (.there (.there (.there (.there (.here))))))|exact .there (.there (.there (.there (.there (.there (.there (.here)))))))|exact .there (.there (.there (.there (.there (.there (.there (.there (.here))))))))|exact .there (.there (.there (.there (.there (.there (.there (.there (.there (.here))))))))))) ?_))) ?_
  rintro⟨i,M,hi,hm⟩
  simp only at hi ⊢
  by_cases hil:i<outs.length
  rotate_left
  ·have hge:¬(i:Int)<outs.length:=by omega
   obtain rfl:i=outs.length:=by omega
   have hsub:=hm.sub hle
   rw[heq]at hsub
   refine awp_freezeW [] (s:=8) rfl hsub ?_
   repeat(first|refine wDB ?_|refine awp_seq_k fun K hK=>?_|refine wN fun bx=>?_|(refine wH ?_;clear hK))
   refine qappF tyok lineE ra (fun i hi=>SubL.refl _) ?_ fun ad cp=>?_
   ·simp only[Nat.zero_add]
    omega
   repeat(first|refine wDB ?_|refine awp_seq_k fun K hK=>?_|refine wN fun bx=>?_|(refine wH ?_;clear hK))
   refine TR.appendO tyok 0 (fun ad cp=>sl lineE 1 (ra++rb.map (List.map (upD d))) (.own ad cp)) rfl rfl rfl rfl True.intro rfl rfl rfl rfl rfl rfl rfl rfl rfl rfl ?_ (fun ad cp=>glue_sl lineE 1 ra (rb.map (List.map (upD d))) _) fun ad2 cp2=>?_
   ·rw[List.length_map]
    simp only
    omega
   repeat(first|refine wDB ?_|refine awp_seq_k fun K hK=>?_|refine wN fun bx=>?_|refine qpc rfl rfl rfl (gS.sub (.cons (Sub.refl _) (.cons (Sub.view _ _ _ _) .nil))) ?_|refine qpc rfl rfl rfl (kn) ?_|refine qpo rfl rfl rfl rfl rfl rfl (fun _=>gS.sub (.cons (Sub.refl _) (.cons (Sub.view _ _ _ _) .nil))) ?_|refine qpo rfl rfl rfl rfl rfl rfl (fun _=>kn) ?_|(refine wH ?_;clear hK))
   refine r1 ?_
   exact Sub.refl _
  have hil':(i:Int)<outs.length:=by omega
  obtain⟨x,hx⟩:∃x,outs[i]?=some x:=⟨_,List.getElem?_eq_getElem hil⟩
  have hxm:=List.mem_of_getElem? hx
  have hxl:=hlx x hxm
  have hh:=hm.hdr i x hx
  repeat(first|refine wDB ?_|refine awp_seq_k fun K hK=>?_|refine wN fun bx=>?_|(refine wH ?_;clear hK))
  refine qldW tyok (.mslice x.g 0 x.ts.length x.cap) (c:=.slice (some ⟨x.g,0,none⟩) x.ts.length x.cap) ?_ (fun _ _=>.mslice _ _ _ _) ?_
  ·simpa using hh
  repeat(first|refine wDB ?_|refine awp_seq_k fun K hK=>?_|refine wN fun bx=>?_|(refine wH ?_;clear hK))
  refine awp_loopP (ι:=LjT outs g0 d i x.ts.length) (fun y=>[(5,linesV ra),(8,.mslice g0 0 outs.length cap),(11,linesV (ra++rb.map (List.map (upD d)))),(13,.int .i64 0),(14,.int .i64 (1+(Lib.countByte s 10:Int))),(92,.int .i64 outs.length),(93,.int .i64 i),(15,.int .i64 i),(100,.int .i64 x.ts.length),(101,.int .i64 y.k)]) (fun y=>[memE y.M]) (fun y=>x.ts.length-y.k) ⟨0,M,Nat.zero_le _,hm⟩ wk (by(repeat(first|exact pickNil|refine pickD (by(first|exact .here|exact .there (.here)|exact .there (.there (.here))|exact .there (.there (.there (.here)))|exact .there (.there (.there (.there (.here))))|exact .there (.there (.there (.there (.there (.here)))))|exact .there (.there (.there (.there (.there (.there (.here))))))|exact .there (.there (.there (.there (.there (.there (.there (.here)))))))|exact .there (.there (.there (.there (.there (.there (.there (.there (.here))))))))|exact .there (.there (.there (.there (.there (.there (.there (.there (.there (.here))))))))))) ?_))) ?_
  rintro⟨k,M1,hk,hm1⟩
  simp only at hk ⊢
  by_cases hkl:k<x.ts.length
  rotate_left
  ·have hge:¬(k:Int)<x.ts.length:=by omega
   obtain rfl:k=x.ts.length:=by omega
   repeat(first|refine wDB ?_|refine awp_seq_k fun K hK=>?_|refine wN fun bx=>?_|(refine wH ?_;clear hK))
   exact⟨⟨i+1,M1,hil,hm1.line hx⟩,wk,(by(repeat(first|exact pickNil|refine pickD (by(first|exact .here|exact .there (.here)|exact .there (.there (.here))|exact .there (.there (.there (.here)))|exact .there (.there (.there (.there (.here))))|exact .there (.there (.there (.there (.there (.here)))))|exact .there (.there (.there (.there (.there (.there (.here))))))|exact .there (.there (.there (.there (.there (.there (.there (.here)))))))|exact .there (.there (.there (.there (.there (.there (.there (.there (.here))))))))|exact .there (.there (.there (.there (.there (.there (.there (.there (.there (.here))))))))))) ?_))),by simp only;omega⟩
  have hkl':(k:Int)<x.ts.length:=by omega
  obtain⟨t',ht'⟩:∃t',x.ts[k]?=some t':=⟨_,List.getElem?_eq_getElem hkl⟩
  have htl:=hln x hxm t' (List.mem_of_getElem? ht')
  have hh1:=hm1.hdr i x hx
  have hc1:=hm1.tok i x k t' 3 hx ht' (by decide)
  have el:lnAt d i k i k t'.ln=(t'.ln:Int):=by
   unfold lnAt
   rw[if_neg (by omega)]
  rw[el]at hc1
  have hs1:=hm1.set hdis hown hx ht'
  repeat(first|refine wDB ?_|refine awp_seq_k fun K hK=>?_|refine wN fun bx=>?_|(refine wH ?_;clear hK))
  refine qldW tyok (.mslice x.g 0 x.ts.length x.cap) (c:=.slice (some ⟨x.g,0,none⟩) x.ts.length x.cap) ?_ (fun _ _=>.mslice _ _ _ _) ?_
  ·simpa using hh1
  repeat(first|refine wDB ?_|refine awp_seq_k fun K hK=>?_|refine wN fun bx=>?_|(refine wH ?_;clear hK))
  refine qiaM tyok ?_
  repeat(first|refine wDB ?_|refine awp_seq_k fun K hK=>?_|refine wN fun bx=>?_|(refine wH ?_;clear hK))
  refine qldW tyok (.int .i64 t'.ln) (c:=.int .i64 t'.ln) ?_ (fun _ _=>.int _ _) ?_
  ·simpa [tokC]using hc1
  repeat(first|refine wDB ?_|refine awp_seq_k fun K hK=>?_|refine wN fun bx=>?_|(refine wH ?_;clear hK))
  refine qiaM tyok ?_
  repeat(first|refine wDB ?_|refine awp_seq_k fun K hK=>?_|refine wN fun bx=>?_|(refine wH ?_;clear hK))
  refine qstW tyok (c0:=.int .i64 t'.ln) (c:=.int .i64 ((t'.ln:Int)+(1+(Lib.countByte s 10:Int)))) ?_ (int_det _ _) (int_one _ _) ?_
  ·simpa [tokC]using hc1
  repeat(first|refine wDB ?_|refine awp_seq_k fun K hK=>?_|refine wN fun bx=>?_|(refine wH ?_;clear hK))
  rw[hdi]at hs1
  exact⟨⟨k+1,memSet M1 x.g (0+((k:Int)).toNat*5+3+0) (.int .i64 ((t'.ln:Int)+(1+(Lib.countByte s 10:Int)))),hkl,by simpa using hs1⟩,wk,(by(repeat(first|exact pickNil|refine pickD (by(first|exact .here|exact .there (.here)|exact .there (.there (.here))|exact .there (.there (.there (.here)))|exact .there (.there (.there (.there (.here))))|exact .there (.there (.there (.there (.there (.here)))))|exact .there (.there (.there (.there (.there (.there (.here))))))|exact .there (.there (.there (.there (.there (.there (.there (.here)))))))|exact .there (.there (.there (.there (.there (.there (.there (.there (.here))))))))|exact .there (.there (.there (.there (.there (.there (.there (.there (.there (.here))))))))))) ?_))),by simp only;omega⟩
end Go.Proofs.YtlnhgdiklfaeeaaDoor
