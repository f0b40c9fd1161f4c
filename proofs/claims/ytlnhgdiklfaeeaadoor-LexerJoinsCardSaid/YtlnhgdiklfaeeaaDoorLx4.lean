/-
  The lexer's lines: what it tells of any script.
-/
import Derived.Test.YtlnhgdiklfaeeaaDoorLx3
import Derived.Test.YtlnhgdiklfaeeaaDoorAbB
set_option maxRecDepth 100000
set_option maxHeartbeats 3200000
namespace Go.Proofs.YtlnhgdiklfaeeaaDoor
open Go.Ab
structure TokR where
 k:Int
 w:List UInt8
 n:Int
 ln:Nat
 co:Nat
 deriving DecidableEq,Inhabited
def tokE (t:TokR):List AV:=encT t.k t.w t.n t.ln t.co
def toksF (n:Nat):List (Nat×List UInt8)→(Nat×Nat) ⊕ List TokR
 |[]=>.inr []
 |(c,w)::l=>match tokF w with
  |none=>.inl (n,c)
  |some (k,v)=>match toksF n l with
   |.inl p=>.inl p
   |.inr ts=>.inr (⟨k,w,v,n,c⟩::ts)
def linesG (n:Nat):List (List UInt8)→(Nat×Nat) ⊕ List (List TokR)
 |[]=>.inr []
 |p::ps=>match toksF (n+1) (wordsF p)with
  |.inl e=>.inl e
  |.inr ts=>match linesG (n+1) ps with
   |.inl e=>.inl e
   |.inr r=>.inr (if ts=[] then r else ts::r)
def linesF (s:List UInt8):(Nat×Nat) ⊕ List (List TokR):=linesG 0 (splitC 10 s)
def preS {α ε:Type} (ts:List α):ε ⊕ List α→ε ⊕ List α
 |.inl p=>.inl p
 |.inr r=>.inr (ts++r)
theorem preS_nil {α ε:Type} (x:ε ⊕ List α):preS [] x=x:=by cases x<;>rfl
def toksV (l:List TokR):AV:=sl tokE 5 l .view
def lineE (l:List TokR):List AV:=[toksV l]
def linesV (r:List (List TokR)):AV:=sl lineE 1 r .view
def linesR (s:List UInt8):AV:=if s.length>65536 then .tuple [linesV [],placeV 0 0,.int .i64 3] else match linesF s with
 |.inl (l,c)=>.tuple [linesV [],placeV l c,.int .i64 4]
 |.inr r=>.tuple [linesV r,placeV 0 0,.int .i64 0]
theorem wordsG_len:∀(ps:List (List UInt8)) (k:Nat),(wordsG k ps).length≤ps.length
 |[],_=>Nat.le_refl _
 |p::ps,k=>by
  simp only[wordsG]
  split
  ·simp
  ·split
   ·have:=wordsG_len ps (k+1);simp only[List.length_cons];omega
   ·have:=wordsG_len ps (k+p.length+1);simp only[List.length_cons];omega
theorem splitC_count (c:UInt8) (l:List UInt8):(splitC c l).length≤l.length+1:=by
 have:=splitC_len c l
 omega
theorem splitC_piece (c:UInt8):∀(l p:List UInt8),p∈splitC c l→p.length≤l.length
 |[],p,h=>by simp[splitC]at h;simp[h]
 |b::l,p,h=>by
  simp only[splitC]at h
  split at h
  ·rcases List.mem_cons.1 h with rfl|h
   ·simp
   ·have:=splitC_piece c l p h;simp;omega
  ·split at h
   ·simp at h;simp[h]
   ·rename_i q qs hq
    rcases List.mem_cons.1 h with rfl|h
    ·have:=splitC_piece c l q (by rw[hq];simp);simp;omega
    ·have:=splitC_piece c l p (by rw[hq];simp[h]);simp;omega
theorem toksF_len (n:Nat):∀(ws:List (Nat×List UInt8)) (ts:List TokR),toksF n ws=.inr ts→ts.length=ws.length
 |[],ts,h=>by simp[toksF]at h;simp[←h]
 |(c,w)::l,ts,h=>by
  simp only[toksF]at h
  split at h
  ·cases h
  ·split at h
   ·cases h
   ·rename_i r hr
    simp only[Sum.inr.injEq]at h
    subst h
    simp[toksF_len n l r hr]
def linesCore (b2 b3 b4 b5 b6:Nat) (k:Int) (outs:List (List TokR)) (a:Option Addr) (cap:Nat):AHeap:=
 [.tok a cap outs.length 1 30,.box b6 3 (.int .i64 k),.box b5 23 (sl lineE 1 outs (.own a cap)),.box b4 26 (.int .i64 0),.box b3 25 (placeV 0 0),.box b2 23 .nils]
theorem linesR_inl {s:List UInt8} (h:¬s.length>65536) {l c:Nat} (hf:linesF s=.inl (l,c)):linesR s=.tuple [linesV [],placeV l c,.int .i64 4]:=by
 unfold linesR
 rw[if_neg h,hf]
theorem linesR_inr {s:List UInt8} (h:¬s.length>65536) {r:List (List TokR)} (hf:linesF s=.inr r):linesR s=.tuple [linesV r,placeV 0 0,.int .i64 0]:=by
 unfold linesR
 rw[if_neg h,hf]
theorem wordsG_word:∀(ps:List (List UInt8)) (k:Nat) (x:Nat×List UInt8),x∈wordsG k ps→x.2∈ps
 |[],_,x,h=>by simp[wordsG]at h
 |p::ps,k,x,h=>by
  simp only[wordsG]at h
  split at h
  ·simp at h
  ·split at h
   ·exact List.mem_cons.2 (.inr (wordsG_word ps _ x h))
   ·rcases List.mem_cons.1 h with rfl|h
    ·simp
    ·exact List.mem_cons.2 (.inr (wordsG_word ps _ x h))
theorem wordsF_word (p:List UInt8) (x:Nat×List UInt8) (h:x∈wordsF p):x.2.length≤p.length:=splitC_piece 32 p x.2 (wordsG_word _ _ x h)
theorem cbLines:Callable Tryd.prog 5:=fun _ _=>by kernel_rfl
theorem lines_c (s:List UInt8) (hs:s.length≤1000000000):PCalls Tryd.prog 5 [.str s] (linesR s):=by
 refine pcalls_of_awp tyok cbLines Tryd.func5 rfl rfl ?_
 by_cases hlong:s.length>65536
 ·have hl2:(s.length:Int)>65536:=by omega
  ((repeat(first|refine wD ?_|refine awp_seq_k fun K hK=>?_|(refine wH ?_;clear hK)));refine wN fun b2=>?_;(repeat(first|refine wD ?_|refine awp_seq_k fun K hK=>?_|(refine wH ?_;clear hK)));refine wN fun b3=>?_;(repeat(first|refine wD ?_|refine awp_seq_k fun K hK=>?_|(refine wH ?_;clear hK)));refine wN fun b4=>?_;(repeat(first|refine wD ?_|refine awp_seq_k fun K hK=>?_|refine wN fun bx=>?_|(refine wH ?_;clear hK))))
  refine awp_cond rfl (fun hb=>?_) (fun hb=>by simp at hb;omega)
  repeat(first|refine wD ?_|refine awp_seq_k fun K hK=>?_|refine wN fun bx=>?_|(refine wH ?_;clear hK))
  refine fnQ_ret 3 rfl (.cell rfl rfl (List.Mem.tail _ (List.Mem.tail _ (List.Mem.head _))) rfl trivial (.cell rfl rfl (List.Mem.tail _ (List.Mem.head _)) rfl trivial (.cell rfl rfl (List.Mem.head _) rfl trivial .nil))) ?_ ⟨rfl,rfl⟩
  unfold linesR
  rw[if_pos hlong]
  exact Sub.tuple3 (Sub.nilsv _ _) (Sub.refl _) (Sub.refl _)
 ·((repeat(first|refine wD ?_|refine awp_seq_k fun K hK=>?_|(refine wH ?_;clear hK)));refine wN fun b2=>?_;(repeat(first|refine wD ?_|refine awp_seq_k fun K hK=>?_|(refine wH ?_;clear hK)));refine wN fun b3=>?_;(repeat(first|refine wD ?_|refine awp_seq_k fun K hK=>?_|(refine wH ?_;clear hK)));refine wN fun b4=>?_;(repeat(first|refine wD ?_|refine awp_seq_k fun K hK=>?_|refine wN fun bx=>?_|(refine wH ?_;clear hK))))
  refine awp_cond rfl (fun hb=>by simp at hb;omega) (fun hb=>?_)
  ((repeat(first|refine wD ?_|refine awp_seq_k fun K hK=>?_|(refine wH ?_;clear hK)));refine wN fun b5=>?_;(repeat(first|refine wD ?_|refine awp_seq_k fun K hK=>?_|(refine wH ?_;clear hK)));refine wN fun b6=>?_;(repeat(first|refine wD ?_|refine awp_seq_k fun K hK=>?_|refine wN fun bx=>?_|(refine wH ?_;clear hK))))
  refine TR.hcall rfl rfl rfl True.intro rfl rfl (List.Perm.refl _) (SplitSeq_c _ _) (fun v H' hK=>?_) (fun v H' hK=>?_)
  rotate_left
  ·obtain⟨bs,bsep,bsave,e,_⟩:=hK
   cases e
  obtain⟨bs,bsep,bsave,e,rfl⟩:=hK
  cases e
  repeat(first|refine wD ?_|refine awp_seq_k fun K hK=>?_|refine wN fun bx=>?_|(refine wH ?_;clear hK))
  refine awp_weaken (T':=[(18,.func (.func 21) [] [.ptr bsep 0,.ptr bs 0,.ptr bsave 0]),(6,.ptr b6 0),(5,.ptr b5 0),(4,.ptr b4 0),(3,.ptr b3 0),(2,.ptr b2 0)]) (Weak.spec wk) ?_
  refine awp_boxSub (seqBoxes bs bsep bsave s [10]++[.box b6 3 (.int .i64 0)]) (Sub.sl_nil lineE 1) ?_
  refine awp_tok0 1 30 ?_
  refine awp_rangeSeq (splitSeq1_c s 10 bs bsep bsave hs) rfl (by decide) (by simp) (Hb:=linesCore b2 b3 b4 b5 b6 0 [] none 0) (List.perm_middle (l₁:=seqBoxes bs bsep bsave s [10]) (l₂:=(linesCore b2 b3 b4 b5 b6 0 [] none 0).tail)).symm
   (fun k Hk=>k≤(splitC 10 s).length∧∃(outs:List (List TokR)) (a:Option Addr) (cap:Nat) (G:AHeap),Hk=G++linesCore b2 b3 b4 b5 b6 k outs a cap∧outs.length≤k∧preS outs (linesG k ((splitC 10 s).drop k))=linesF s)
   ⟨Nat.zero_le _,[],none,0,[],rfl,Nat.le_refl _,preS_nil _⟩ ?_ ?_
  ·rintro k Hk vs hx ⟨hk,outs,a,cap,G,rfl,hol,hpre⟩
   obtain⟨p,hp,rfl⟩:∃p,(splitC 10 s)[k]?=some p∧vs=[.str p]:=by
    simp only[List.getElem?_map,Option.map_eq_some_iff]at hx
    obtain⟨p,h1,h2⟩:=hx
    exact⟨p,h1,h2.symm⟩
   have hk':=(List.getElem?_eq_some_iff.1 hp).1
   have hcount:=splitC_count 10 s
   have hplen:=splitC_piece 10 s p (List.mem_of_getElem? hp)
   have hdk:(splitC 10 s).drop k=p::(splitC 10 s).drop (k+1):=by
    rw[List.drop_eq_getElem_cons hk',(List.getElem?_eq_some_iff.1 hp).2]
   rw[hdk]at hpre
   refine awp_dropF ?_
   repeat(first|refine wD ?_|refine awp_seq_k fun K hK=>?_|refine wN fun bx=>?_|(refine wH ?_;clear hK))
   refine⟨rfl,?_⟩
   ((repeat(first|refine wD ?_|refine awp_seq_k fun K hK=>?_|(refine wH ?_;clear hK)));refine wN fun b8=>?_;(repeat(first|refine wD ?_|refine awp_seq_k fun K hK=>?_|refine wN fun bx=>?_|(refine wH ?_;clear hK))))
   refine TR.hcall rfl rfl rfl True.intro rfl rfl (List.Perm.refl _) (words_c _) (fun v H' hK=>?_) (fun v H' hK=>?_)
   rotate_left
   ·obtain⟨bl,e,_⟩:=hK
    cases e
   obtain⟨bl,e,rfl⟩:=hK
   cases e
   repeat(first|refine wD ?_|refine awp_seq_k fun K hK=>?_|refine wN fun bx=>?_|(refine wH ?_;clear hK))
   have hwl:(wordsF p).length≤65537:=by
    have h1:=wordsG_len (splitC 32 p) 0
    have h2:=splitC_count 32 p
    have h3:(wordsF p).length=(wordsG 0 (splitC 32 p)).length:=rfl
    omega
   refine awp_weaken (T':=[(23,.func (.func 15) [] [.ptr bl 0]),(8,.ptr b8 0),(6,.ptr b6 0),(5,.ptr b5 0),(4,.ptr b4 0),(3,.ptr b3 0),(2,.ptr b2 0)]) (Weak.spec wk) ?_
   refine awp_boxSub [.box bl 9 (.str p)] (Sub.sl_nil tokE 5) ?_
   refine awp_tok0 5 32 ?_
   refine awp_rangeSeq (words1_c p (by omega) bl) rfl (by decide) (by simp only[List.mem_map];rintro _ ⟨x,_,rfl⟩;rfl) (Hb:=[.tok none 0 0 5 32,.box b8 30 (sl tokE 5 [] (.own none 0))]++linesCore b2 b3 b4 b5 b6 ((k:Int)+1) outs a cap) (List.perm_middle (l₁:=[.box bl 9 (.str p)]) (l₂:=.box b8 30 (sl tokE 5 [] (.own none 0))::linesCore b2 b3 b4 b5 b6 ((k:Int)+1) outs a cap)).symm
    (fun j Hj=>j≤(wordsF p).length∧∃(ts:List TokR) (a2:Option Addr) (cap2:Nat) (G2:AHeap),Hj=G2++([.tok a2 cap2 ts.length 5 32,.box b8 30 (sl tokE 5 ts (.own a2 cap2))]++linesCore b2 b3 b4 b5 b6 ((k:Int)+1) outs a cap)∧
      ts.length≤j∧preS ts (toksF (k+1) ((wordsF p).drop j))=toksF (k+1) (wordsF p))
    ⟨Nat.zero_le _,[],none,0,[],rfl,Nat.le_refl _,preS_nil _⟩ ?_ ?_
   ·rintro j Hj vs2 hx2 ⟨hj,ts,a2,cap2,G2,rfl,htl,htok⟩
    obtain⟨c,w,hw,rfl⟩:∃(c:Nat) (w:List UInt8),(wordsF p)[j]?=some (c,w)∧vs2=[.int .i64 c,.str w]:=by
     simp only[List.getElem?_map,Option.map_eq_some_iff]at hx2
     obtain⟨⟨c,w⟩,h1,h2⟩:=hx2
     exact⟨c,w,h1,h2.symm⟩
    have hj':=(List.getElem?_eq_some_iff.1 hw).1
    have hdj:(wordsF p).drop j=(c,w)::(wordsF p).drop (j+1):=by
     rw[List.drop_eq_getElem_cons hj',(List.getElem?_eq_some_iff.1 hw).2]
    rw[hdj]at htok
    refine awp_dropF ?_
    repeat(first|refine wD ?_|refine awp_seq_k fun K hK=>?_|refine wN fun bx=>?_|(refine wH ?_;clear hK))
    refine⟨rfl,?_⟩
    have hwlen:w.length≤1000000000:=by
     have:=wordsF_word p (c,w) (List.mem_of_getElem? hw)
     simp only at this
     omega
    have g:=tok_c w hwlen
    unfold tokV at g
    cases ht:tokF w with
    |none=>
     rw[ht]at g
     ((repeat(first|refine wK ?_|refine awp_seq_k fun K hK=>?_|refine qpc rfl rfl rfl (g) ?_|refine qpo rfl rfl rfl rfl rfl rfl (fun _=>g) ?_|(refine wH ?_;clear hK)));refine wN fun b11=>?_;(repeat(first|refine wK ?_|refine awp_seq_k fun K hK=>?_|refine wN fun bx=>?_|refine qpc rfl rfl rfl (g) ?_|refine qpo rfl rfl rfl rfl rfl rfl (fun _=>g) ?_|(refine wH ?_;clear hK))))
     refine awp_freeze [] (s:=11) rfl rfl ?_
     repeat(first|refine wD ?_|refine awp_seq_k fun K hK=>?_|refine wN fun bx=>?_|(refine wH ?_;clear hK))
     intro He _
     repeat(first|refine blockQ_ret ?_|refine thenQ_ret ?_)
     intro He2 _
     repeat(first|refine blockQ_ret ?_|refine thenQ_ret ?_)
     have hlf:linesF s=.inl (k+1,c):=by
      rw[←hpre]
      simp only[linesG]
      rw[←htok]
      simp[toksF,ht,preS]
     refine⟨_,_,_,.cell rfl rfl (b:=b2) (ty0:=23) (u:=.nils) (List.mem_append.2 (.inr (List.mem_append.2 (.inr (List.mem_of_getElem? (i:=7) rfl))))) rfl trivial (.cell rfl rfl (b:=b3) (ty0:=25) (u:=placeV ((k:Int)+1) c) (List.mem_append.2 (.inr (List.mem_append.2 (.inr (List.mem_of_getElem? (i:=6) rfl))))) rfl trivial
      (.cell rfl rfl (b:=b4) (ty0:=26) (u:=.int .i64 4) (List.mem_append.2 (.inr (List.mem_append.2 (.inr (List.mem_of_getElem? (i:=5) rfl))))) rfl trivial .nil)),?_,rfl,List.drop_length⟩
     rw[linesR_inl hlong hlf]
     exact Sub.tuple3 (Sub.nilsv _ _) (Sub.refl _) (Sub.refl _)
    |some q=>
     obtain⟨kk,nn⟩:=q
     rw[ht]at g
     ((repeat(first|refine wD ?_|refine awp_seq_k fun K hK=>?_|refine qpc rfl rfl rfl (g) ?_|refine qpo rfl rfl rfl rfl rfl rfl (fun _=>g) ?_|(refine wH ?_;clear hK)));refine wN fun b11=>?_;(repeat(first|refine wD ?_|refine awp_seq_k fun K hK=>?_|refine wN fun bx=>?_|refine qpc rfl rfl rfl (g) ?_|refine qpo rfl rfl rfl rfl rfl rfl (fun _=>g) ?_|(refine wH ?_;clear hK))))
     refine qapp tyok tokE ts ⟨kk,w,nn,k+1,c⟩ (SubL.refl _) ?_ fun ad cp=>?_
     ·simp only
      omega
     repeat(first|refine wD ?_|refine awp_seq_k fun K hK=>?_|refine wN fun bx=>?_|(refine wH ?_;clear hK))
     refine⟨hj',ts++[⟨kk,w,nn,k+1,c⟩],ad,cp,[_],rfl,?_,?_⟩
     ·simp only[List.length_append,List.length_cons,List.length_nil];omega
     ·rw[←htok]
      simp only[toksF,ht]
      cases toksF (k+1) ((wordsF p).drop (j+1))<;>simp[preS]
   ·rintro He Hj _ ⟨hj,ts,a2,cap2,G2,rfl,htl,htok⟩
    rw[List.length_map]at htl
    rw[List.length_map,List.drop_length]at htok
    simp only[toksF,preS,List.append_nil]at htok
    refine blockQ_normal ?_
    refine hK _ _ ?_
    rw[←List.append_assoc]
    refine awp_dropF ?_
    repeat(first|refine wD ?_|refine awp_seq_k fun K hK=>?_|refine wN fun bx=>?_|(refine wH ?_;clear hK))
    refine awp_cond rfl (fun hb=>?_) (fun hb=>?_)
    ·have hne:ts≠[]:=by
      rintro rfl
      simp at hb
     repeat(first|refine wD ?_|refine awp_seq_k fun K hK=>?_|refine wN fun bx=>?_|(refine wH ?_;clear hK))
     refine qapp tyok lineE outs ts (.cons (Sub.view _ _ _ _) .nil) ?_ fun ad cp=>?_
     ·simp only
      omega
     repeat(first|refine wD ?_|refine awp_seq_k fun K hK=>?_|refine wN fun bx=>?_|(refine wH ?_;clear hK))
     refine⟨hk',outs++[ts],ad,cp,[_,_],rfl,?_,?_⟩
     ·simp only[List.length_append,List.length_cons,List.length_nil];omega
     ·rw[←hpre]
      simp only[linesG]
      rw[←htok]
      cases linesG (k+1) ((splitC 10 s).drop (k+1))<;>simp[preS,hne]
    ·have he:ts=[]:=by
      have:¬(0:Int)<ts.length:=by simpa using hb
      exact List.eq_nil_of_length_eq_zero (by omega)
     repeat(first|refine wD ?_|refine awp_seq_k fun K hK=>?_|refine wN fun bx=>?_|(refine wH ?_;clear hK))
     refine⟨hk',outs,a,cap,[_,_],rfl,by omega,?_⟩
     rw[←hpre]
     simp only[linesG]
     rw[←htok,he]
     cases linesG (k+1) ((splitC 10 s).drop (k+1))<;>simp
  ·rintro He Hk ⟨s',rfl⟩ ⟨hk,outs,a,cap,G,rfl,hol,hpre⟩
   rw[List.length_map]at hol
   rw[List.length_map,List.drop_length]at hpre
   simp only[linesG,preS,List.append_nil]at hpre
   refine blockQ_normal ?_
   refine hK _ _ ?_
   rw[←List.append_assoc]
   refine awp_dropF ?_
   repeat(first|refine wD ?_|refine awp_seq_k fun K hK=>?_|refine wN fun bx=>?_|(refine wH ?_;clear hK))
   refine fnQ_ret 6 rfl (.cell rfl rfl (List.mem_of_getElem? (i:=5) rfl) rfl trivial (.cell rfl rfl (List.mem_of_getElem? (i:=4) rfl) rfl trivial (.cell rfl rfl (List.mem_of_getElem? (i:=3) rfl) rfl trivial .nil))) ?_ ⟨rfl,rfl⟩
   rw[linesR_inr hlong hpre.symm]
   exact Sub.tuple3 (Sub.view _ _ _ _) (Sub.refl _) (Sub.refl _)
end Go.Proofs.YtlnhgdiklfaeeaaDoor
