/-
  The lexer's lines, told with the places of their arrays: no two of them lie in one block.
-/
import Derived.Test.YtlnhgdiklfaeeaaDoorLx4
import Derived.Test.YtlnhgdiklfaeeaaDoorAb41
set_option maxRecDepth 100000
set_option maxHeartbeats 3200000
namespace Go.Proofs.YtlnhgdiklfaeeaaDoor
open Go.Ab
structure LnO where
 ts:List TokR
 g:Nat
 cap:Nat
 deriving Inhabited
def lineO (x:LnO):List AV:=[sl tokE 5 x.ts (.own (some ⟨x.g,0,none⟩) x.cap)]
structure Apart (outs:List LnO) (a:Option Addr) (cap:Nat):Prop where
 ne:∀x∈outs,x.ts≠[]
 dis:(outs.map (·.g)).Nodup
 own:outs≠[]→∃g0,a=some ⟨g0,0,none⟩∧g0∉outs.map (·.g)
 nil:outs=[]→a=none∧cap=0
structure ApartL (outs:List LnO) (a:Option Addr) (ts:List TokR) (a2:Option Addr) (cap2:Nat):Prop where
 nil:ts=[]→a2=none∧cap2=0
 own:ts≠[]→∃g,a2=some ⟨g,0,none⟩∧g∉outs.map (·.g)∧∀g0,a=some ⟨g0,0,none⟩→g≠g0
theorem Apart.lives {H:AHeap} {b:Nat} {t:TypeId} {outs:List LnO} {a:Option Addr} {cap:Nat} (h:Apart outs a cap) (hm:Ent.box b t (sl lineO 1 outs (.own a cap))∈H):(∀g∈outs.map (·.g),Lives H g)∧∀g0,a=some ⟨g0,0,none⟩→Lives H g0:=by
 constructor
 ·intro g hg
  obtain⟨x,hx,rfl⟩:=List.mem_map.1 hg
  obtain⟨i,hi,rfl⟩:=List.getElem_of_mem hx
  refine Lives.box hm fun st w c hr=>?_
  have ei:outs.getD i default=outs[i]:=by simp[List.getD_eq_getElem?_getD,hi]
  obtain⟨y,hy⟩:=st_el (j:=0) (v:=sl tokE 5 outs[i].ts (.own (some ⟨outs[i].g,0,none⟩) outs[i].cap)) hr hi (by rw[ei];rfl)
  exact st_slice hy (List.length_pos_iff.2 (h.ne _ (List.getElem_mem hi))) (by decide)
 ·rintro g0 rfl
  refine Lives.box hm fun st w c hr=>?_
  refine st_slice hr ?_ (by decide)
  by_cases e:outs=[]
  ·exact absurd (h.nil e).1 (by simp)
  ·exact List.length_pos_iff.2 e
theorem ApartL.push {H:AHeap} {b:Nat} {t:TypeId} {outs:List LnO} {a:Option Addr} {cap:Nat} {ts:List TokR} {a2:Option Addr} {cap2:Nat} {ad:Option Addr} {cp:Nat} (k:ApartL outs a ts a2 cap2) (h:Apart outs a cap) (x:TokR)
  (hf:Fresh H a2 cap2 (ts.length+1) ad cp) (hm:Ent.box b t (sl lineO 1 outs (.own a cap))∈H):ApartL outs a (ts++[x]) ad cp:=by
 obtain⟨l1,l2⟩:=h.lives hm
 refine⟨fun e=>by simp at e,fun _=>?_⟩
 rcases hf with⟨rfl,rfl,hc⟩|⟨g,rfl,hg⟩
 ·refine k.own fun e=>?_
  have:=(k.nil e).2
  omega
 ·exact⟨g,rfl,fun hm=>hg g (l1 g hm) rfl,fun g0 e hgg=>hg g0 (l2 g0 e) hgg.symm⟩
theorem Apart.push {H:AHeap} {b b2:Nat} {t t2:TypeId} {outs:List LnO} {a:Option Addr} {cap:Nat} {ts:List TokR} {g cap2:Nat} {ad:Option Addr} {cp:Nat} (h:Apart outs a cap) (k:ApartL outs a ts (some ⟨g,0,none⟩) cap2) (hts:ts≠[])
  (hf:Fresh H a cap (outs.length+1) ad cp) (hm:Ent.box b t (sl lineO 1 outs (.own a cap))∈H) (hm2:Ent.box b2 t2 (sl tokE 5 ts (.own (some ⟨g,0,none⟩) cap2))∈H):Apart (outs++[⟨ts,g,cap2⟩]) ad cp:=by
 obtain⟨l1,l2⟩:=h.lives hm
 obtain⟨g',e,k1,k2⟩:=k.own hts
 cases e
 have l3:Lives H g:=Lives.box hm2 fun st w c hr=>st_slice hr (List.length_pos_iff.2 hts) (by decide)
 refine⟨fun x hx=>?_,?_,fun _=>?_,fun e=>by simp at e⟩
 ·rcases List.mem_append.1 hx with hx|hx
  ·exact h.ne x hx
  ·rw[List.mem_singleton.1 hx]
   exact hts
 ·rw[List.map_append,List.map_singleton]
  exact List.nodup_append.2 ⟨h.dis,by simp,fun x hx y hy e=>k1 (by rw[List.mem_singleton.1 hy]at e;have e':x=g:=e;rw[←e'];exact hx)⟩
 ·rw[List.map_append,List.map_singleton]
  rcases hf with⟨rfl,rfl,hc⟩|⟨q,rfl,hq⟩
  ·have hne:outs≠[]:=fun e=>by
    have:=(h.nil e).2
    omega
   obtain⟨g0,e0,hg0⟩:=h.own hne
   refine⟨g0,e0,fun hx=>?_⟩
   rcases List.mem_append.1 hx with hx|hx
   ·exact hg0 hx
   ·exact k2 g0 e0 (List.mem_singleton.1 hx).symm
  ·refine⟨q,rfl,fun hx=>?_⟩
   rcases List.mem_append.1 hx with hx|hx
   ·exact hq q (l1 q hx) rfl
   ·exact hq g l3 (List.mem_singleton.1 hx).symm
structure LinesO (r:List (List TokR)) where
 outs:List LnO
 a:Option Addr
 cap:Nat
 eq:outs.map (·.ts)=r
 ap:Apart outs a cap
def linesOV {r:List (List TokR)} (x:LinesO r):AV:=.tuple [sl lineO 1 x.outs (.own x.a x.cap),placeV 0 0,.int .i64 0]
def linesCoO (b2 b3 b4 b5 b6:Nat) (k:Int) (outs:List LnO) (a:Option Addr) (cap:Nat):AHeap:=
 [.tok a cap outs.length 1 30,.box b6 3 (.int .i64 k),.box b5 23 (sl lineO 1 outs (.own a cap)),.box b4 26 (.int .i64 0),.box b3 25 (placeV 0 0),.box b2 23 .nils]
theorem lines_o (s:List UInt8) (hs:s.length≤65536) (r:List (List TokR)) (hf:linesF s=.inr r):ACalls Tryd.prog 5 [.str s] [] fun r' H'=>∃x:LinesO r,r'=.ret (linesOV x)∧H'=[]:=by
 refine acalls_of_awp tyok cbLines Tryd.func5 rfl rfl ?_
 ((repeat(first|refine wD ?_|refine awp_seq_k fun K hK=>?_|(refine wH ?_;clear hK)));refine wN fun b2=>?_;(repeat(first|refine wD ?_|refine awp_seq_k fun K hK=>?_|(refine wH ?_;clear hK)));refine wN fun b3=>?_;(repeat(first|refine wD ?_|refine awp_seq_k fun K hK=>?_|(refine wH ?_;clear hK)));refine wN fun b4=>?_;(repeat(first|refine wD ?_|refine awp_seq_k fun K hK=>?_|refine wN fun bx=>?_|(refine wH ?_;clear hK))))
 refine awp_cond rfl (fun hb=>by simp at hb;omega) (fun hb=>?_)
 ((repeat(first|refine wD ?_|refine awp_seq_k fun K hK=>?_|(refine wH ?_;clear hK)));refine wN fun b5=>?_;(repeat(first|refine wD ?_|refine awp_seq_k fun K hK=>?_|(refine wH ?_;clear hK)));refine wN fun b6=>?_;(repeat(first|refine wD ?_|refine awp_seq_k fun K hK=>?_|refine wN fun bx=>?_|(refine wH ?_;clear hK))))
 refine TR.hcall rfl rfl rfl True.intro rfl rfl (List.Perm.refl _) (SplitSeq_c _ _) (fun v H' hK=>?_) (fun v H' hK=>?_)
 rotate_left
 ·obtain⟨bs,bsep,bsave,e,_⟩:=hK
  cases e
 obtain⟨bs,bsep,bsave,e,rfl⟩:=hK
 cases e
 repeat(first|refine wD ?_|refine awp_seq_k fun K hK=>?_|refine wN fun bx=>?_|(refine wH ?_;clear hK))
 refine awp_weaken (T':=[(18,.func (.func 21) [] [.ptr bsep 0,.ptr bs 0,.ptr bsave 0]),(6,.ptr b6 0),(5,.ptr b5 0),(4,.ptr b4 0),(3,.ptr b3 0),(2,.ptr b2 0)]) (Weak.spec wk) ?_
 refine awp_boxSub (seqBoxes bs bsep bsave s [10]++[.box b6 3 (.int .i64 0)]) (Sub.sl_nil lineO 1) ?_
 refine awp_tok0 1 30 ?_
 refine awp_rangeSeq (splitSeq1_c s 10 bs bsep bsave (by omega)) rfl (by decide) (by simp) (Hb:=linesCoO b2 b3 b4 b5 b6 0 [] none 0) (List.perm_middle (l₁:=seqBoxes bs bsep bsave s [10]) (l₂:=(linesCoO b2 b3 b4 b5 b6 0 [] none 0).tail)).symm
  (fun k Hk=>k≤(splitC 10 s).length∧∃(outs:List LnO) (a:Option Addr) (cap:Nat) (G:AHeap),Hk=G++linesCoO b2 b3 b4 b5 b6 k outs a cap∧outs.length≤k∧Apart outs a cap∧preS (outs.map (·.ts)) (linesG k ((splitC 10 s).drop k))=linesF s)
  ⟨Nat.zero_le _,[],none,0,[],rfl,Nat.le_refl _,⟨fun x hx=>absurd hx List.not_mem_nil,List.nodup_nil,fun h=>absurd rfl h,fun _=>⟨rfl,rfl⟩⟩,preS_nil _⟩ ?_ ?_
 ·rintro k Hk vs hx ⟨hk,outs,a,cap,G,rfl,hol,hap,hpre⟩
  obtain⟨p,hp,rfl⟩:∃p,(splitC 10 s)[k]?=some p∧vs=[.str p]:=by
   simp only[List.getElem?_map,Option.map_eq_some_iff]at hx
   obtain⟨p,h1,h2⟩:=hx
   exact⟨p,h1,h2.symm⟩
  have hk':=(List.getElem?_eq_some_iff.1 hp).1
  have hcount:=splitC_count 10 s
  have hplen:=splitC_piece 10 s p (List.mem_of_getElem? hp)
  have hdk:(splitC 10 s).drop k=p::(splitC 10 s).drop (k+1):=by
   rw[List.drop_eq_getElem_cons hk',(List.getElem?_eq_some_iff.1 hp).2]
  rw[hdk]at hpre
  refine awp_dropF ?_
  repeat(first|refine wD ?_|refine awp_seq_k fun K hK=>?_|refine wN fun bx=>?_|(refine wH ?_;clear hK))
  refine⟨rfl,?_⟩
  ((repeat(first|refine wD ?_|refine awp_seq_k fun K hK=>?_|(refine wH ?_;clear hK)));refine wN fun b8=>?_;(repeat(first|refine wD ?_|refine awp_seq_k fun K hK=>?_|refine wN fun bx=>?_|(refine wH ?_;clear hK))))
  refine TR.hcall rfl rfl rfl True.intro rfl rfl (List.Perm.refl _) (words_c _) (fun v H' hK=>?_) (fun v H' hK=>?_)
  rotate_left
  ·obtain⟨bl,e,_⟩:=hK
   cases e
  obtain⟨bl,e,rfl⟩:=hK
  cases e
  repeat(first|refine wD ?_|refine awp_seq_k fun K hK=>?_|refine wN fun bx=>?_|(refine wH ?_;clear hK))
  have hwl:(wordsF p).length≤65537:=by
   have h1:=wordsG_len (splitC 32 p) 0
   have h2:=splitC_count 32 p
   have h3:(wordsF p).length=(wordsG 0 (splitC 32 p)).length:=rfl
   omega
  refine awp_weaken (T':=[(23,.func (.func 15) [] [.ptr bl 0]),(8,.ptr b8 0),(6,.ptr b6 0),(5,.ptr b5 0),(4,.ptr b4 0),(3,.ptr b3 0),(2,.ptr b2 0)]) (Weak.spec wk) ?_
  refine awp_boxSub [.box bl 9 (.str p)] (Sub.sl_nil tokE 5) ?_
  refine awp_tok0 5 32 ?_
  refine awp_rangeSeq (words1_c p (by omega) bl) rfl (by decide) (by simp only[List.mem_map];rintro _ ⟨x,_,rfl⟩;rfl) (Hb:=[.tok none 0 0 5 32,.box b8 30 (sl tokE 5 [] (.own none 0))]++linesCoO b2 b3 b4 b5 b6 ((k:Int)+1) outs a cap) (List.perm_middle (l₁:=[.box bl 9 (.str p)]) (l₂:=.box b8 30 (sl tokE 5 [] (.own none 0))::linesCoO b2 b3 b4 b5 b6 ((k:Int)+1) outs a cap)).symm
   (fun j Hj=>j≤(wordsF p).length∧∃(ts:List TokR) (a2:Option Addr) (cap2:Nat) (G2:AHeap),Hj=G2++([.tok a2 cap2 ts.length 5 32,.box b8 30 (sl tokE 5 ts (.own a2 cap2))]++linesCoO b2 b3 b4 b5 b6 ((k:Int)+1) outs a cap)∧
     ts.length≤j∧ApartL outs a ts a2 cap2∧preS ts (toksF (k+1) ((wordsF p).drop j))=toksF (k+1) (wordsF p))
   ⟨Nat.zero_le _,[],none,0,[],rfl,Nat.le_refl _,⟨fun _=>⟨rfl,rfl⟩,fun h=>absurd rfl h⟩,preS_nil _⟩ ?_ ?_
  ·rintro j Hj vs2 hx2 ⟨hj,ts,a2,cap2,G2,rfl,htl,hal,htok⟩
   obtain⟨c,w,hw,rfl⟩:∃(c:Nat) (w:List UInt8),(wordsF p)[j]?=some (c,w)∧vs2=[.int .i64 c,.str w]:=by
    simp only[List.getElem?_map,Option.map_eq_some_iff]at hx2
    obtain⟨⟨c,w⟩,h1,h2⟩:=hx2
    exact⟨c,w,h1,h2.symm⟩
   have hj':=(List.getElem?_eq_some_iff.1 hw).1
   have hdj:(wordsF p).drop j=(c,w)::(wordsF p).drop (j+1):=by
    rw[List.drop_eq_getElem_cons hj',(List.getElem?_eq_some_iff.1 hw).2]
   rw[hdj]at htok
   have hwlen:w.length≤1000000000:=by
    have:=wordsF_word p (c,w) (List.mem_of_getElem? hw)
    simp only at this
    omega
   have g:=tok_c w hwlen
   unfold tokV at g
   cases ht:tokF w with
   |none=>
    have hlf:linesF s=.inl (k+1,c):=by
     rw[←hpre]
     simp only[linesG]
     rw[←htok]
     simp[toksF,ht,preS]
    rw[hlf]at hf
    cases hf
   |some q=>
    obtain⟨kk,nn⟩:=q
    rw[ht]at g
    refine awp_dropF ?_
    repeat(first|refine wD ?_|refine awp_seq_k fun K hK=>?_|refine wN fun bx=>?_|(refine wH ?_;clear hK))
    refine⟨rfl,?_⟩
    ((repeat(first|refine wD ?_|refine awp_seq_k fun K hK=>?_|refine qpc rfl rfl rfl (g) ?_|refine qpo rfl rfl rfl rfl rfl rfl (fun _=>g) ?_|(refine wH ?_;clear hK)));refine wN fun b11=>?_;(repeat(first|refine wD ?_|refine awp_seq_k fun K hK=>?_|refine wN fun bx=>?_|refine qpc rfl rfl rfl (g) ?_|refine qpo rfl rfl rfl rfl rfl rfl (fun _=>g) ?_|(refine wH ?_;clear hK))))
    refine qappD tyok tokE ts ⟨kk,w,nn,k+1,c⟩ (SubL.refl _) ?_ fun ad cp hfr=>?_
    ·simp only
     omega
    have hal2:=hal.push hap ⟨kk,w,nn,k+1,c⟩ hfr (by(first|exact(List.Mem.head _)|exact List.Mem.tail _ ((List.Mem.head _))|exact List.Mem.tail _ (List.Mem.tail _ ((List.Mem.head _)))|exact List.Mem.tail _ (List.Mem.tail _ (List.Mem.tail _ ((List.Mem.head _))))|exact List.Mem.tail _ (List.Mem.tail _ (List.Mem.tail _ (List.Mem.tail _ ((List.Mem.head _)))))|exact List.Mem.tail _ (List.Mem.tail _ (List.Mem.tail _ (List.Mem.tail _ (List.Mem.tail _ ((List.Mem.head _))))))|exact List.Mem.tail _ (List.Mem.tail _ (List.Mem.tail _ (List.Mem.tail _ (List.Mem.tail _ (List.Mem.tail _ ((List.Mem.head _)))))))|exact List.Mem.tail _ (List.Mem.tail _ (List.Mem.tail _ (List.Mem.tail _ (List.Mem.tail _ (List.Mem.tail _ (List.Mem.tail _ ((List.Mem.head _))))))))|exact List.Mem.tail _ (List.Mem.tail _ (List.Mem.tail _ (List.Mem.tail _ (List.Mem.tail _ (List.Mem.tail _ (List.Mem.tail _ (List.Mem.tail _ ((List.Mem.head _)))))))))))
    repeat(first|refine wD ?_|refine awp_seq_k fun K hK=>?_|refine wN fun bx=>?_|(refine wH ?_;clear hK))
    refine⟨hj',ts++[⟨kk,w,nn,k+1,c⟩],ad,cp,[_],rfl,?_,hal2,?_⟩
    ·simp only[List.length_append,List.length_cons,List.length_nil];omega
    ·rw[←htok]
     simp only[toksF,ht]
     cases toksF (k+1) ((wordsF p).drop (j+1))<;>simp[preS]
  ·rintro He Hj _ ⟨hj,ts,a2,cap2,G2,rfl,htl,hal,htok⟩
   rw[List.length_map]at htl
   rw[List.length_map,List.drop_length]at htok
   simp only[toksF,preS,List.append_nil]at htok
   refine blockQ_normal ?_
   refine hK _ _ ?_
   rw[←List.append_assoc]
   refine awp_dropF ?_
   repeat(first|refine wD ?_|refine awp_seq_k fun K hK=>?_|refine wN fun bx=>?_|(refine wH ?_;clear hK))
   refine awp_cond rfl (fun hb=>?_) (fun hb=>?_)
   ·have hne:ts≠[]:=by
     rintro rfl
     simp at hb
    obtain⟨g,rfl,hg1,hg2⟩:=hal.own hne
    repeat(first|refine wD ?_|refine awp_seq_k fun K hK=>?_|refine wN fun bx=>?_|(refine wH ?_;clear hK))
    refine qappD tyok lineO outs ⟨ts,g,cap2⟩ (SubL.refl _) ?_ fun ad cp hfr=>?_
    ·simp only
     omega
    have hap2:=hap.push hal hne hfr (by(first|exact(List.Mem.head _)|exact List.Mem.tail _ ((List.Mem.head _))|exact List.Mem.tail _ (List.Mem.tail _ ((List.Mem.head _)))|exact List.Mem.tail _ (List.Mem.tail _ (List.Mem.tail _ ((List.Mem.head _))))|exact List.Mem.tail _ (List.Mem.tail _ (List.Mem.tail _ (List.Mem.tail _ ((List.Mem.head _)))))|exact List.Mem.tail _ (List.Mem.tail _ (List.Mem.tail _ (List.Mem.tail _ (List.Mem.tail _ ((List.Mem.head _))))))|exact List.Mem.tail _ (List.Mem.tail _ (List.Mem.tail _ (List.Mem.tail _ (List.Mem.tail _ (List.Mem.tail _ ((List.Mem.head _)))))))|exact List.Mem.tail _ (List.Mem.tail _ (List.Mem.tail _ (List.Mem.tail _ (List.Mem.tail _ (List.Mem.tail _ (List.Mem.tail _ ((List.Mem.head _))))))))|exact List.Mem.tail _ (List.Mem.tail _ (List.Mem.tail _ (List.Mem.tail _ (List.Mem.tail _ (List.Mem.tail _ (List.Mem.tail _ (List.Mem.tail _ ((List.Mem.head _))))))))))) (by(first|exact(List.Mem.head _)|exact List.Mem.tail _ ((List.Mem.head _))|exact List.Mem.tail _ (List.Mem.tail _ ((List.Mem.head _)))|exact List.Mem.tail _ (List.Mem.tail _ (List.Mem.tail _ ((List.Mem.head _))))|exact List.Mem.tail _ (List.Mem.tail _ (List.Mem.tail _ (List.Mem.tail _ ((List.Mem.head _)))))|exact List.Mem.tail _ (List.Mem.tail _ (List.Mem.tail _ (List.Mem.tail _ (List.Mem.tail _ ((List.Mem.head _))))))|exact List.Mem.tail _ (List.Mem.tail _ (List.Mem.tail _ (List.Mem.tail _ (List.Mem.tail _ (List.Mem.tail _ ((List.Mem.head _)))))))|exact List.Mem.tail _ (List.Mem.tail _ (List.Mem.tail _ (List.Mem.tail _ (List.Mem.tail _ (List.Mem.tail _ (List.Mem.tail _ ((List.Mem.head _))))))))|exact List.Mem.tail _ (List.Mem.tail _ (List.Mem.tail _ (List.Mem.tail _ (List.Mem.tail _ (List.Mem.tail _ (List.Mem.tail _ (List.Mem.tail _ ((List.Mem.head _)))))))))))
    repeat(first|refine wD ?_|refine awp_seq_k fun K hK=>?_|refine wN fun bx=>?_|(refine wH ?_;clear hK))
    refine⟨hk',outs++[⟨ts,g,cap2⟩],ad,cp,[_,_],rfl,?_,hap2,?_⟩
    ·simp only[List.length_append,List.length_cons,List.length_nil];omega
    ·rw[←hpre]
     simp only[linesG]
     rw[←htok]
     cases linesG (k+1) ((splitC 10 s).drop (k+1))<;>simp[preS,hne]
   ·have he:ts=[]:=by
     have:¬(0:Int)<ts.length:=by simpa using hb
     exact List.eq_nil_of_length_eq_zero (by omega)
    repeat(first|refine wD ?_|refine awp_seq_k fun K hK=>?_|refine wN fun bx=>?_|(refine wH ?_;clear hK))
    refine⟨hk',outs,a,cap,[_,_],rfl,by omega,hap,?_⟩
    rw[←hpre]
    simp only[linesG]
    rw[←htok,he]
    cases linesG (k+1) ((splitC 10 s).drop (k+1))<;>simp
 ·rintro He Hk ⟨s',rfl⟩ ⟨hk,outs,a,cap,G,rfl,hol,hap,hpre⟩
  rw[List.length_map]at hol
  rw[List.length_map,List.drop_length]at hpre
  simp only[linesG,preS,List.append_nil]at hpre
  have hr:outs.map (·.ts)=r:=by
   rw[hf]at hpre
   exact Sum.inr.inj hpre
  refine blockQ_normal ?_
  refine hK _ _ ?_
  rw[←List.append_assoc]
  refine awp_dropF ?_
  repeat(first|refine wD ?_|refine awp_seq_k fun K hK=>?_|refine wN fun bx=>?_|(refine wH ?_;clear hK))
  refine fnQ_ret 6 rfl (.cell rfl rfl (List.mem_of_getElem? (i:=5) rfl) rfl trivial (.cell rfl rfl (List.mem_of_getElem? (i:=4) rfl) rfl trivial (.cell rfl rfl (List.mem_of_getElem? (i:=3) rfl) rfl trivial .nil))) (Sub.refl _) ⟨⟨outs,a,cap,hr,hap⟩,rfl,rfl⟩
end Go.Proofs.YtlnhgdiklfaeeaaDoor
