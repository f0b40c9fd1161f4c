/-
  The lexer's words of a line, as an iterator.
-/
import Derived.Test.YtlnhgdiklfaeeaaDoorLx2
import Derived.Test.YtlnhgdiklfaeeaaDoorSq
set_option maxHeartbeats 1600000
namespace Go.Proofs.YtlnhgdiklfaeeaaDoor
open Go.Ab
def wordsG:Nat→List (List UInt8)→List (Nat×List UInt8)
 |_,[]=>[]
 |at',p::ps=>if Lib.hasPrefix p [35] then [] else if p=[] then wordsG (at'+1) ps else(at'+1,p)::wordsG (at'+p.length+1) ps
def wordsF (line:List UInt8):List (Nat×List UInt8):=wordsG 0 (splitC 32 line)
theorem splitC_len (c:UInt8):∀l,((splitC c l).map List.length).sum+(splitC c l).length=l.length+1
 |[]=>rfl
 |b::l=>by
  have ih:=splitC_len c l
  have hne:=splitC_ne c l
  simp only[splitC]
  split
  ·simp only[List.map_cons,List.sum_cons,List.length_nil,List.length_cons];omega
  ·cases h:splitC c l with
   |nil=>exact absurd h hne
   |cons p ps=>
    rw[h]at ih
    simp only[List.map_cons,List.sum_cons,List.length_cons]at ih ⊢
    omega
theorem cbW1:Callable Tryd.prog 15:=fun _ _=>by kernel_rfl
theorem words1_c (line:List UInt8) (hl:line.length≤1000000) (bl:Nat):
  SeqC Tryd.prog 15 [] [.ptr bl 0] [.box bl 9 (.str line)] ((wordsF line).map fun x=>[.int .i64 x.1,.str x.2]) (fun _=>True):=by
 intro yf y1 y2 I Z Hs h0 hy
 refine acalls_of_awp tyok cbW1 Tryd.func15 rfl rfl ?_
 ((repeat(first|refine wD ?_|refine awp_seq_k fun K hK=>?_|(refine wH ?_;clear hK)));refine wN fun by'=>?_;(repeat(first|refine wD ?_|refine awp_seq_k fun K hK=>?_|(refine wH ?_;clear hK)));refine wN fun bat=>?_;(repeat(first|refine wD ?_|refine awp_seq_k fun K hK=>?_|refine wN fun bx=>?_|(refine wH ?_;clear hK))))
 refine TR.hcall rfl rfl rfl True.intro rfl rfl (List.Perm.refl _) (SplitSeq_c _ _) (fun v H' hK=>?_) (fun v H' hK=>?_)
 rotate_left
 ·obtain⟨bs,bsep,bsave,e,_⟩:=hK
  cases e
 obtain⟨bs,bsep,bsave,e,rfl⟩:=hK
 cases e
 repeat(first|refine wD ?_|refine awp_seq_k fun K hK=>?_|refine wN fun bx=>?_|(refine wH ?_;clear hK))
 refine awp_rangeSeq (splitSeq1_c line 32 bs bsep bsave (by omega)) rfl (by decide) (by simp) (List.Perm.refl _)
  (fun k Hk=>k≤(splitC 32 line).length∧∃(j:Nat) (at':Nat) (Hs':AHeap),I j Hs'∧j≤(wordsF line).length∧Hk=[.box bat 3 (.int .i64 at'),.box by' 46 (.func yf y1 y2),.box bl 9 (.str line)]++Hs'∧
    (wordsF line).drop j=wordsG at' ((splitC 32 line).drop k)∧at'+(((splitC 32 line).drop k).map List.length).sum+((splitC 32 line).drop k).length=line.length+1)
  ⟨Nat.zero_le _,0,0,Hs,h0,Nat.zero_le _,rfl,rfl,by have:=splitC_len 32 line;simpa using this⟩ ?_ ?_
 ·rintro k Hk vs hx ⟨hk,j,at',Hs',hI,hj,rfl,hd,hsum⟩
  have hpk:∃p,(splitC 32 line)[k]?=some p∧vs=[.str p]:=by
   simp only[List.getElem?_map,Option.map_eq_some_iff]at hx
   obtain⟨p,h1,h2⟩:=hx
   exact⟨p,h1,h2.symm⟩
  obtain⟨p,hp,rfl⟩:=hpk
  have hk':=(List.getElem?_eq_some_iff.1 hp).1
  have hdk:(splitC 32 line).drop k=p::(splitC 32 line).drop (k+1):=by
   rw[List.drop_eq_getElem_cons hk',(List.getElem?_eq_some_iff.1 hp).2]
  rw[hdk]at hd hsum
  simp only[List.map_cons,List.sum_cons,List.length_cons]at hsum
  have hlast:∀He:AHeap,wordsG at' (p::(splitC 32 line).drop (k+1))=[]→I ((wordsF line).map fun x=>([.int .i64 x.1,.str x.2]:List AV)).length Hs':=by
   intro He h
   rw[h]at hd
   have:=List.drop_eq_nil_iff.1 hd
   rw[List.length_map,show(wordsF line).length=j by omega]
   exact hI
  repeat(first|refine wD ?_|refine awp_seq_k fun K hK=>?_|refine wN fun bx=>?_|(refine wH ?_;clear hK))
  refine⟨rfl,?_⟩
  have g:=hasPrefix_c p [35]
  cases hpre:Lib.hasPrefix p [35]
  ·rw[hpre]at g
   cases p with
   |nil=>
    repeat(first|refine wD ?_|refine awp_seq_k fun K hK=>?_|refine wN fun bx=>?_|refine qpc rfl rfl rfl (g) ?_|refine qpo rfl rfl rfl rfl rfl rfl (fun _=>g) ?_|(refine wH ?_;clear hK))
    refine⟨hk',j,at'+1,Hs',hI,hj,?_,?_,?_⟩
    ·simp
    ·rw[hd];simp[wordsG,hpre]
    ·simp only[List.length_nil]at hsum;omega
   |cons c p'=>
    have hw:wordsG at' ((c::p')::(splitC 32 line).drop (k+1))=(at'+1,c::p')::wordsG (at'+(c::p').length+1) ((splitC 32 line).drop (k+1)):=by
     simp[wordsG,hpre]
    rw[hw]at hd
    have hjx:(wordsF line)[j]?=some (at'+1,c::p'):=by
     have:=congrArg (fun l=>l[0]?) hd
     simpa using this
    have hj':=(List.getElem?_eq_some_iff.1 hjx).1
    repeat(first|refine wD ?_|refine awp_seq_k fun K hK=>?_|refine wN fun bx=>?_|refine qpc rfl rfl rfl (g) ?_|refine qpo rfl rfl rfl rfl rfl rfl (fun _=>g) ?_|(refine wH ?_;clear hK))
    refine TR.ycall [.box bat 3 (.int .i64 at'),.box by' 46 (.func yf y1 y2),.box bl 9 (.str line)] (hy j Hs' [.int .i64 ((at':Int)+1),.str (c::p')] (by simp[hjx]) hI) rfl (fun v H' hK=>?_) (fun v H' hK=>?_)
    ·rcases hK with⟨e,hI'⟩|⟨e,hZ⟩
     ·cases e
      repeat(first|refine wD ?_|refine awp_seq_k fun K hK=>?_|refine wN fun bx=>?_|(refine wH ?_;clear hK))
      refine⟨hk',j+1,at'+(c::p').length+1,H',hI',hj',?_,?_,?_⟩
      ·simp
       omega
      ·have:=congrArg (List.drop 1) hd
       simpa [Nat.add_comm]using this
      ·simp only[List.length_cons]at hsum ⊢;omega
     ·cases e
      repeat(first|refine wD ?_|refine awp_seq_k fun K hK=>?_|refine wN fun bx=>?_|(refine wH ?_;clear hK))
      intro He _
      exact blockQ_ret ⟨0,[],.tuple [],.nil,Sub.refl _,rfl,He++[.box bat 3 (.int .i64 at'),.box by' 46 (.func yf y1 y2),.box bl 9 (.str line)],H',by simp,trivial,.inr hZ⟩
    ·rcases hK with⟨e,_⟩|⟨e,_⟩<;>cases e
  ·rw[hpre]at g
   repeat(first|refine wD ?_|refine awp_seq_k fun K hK=>?_|refine wN fun bx=>?_|refine qpc rfl rfl rfl (g) ?_|refine qpo rfl rfl rfl rfl rfl rfl (fun _=>g) ?_|(refine wH ?_;clear hK))
   intro He _
   exact blockQ_ret ⟨0,[],.tuple [],.nil,Sub.refl _,rfl,He++[.box bat 3 (.int .i64 at'),.box by' 46 (.func yf y1 y2),.box bl 9 (.str line)],Hs',by simp,trivial,.inl (hlast [] (by simp[wordsG,hpre]))⟩
 ·rintro He H' _ ⟨hk,j,at',Hs',hI,hj,rfl,hd,_⟩
  rw[List.length_map,List.drop_length]at hd
  have hj2:=List.drop_eq_nil_iff.1 hd
  refine blockQ_normal ?_
  repeat(first|refine wD ?_|refine awp_seq_k fun K hK=>?_|refine wN fun bx=>?_|(refine wH ?_;clear hK))
  refine⟨0,[],.tuple [],.nil,Sub.refl _,rfl,He++[.box bat 3 (.int .i64 at'),.box by' 46 (.func yf y1 y2),.box bl 9 (.str line)],Hs',by simp,trivial,.inl ?_⟩
  rw[List.length_map,show(wordsF line).length=j by omega]
  exact hI
theorem cbW:Callable Tryd.prog 9:=fun _ _=>by kernel_rfl
theorem words_c (line:List UInt8):ACalls Tryd.prog 9 [.str line] [] (fun r H=>∃bl,r=.ret (.func (.func 15) [] [.ptr bl 0])∧H=[.box bl 9 (.str line)]):=by
 refine acalls_of_awp tyok cbW Tryd.func9 rfl rfl ?_
 repeat(first|refine wD ?_|refine awp_seq_k fun K hK=>?_|refine wN fun bx=>?_|(refine wH ?_;clear hK))
 exact fnQ_ret 0 rfl (.tmp rfl .nil) (Sub.refl _) ⟨_,rfl,rfl⟩
end Go.Proofs.YtlnhgdiklfaeeaaDoor
