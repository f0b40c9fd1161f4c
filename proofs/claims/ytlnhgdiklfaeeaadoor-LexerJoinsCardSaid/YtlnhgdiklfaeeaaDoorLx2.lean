/-
  The lexer's kinds of words, and what a word is.
-/
import Derived.Test.YtlnhgdiklfaeeaaDoorSd
import Derived.Test.YtlnhgdiklfaeeaaDoorLx1
set_option maxRecDepth 100000
set_option maxHeartbeats 1600000
namespace Go.Proofs.YtlnhgdiklfaeeaaDoor
open Go.Ab
def kind3 (s:List UInt8):Bool:=allF namedR s 1 8&&decide (((s.getD 0 0).toNat:Int)≥65)&&decide (((s.getD 0 0).toNat:Int)≤90)
theorem cbK1:Callable Tryd.prog 24:=fun _ _=>by kernel_rfl
theorem kind1_c (s:List UInt8):PCalls Tryd.prog 24 [.str s] (.bool (s==[61])):=by
 refine pcalls_of_awp tyok cbK1 Tryd.func24 rfl rfl ?_
 repeat(first|refine wD ?_|refine awp_seq_k fun K hK=>?_|refine wN fun bx=>?_|(refine wH ?_;clear hK))
 refine r1 ?_
 exact Sub.refl _
theorem smallR_high (r:Int) (h:128≤r):smallR r=false:=by
 have:¬r≤122:=by omega
 simp[smallR,this]
theorem namedR_high (r:Int) (h:128≤r):namedR r=false:=by
 have h1:¬r≤90:=by omega
 have h2:¬r≤57:=by omega
 simp[namedR,smallR_high r h,h1,h2]
theorem cbK2:Callable Tryd.prog 25:=fun _ _=>by kernel_rfl
theorem kind2_c (s:List UInt8) (hs:s.length≤1000000000):PCalls Tryd.prog 25 [.str s] (.bool (allF smallR s 1 16)):=by
 refine pcalls_of_awp tyok cbK2 Tryd.func25 rfl rfl ?_
 repeat(first|refine wD ?_|refine awp_seq_k fun K hK=>?_|refine wN fun bx=>?_|refine qpc rfl rfl rfl (all_c smallR 27 small_c smallR_high s hs 1 16) ?_|refine qpo rfl rfl rfl rfl rfl rfl (fun _=>all_c smallR 27 small_c smallR_high s hs 1 16) ?_|(refine wH ?_;clear hK))
 refine r1 ?_
 exact Sub.refl _
theorem allF_pos {isR:Int→Bool} {s:List UInt8} {b:Int} (h:allF isR s 1 b=true):1≤s.length:=by
 simp only[allF,Bool.and_eq_true,decide_eq_true_eq]at h
 omega
theorem cbK3:Callable Tryd.prog 28:=fun _ _=>by kernel_rfl
theorem kind3_c (s:List UInt8) (hs:s.length≤1000000000):PCalls Tryd.prog 28 [.str s] (.bool (kind3 s)):=by
 refine pcalls_of_awp tyok cbK3 Tryd.func28 rfl rfl ?_
 have h1:=all_c namedR 29 named_c namedR_high s hs 1 8
 cases h:allF namedR s 1 8
 ·rw[h]at h1
  repeat(first|refine wD ?_|refine awp_seq_k fun K hK=>?_|refine wN fun bx=>?_|refine qpc rfl rfl rfl (h1) ?_|refine qpo rfl rfl rfl rfl rfl rfl (fun _=>h1) ?_|(refine wH ?_;clear hK))
  refine r1 ?_
  exact Sub.of_eq (by simp[kind3,h])
 ·rw[h]at h1
  have hp:=allF_pos h
  repeat(first|refine wD ?_|refine awp_seq_k fun K hK=>?_|refine wN fun bx=>?_|refine qpc rfl rfl rfl (h1) ?_|refine qpo rfl rfl rfl rfl rfl rfl (fun _=>h1) ?_|(refine wH ?_;clear hK))
  refine r1 ?_
  exact Sub.of_eq (by simp[kind3,h])
def kindsV:AV:=.slice 2 3 (chunk [.int .u8 4,.func (.func 24) [] [],.int .u8 2,.func (.func 25) [] [],.int .u8 1,.func (.func 28) [] []] 2) .full
theorem cbKs:Callable Tryd.prog 17:=fun _ _=>by kernel_rfl
theorem kinds_c:PCalls Tryd.prog 17 [] kindsV:=by
 refine pcalls_of_awp tyok cbKs Tryd.func17 rfl rfl ?_
 repeat(first|refine wD ?_|refine awp_seq_k fun K hK=>?_|refine wN fun bx=>?_|(refine wH ?_;clear hK))
 refine r1 ?_
 exact Sub.refl _
def tokF (w:List UInt8):Option (Int×Int):=
 if w==[61] then some (4,0)
 else if allF smallR w 1 16 then some (2,0)
 else if kind3 w then some (1,0)
 else match Lib.atoiAll w with
  |.ok v=>if(!(Lib.itoa v==w) || decide (v>1000000)) || decide (v< -1000000) then none else some (3,v)
  |_=>none
def tokV (w:List UInt8):AV:=match tokF w with
 |some (k,n)=>.tuple [.agg (encT k w n 0 0),.bool true]
 |none=>.tuple [.agg (encT 0 [] 0 0 0),.bool false]
theorem atoi_bounds {l:List UInt8} {v:Int} (h:Lib.atoiAll l=.ok v): -9223372036854775808≤v∧v≤9223372036854775807:=by
 unfold Lib.atoiAll at h
 split at h
 ·cases h
 ·simp only at h
  split at h
  ·cases h
  ·cases h
  ·rename_i u _
   split at h
   ·cases h
   ·split at h
    ·cases h
    ·simp only[Lib.NumEnd.ok.injEq]at h
     subst h
     split<;>omega
theorem cbTok:Callable Tryd.prog 10:=fun _ _=>by kernel_rfl
theorem tok_c (s:List UInt8) (hs:s.length≤1000000000):PCalls Tryd.prog 10 [.str s] (tokV s):=by
 refine pcalls_of_awp tyok cbTok Tryd.func10 rfl rfl ?_
 ((repeat(first|refine wD ?_|refine awp_seq_k fun K hK=>?_|refine qpc rfl rfl rfl (kinds_c) ?_|refine qpo rfl rfl rfl rfl rfl rfl (fun _=>kinds_c) ?_|(refine wH ?_;clear hK)));refine wN fun b2=>?_;(repeat(first|refine wD ?_|refine awp_seq_k fun K hK=>?_|refine wN fun bx=>?_|refine qpc rfl rfl rfl (kinds_c) ?_|refine qpo rfl rfl rfl rfl rfl rfl (fun _=>kinds_c) ?_|(refine wH ?_;clear hK))))
 refine awp_loop0 (ι:={i:Nat//i≤3∧(1≤i→(s==[61])=false)∧(2≤i→allF smallR s 1 16=false)∧(3≤i→kind3 s=false)})
  (fun i=>[(0,.str s),(2,.ptr b2 0),(3,.bool false),(8,kindsV),(9,.int .i64 3),(10,.int .i64 i.1)]) (fun _=>[.box b2 32 (.agg (encT 0 [] 0 0 0))]) (fun i=>3-i.1)
  ⟨0,by omega,fun h=>absurd h (by omega),fun h=>absurd h (by omega),fun h=>absurd h (by omega)⟩ ?_ dp ?_
 ·exact wk
 rintro⟨i,hi,p1,p2,p3⟩
 simp only at hi p1 p2 p3 ⊢
 rcases(by omega:i=0∨i=1∨i=2∨i=3)with rfl|rfl|rfl|rfl
 ·have g:=kind1_c s
  cases h:s==[61]
  ·rw[h]at g
   ((repeat(first|refine wD ?_|refine awp_seq_k fun K hK=>?_|refine qpc rfl rfl rfl (g) ?_|refine qpo rfl rfl rfl rfl rfl rfl (fun _=>g) ?_|(refine wH ?_;clear hK)));refine wN fun b5=>?_;(repeat(first|refine wD ?_|refine awp_seq_k fun K hK=>?_|refine wN fun bx=>?_|refine qpc rfl rfl rfl (g) ?_|refine qpo rfl rfl rfl rfl rfl rfl (fun _=>g) ?_|(refine wH ?_;clear hK))))
   refine⟨⟨1,by omega,fun _=>rfl,fun h=>absurd h (by omega),fun h=>absurd h (by omega)⟩,?_,dp,?_⟩
   ·exact wk
   ·simp only;omega
  ·rw[h]at g
   ((repeat(first|refine wD ?_|refine awp_seq_k fun K hK=>?_|refine qpc rfl rfl rfl (g) ?_|refine qpo rfl rfl rfl rfl rfl rfl (fun _=>g) ?_|(refine wH ?_;clear hK)));refine wN fun b5=>?_;(repeat(first|refine wD ?_|refine awp_seq_k fun K hK=>?_|refine wN fun bx=>?_|refine qpc rfl rfl rfl (g) ?_|refine qpo rfl rfl rfl rfl rfl rfl (fun _=>g) ?_|(refine wH ?_;clear hK))))
   refine fnQ_ret 2 rfl (.cell rfl rfl (List.Mem.tail _ (List.Mem.head _)) rfl trivial (.tmp rfl .nil)) (Sub.of_eq ?_) ⟨rfl,rfl⟩
   simp[tokV,tokF,h,encT]
   rfl
 ·have g:=kind2_c s hs
  have h1:=p1 (by omega)
  cases h:allF smallR s 1 16
  ·rw[h]at g
   ((repeat(first|refine wD ?_|refine awp_seq_k fun K hK=>?_|refine qpc rfl rfl rfl (g) ?_|refine qpo rfl rfl rfl rfl rfl rfl (fun _=>g) ?_|(refine wH ?_;clear hK)));refine wN fun b5=>?_;(repeat(first|refine wD ?_|refine awp_seq_k fun K hK=>?_|refine wN fun bx=>?_|refine qpc rfl rfl rfl (g) ?_|refine qpo rfl rfl rfl rfl rfl rfl (fun _=>g) ?_|(refine wH ?_;clear hK))))
   refine⟨⟨2,by omega,fun _=>h1,fun _=>rfl,fun h=>absurd h (by omega)⟩,?_,dp,?_⟩
   ·exact wk
   ·simp only;omega
  ·rw[h]at g
   ((repeat(first|refine wD ?_|refine awp_seq_k fun K hK=>?_|refine qpc rfl rfl rfl (g) ?_|refine qpo rfl rfl rfl rfl rfl rfl (fun _=>g) ?_|(refine wH ?_;clear hK)));refine wN fun b5=>?_;(repeat(first|refine wD ?_|refine awp_seq_k fun K hK=>?_|refine wN fun bx=>?_|refine qpc rfl rfl rfl (g) ?_|refine qpo rfl rfl rfl rfl rfl rfl (fun _=>g) ?_|(refine wH ?_;clear hK))))
   refine fnQ_ret 2 rfl (.cell rfl rfl (List.Mem.tail _ (List.Mem.head _)) rfl trivial (.tmp rfl .nil)) (Sub.of_eq ?_) ⟨rfl,rfl⟩
   simp[tokV,tokF,h,h1,encT]
   rfl
 ·have g:=kind3_c s hs
  have h1:=p1 (by omega)
  have h2:=p2 (by omega)
  cases h:kind3 s
  ·rw[h]at g
   ((repeat(first|refine wD ?_|refine awp_seq_k fun K hK=>?_|refine qpc rfl rfl rfl (g) ?_|refine qpo rfl rfl rfl rfl rfl rfl (fun _=>g) ?_|(refine wH ?_;clear hK)));refine wN fun b5=>?_;(repeat(first|refine wD ?_|refine awp_seq_k fun K hK=>?_|refine wN fun bx=>?_|refine qpc rfl rfl rfl (g) ?_|refine qpo rfl rfl rfl rfl rfl rfl (fun _=>g) ?_|(refine wH ?_;clear hK))))
   refine⟨⟨3,by omega,fun _=>h1,fun _=>h2,fun _=>rfl⟩,?_,dp,?_⟩
   ·exact wk
   ·simp only;omega
  ·rw[h]at g
   ((repeat(first|refine wD ?_|refine awp_seq_k fun K hK=>?_|refine qpc rfl rfl rfl (g) ?_|refine qpo rfl rfl rfl rfl rfl rfl (fun _=>g) ?_|(refine wH ?_;clear hK)));refine wN fun b5=>?_;(repeat(first|refine wD ?_|refine awp_seq_k fun K hK=>?_|refine wN fun bx=>?_|refine qpc rfl rfl rfl (g) ?_|refine qpo rfl rfl rfl rfl rfl rfl (fun _=>g) ?_|(refine wH ?_;clear hK))))
   refine fnQ_ret 2 rfl (.cell rfl rfl (List.Mem.tail _ (List.Mem.head _)) rfl trivial (.tmp rfl .nil)) (Sub.of_eq ?_) ⟨rfl,rfl⟩
   simp[tokV,tokF,h,h1,h2,encT]
   rfl
 ·have h1:=p1 (by omega)
  have h2:=p2 (by omega)
  have h3:=p3 (by omega)
  have ga:=atoi_c s (by omega)
  unfold atoiV at ga
  cases ha:Lib.atoiAll s with
  |ok v=>
   rw[ha]at ga
   obtain⟨v0,v1⟩:=atoi_bounds ha
   have gi:=itoa_c v v0 v1
   repeat(first|refine wD ?_|refine awp_seq_k fun K hK=>?_|refine wN fun bx=>?_|refine qpc rfl rfl rfl (ga) ?_|refine qpc rfl rfl rfl (gi) ?_|refine qpo rfl rfl rfl rfl rfl rfl (fun _=>ga) ?_|refine qpo rfl rfl rfl rfl rfl rfl (fun _=>gi) ?_|(refine wH ?_;clear hK))
   refine awp_cond rfl (fun hb=>?_) (fun hb=>?_)
   ·repeat(first|refine wD ?_|refine awp_seq_k fun K hK=>?_|refine wN fun bx=>?_|(refine wH ?_;clear hK))
    refine fnQ_ret 1 rfl (.cell rfl rfl (List.Mem.head _) rfl trivial (.tmp rfl .nil)) (Sub.of_eq ?_) ⟨rfl,rfl⟩
    simp only[tokV,tokF,h1,h2,h3,ha,Bool.false_eq_true,if_false]
    rw[if_pos (by simpa using hb)]
    rfl
   ·repeat(first|refine wD ?_|refine awp_seq_k fun K hK=>?_|refine wN fun bx=>?_|(refine wH ?_;clear hK))
    refine fnQ_ret 1 rfl (.cell rfl rfl (List.Mem.head _) rfl trivial (.tmp rfl .nil)) (Sub.of_eq ?_) ⟨rfl,rfl⟩
    simp only[tokV,tokF,h1,h2,h3,ha,Bool.false_eq_true,if_false]
    rw[if_neg (by simpa using hb)]
    rfl
  |range=>
   rw[ha]at ga
   repeat(first|refine wD ?_|refine awp_seq_k fun K hK=>?_|refine wN fun bx=>?_|refine qpc rfl rfl rfl (ga) ?_|refine qpo rfl rfl rfl rfl rfl rfl (fun _=>ga) ?_|(refine wH ?_;clear hK))
   refine fnQ_ret 1 rfl (.cell rfl rfl (List.Mem.head _) rfl trivial (.tmp rfl .nil)) (Sub.of_eq ?_) ⟨rfl,rfl⟩
   simp only[tokV,tokF,h1,h2,h3,ha,Bool.false_eq_true,if_false]
   rfl
  |_=>
   rw[ha]at ga
   repeat(first|refine wD ?_|refine awp_seq_k fun K hK=>?_|refine wN fun bx=>?_|refine qpc rfl rfl rfl (ga) ?_|refine qpo rfl rfl rfl rfl rfl rfl (fun _=>ga) ?_|(refine wH ?_;clear hK))
   refine fnQ_ret 1 rfl (.cell rfl rfl (List.Mem.head _) rfl trivial (.tmp rfl .nil)) (Sub.of_eq ?_) ⟨rfl,rfl⟩
   simp only[tokV,tokF,h1,h2,h3,ha,Bool.false_eq_true,if_false]
   rfl
end Go.Proofs.YtlnhgdiklfaeeaaDoor
