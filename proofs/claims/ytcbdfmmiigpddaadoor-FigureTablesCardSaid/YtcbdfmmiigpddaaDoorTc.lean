/-
  The document's tables (porismref21's Made and Asked), row by row, against the figures.
-/
import Derived.Test.YtcbdfmmiigpddaaDoorFz
import Derived.Test.YtcbdfmmiigpddaaDoorFgM
import Derived.Test.YtcbdfmmiigpddaaDoorAbC
set_option maxRecDepth 100000
set_option maxHeartbeats 3200000
namespace Go.Proofs.YtcbdfmmiigpddaaDoor
open Go.Ab
structure RowR where
 word:List UInt8
 pts:Int
 nums:Int
 unl:List UInt8
 eqs:List UInt8
 blt:List UInt8
 deriving DecidableEq,Inhabited
def rowE (r:RowR):List AV:=[.str r.word,.int .i64 r.pts,.int .i64 r.nums,.str r.unl,.str r.eqs,.str r.blt]
def rowOf (ps:List (Nat×Operand)):Option RowR:=match ps with
 |[(_,.const (.string w)),(_,.const (.int _ p)),(_,.const (.int _ n)),(_,.const (.string u)),(_,.const (.string e)),(_,.const (.string b))]=>some ⟨w.data.toList,p,n,u.data.toList,e.data.toList,b.data.toList⟩
 |_=>none
def opsRows:List Oper→List RowR
 |[]=>[]
 |o::l=>match o.op with
  |.build _ ps=>match rowOf ps.toList with
   |some r=>r::opsRows l
   |none=>opsRows l
  |_=>opsRows l
def codeRows:Code→List RowR
 |.region _ ops _=>opsRows ops.toList
 |.seq a b=>codeRows a++codeRows b
 |.cond _ a b=>codeRows a++codeRows b
 |.block _ b=>codeRows b
 |.loop b=>codeRows b
 |.scope b=>codeRows b
 |_=>[]
noncomputable def made22:List RowR:=(Tryd.f7.body.map codeRows).getD []
noncomputable def asked22:List RowR:=(Tryd.f8.body.map codeRows).getD []
theorem chunk_rows:∀(l:List RowR) (i:Nat),i<l.length→chunk (l.flatMap rowE) 6 i=rowE (l.getD i default)
 |r::l,0,_=>by
  simp[chunk,rowE]
 |r::l,i+1,h=>by
  have ih:=chunk_rows l i (by simpa using h)
  unfold chunk at ih ⊢
  rw[List.flatMap_cons,show(i+1)*6=(rowE r).length+i*6 by simp[rowE];omega,List.drop_append,List.drop_of_length_le (by omega),List.nil_append]
  simpa using ih
theorem rows_sub {cells:List AV} {n:Nat} {l:List RowR} (h1:cells=l.flatMap rowE) (h2:n=l.length):Sub (.slice 6 n (chunk cells 6) .full) (sl rowE 6 l .view):=by
 subst h2
 refine(Sub.view _ _ _ _).trans (Sub.el fun i hi=>?_)
 rw[h1,chunk_rows l i hi]
theorem cbMade22:Callable Tryd.prog 7:=fun _ _=>by kernel_rfl
theorem made22_c:PCalls Tryd.prog 7 [] (sl rowE 6 made22 .view):=by
 refine pcalls_of_awp tyok cbMade22 Tryd.func7 rfl rfl ?_
 repeat(first|refine wD ?_|refine awp_seq_k fun K hK=>?_|refine wN fun bx=>?_|(refine wH ?_;clear hK))
 refine r1 ?_
 exact rows_sub (by kernel_rfl) (by kernel_rfl)
theorem cbAsked22:Callable Tryd.prog 8:=fun _ _=>by kernel_rfl
theorem asked22_c:PCalls Tryd.prog 8 [] (sl rowE 6 asked22 .view):=by
 refine pcalls_of_awp tyok cbAsked22 Tryd.func8 rfl rfl ?_
 repeat(first|refine wD ?_|refine awp_seq_k fun K hK=>?_|refine wN fun bx=>?_|(refine wH ?_;clear hK))
 refine r1 ?_
 exact rows_sub (by kernel_rfl) (by kernel_rfl)
def findR (rs:List RowR) (w:List UInt8):Option RowR:=match rs with
 |[]=>none
 |r::l=>if r.word=w then some r else findR l w
def row0:RowR:=⟨[],0,0,[],[],[]⟩
def rowD (o:Option RowR):RowR:=match o with
 |some r=>r
 |none=>row0
theorem findR_hit {w:List UInt8}:∀{rs:List RowR} {i:Nat},i<rs.length→(rs.getD i default).word=w→(∀j,j<i→(rs.getD j default).word≠w)→findR rs w=some (rs.getD i default)
 |r::l,0,_,h,_=>by
  simp only[findR]
  rw[if_pos (by simpa using h)]
  rfl
 |r::l,i+1,hi,h,hn=>by
  have h0:=hn 0 (by omega)
  simp only[findR]
  rw[if_neg (by simpa using h0)]
  exact findR_hit (i:=i) (by simpa using hi) (by simpa using h) (fun j hj=>by simpa using hn (j+1) (by omega))
theorem findR_miss {w:List UInt8}:∀{rs:List RowR},(∀j,j<rs.length→(rs.getD j default).word≠w)→findR rs w=none
 |[],_=>rfl
 |r::l,hn=>by
  have h0:=hn 0 (by simp)
  simp only[findR]
  rw[if_neg (by simpa using h0)]
  exact findR_miss fun j hj=>by simpa using hn (j+1) (by simpa using hj)
theorem cbFind22:Callable Tryd.prog 13:=fun _ _=>by kernel_rfl
theorem find22_c (rs:List RowR) (w:List UInt8) (hl:rs.length≤1000000):PCalls Tryd.prog 13 [sl rowE 6 rs .view,.str w] (.tuple [.agg (rowE (rowD (findR rs w))),.bool (findR rs w).isSome]):=by
 refine pcalls_of_awp tyok cbFind22 Tryd.func13 rfl rfl ?_
 ((repeat(first|refine wD ?_|refine awp_seq_k fun K hK=>?_|(refine wH ?_;clear hK)));refine wN fun b4=>?_;(repeat(first|refine wD ?_|refine awp_seq_k fun K hK=>?_|refine wN fun bx=>?_|(refine wH ?_;clear hK))))
 refine awp_loop0 (ι:={i:Nat//i≤rs.length∧∀j,j<i→(rs.getD j default).word≠w}) (fun i=>[(0,sl rowE 6 rs .view),(1,.str w),(4,.ptr b4 0),(6,.int .i64 i.1)])
  (fun _=>[.box b4 37 (.agg (rowE row0))]) (fun i=>rs.length-i.1) ⟨0,Nat.zero_le _,fun j hj=>absurd hj (by omega)⟩ wk ⟨0,rfl⟩ ?_
 rintro⟨i,hi,hn⟩
 simp only at hi hn ⊢
 by_cases hlt:i<rs.length
 ·have hlt':(i:Int)<rs.length:=by omega
  repeat(first|refine wDB ?_|refine awp_seq_k fun K hK=>?_|refine wN fun bx=>?_|(refine wH ?_;clear hK))
  refine awp_cond rfl (fun hb=>?_) (fun hb=>?_)
  ·have he:(rs.getD i default).word=w:=beq_iff_eq.1 hb
   repeat(first|refine wDB ?_|refine awp_seq_k fun K hK=>?_|refine wN fun bx=>?_|(refine wH ?_;clear hK))
   exact fnQ_ret 1 rfl (.cell rfl rfl (List.Mem.head _) rfl trivial (.tmp rfl .nil)) (Sub.of_eq (by rw[findR_hit hlt he hn];rfl)) ⟨rfl,rfl⟩
  ·have he:(rs.getD i default).word≠w:=fun e=>by
    have hb':((rs.getD i default).word==w)=false:=hb
    rw[e]at hb'
    simp at hb'
   repeat(first|refine wDB ?_|refine awp_seq_k fun K hK=>?_|refine wN fun bx=>?_|(refine wH ?_;clear hK))
   refine⟨⟨i+1,hlt,fun j hj=>?_⟩,wk,⟨0,rfl⟩,by simp only;omega⟩
   by_cases e:j=i
   ·rw[e];exact he
   ·exact hn j (by omega)
 ·have hge:¬(i:Int)<rs.length:=by omega
  repeat(first|refine wDB ?_|refine awp_seq_k fun K hK=>?_|refine wN fun bx=>?_|(refine wH ?_;clear hK))
  exact fnQ_ret 1 rfl (.cell rfl rfl (List.Mem.head _) rfl trivial (.tmp rfl .nil)) (Sub.of_eq (by rw[findR_miss fun j hj=>hn j (by omega)];rfl)) ⟨rfl,rfl⟩
def numR (c:UInt8):Int:=if c.toNat=80 then 0 else(c.toNat:Int)-65
def unlR:List UInt8→List (Int×Int)
 |a::b::_::l=>(numR a,numR b)::unlR l
 |[a,b]=>[(numR a,numR b)]
 |_=>[]
def figOf (r:RowR):FigR:=⟨r.word,r.pts,r.nums,unlR r.unl,[],[],[]⟩
def rowB (R:List (List UInt8)→Option FigR) (l:List (List UInt8)) (r:RowR):Bool:=decide (l.getD 0 []=r.word)&&(match R l with
 |none=>false
 |some f=>decide (f.pts=r.pts∧f.nums=r.nums∧f.unl=unlR r.unl))&&(figOk (figOf r)&&Nat.ble r.unl.length 1000)
def tabB (R:List (List UInt8)→Option FigR):List (List (List UInt8))→List RowR→Bool
 |[],[]=>true
 |l::ls,r::rs=>rowB R l r&&tabB R ls rs
 |_,_=>false
theorem made_tab:tabB conR (rowsF made21) made22=true:=by decide +kernel
theorem asked_tab:tabB preR (rowsF asked21) asked22=true:=by decide +kernel
theorem tabB_at {R:List (List UInt8)→Option FigR} (w:List UInt8):∀{ls:List (List (List UInt8))} {rs:List RowR},tabB R ls rs=true→(findR rs w=none∧rowG w ls=none)∨∃r l,findR rs w=some r∧rowG w ls=some l∧rowB R l r=true
 |[],[],_=>.inl ⟨rfl,rfl⟩
 |l::ls,r::rs,h=>by
  simp only[tabB,Bool.and_eq_true]at h
  have hw:l.getD 0 []=r.word:=by
   have:=h.1
   simp only[rowB,Bool.and_eq_true,decide_eq_true_eq]at this
   exact this.1.1
  simp only[findR,rowG,hw]
  by_cases e:r.word=w
  ·rw[if_pos e,if_pos e]
   exact .inr ⟨r,l,rfl,rfl,h.1⟩
  ·rw[if_neg e,if_neg e]
   exact tabB_at w h.2
 |[],_::_,h=>by simp[tabB]at h
 |_::_,[],h=>by simp[tabB]at h
structure Tells (r:RowR) (f:FigR):Prop where
 pts:f.pts=r.pts
 nums:f.nums=r.nums
 unl:f.unl=unlR r.unl
theorem rowB_of {R:List (List UInt8)→Option FigR} {l:List (List UInt8)} {r:RowR} (h:rowB R l r=true):(∃f,R l=some f∧Tells r f)∧figOk (figOf r)=true∧r.unl.length≤1000:=by
 simp only[rowB,Bool.and_eq_true]at h
 obtain⟨⟨_,h2⟩,h3,h4⟩:=h
 refine⟨?_,h3,Nat.le_of_ble_eq_true h4⟩
 cases hR:R l with
 |none=>rw[hR]at h2;cases h2
 |some f=>
  rw[hR]at h2
  simp only[decide_eq_true_eq]at h2
  exact⟨f,rfl,h2.1,h2.2.1,h2.2.2⟩
theorem con_row (w:List UInt8):(findR made22 w=none∧conF w=none)∨∃r f,findR made22 w=some r∧conF w=some f∧Tells r f∧figOk (figOf r)=true∧r.unl.length≤1000:=by
 rcases tabB_at w made_tab with⟨h1,h2⟩|⟨r,l,h1,h2,h3⟩
 ·exact .inl ⟨h1,conF_none h2⟩
 ·obtain⟨⟨f,hf,ht⟩,h4,h5⟩:=rowB_of h3
  exact .inr ⟨r,{f with word:=w},h1,conF_some h2 hf,⟨ht.pts,ht.nums,ht.unl⟩,h4,h5⟩
theorem pre_row (w:List UInt8):(findR asked22 w=none∧preF w=none)∨∃r f,findR asked22 w=some r∧preF w=some f∧Tells r f∧figOk (figOf r)=true∧r.unl.length≤1000:=by
 rcases tabB_at w asked_tab with⟨h1,h2⟩|⟨r,l,h1,h2,h3⟩
 ·exact .inl ⟨h1,preF_none h2⟩
 ·obtain⟨⟨f,hf,ht⟩,h4,h5⟩:=rowB_of h3
  exact .inr ⟨r,{f with word:=w},h1,preF_some h2 hf,⟨ht.pts,ht.nums,ht.unl⟩,h4,h5⟩
theorem made22_len:made22.length≤1000000:=by decide +kernel
theorem asked22_len:asked22.length≤1000000:=by decide +kernel
end Go.Proofs.YtcbdfmmiigpddaaDoor
