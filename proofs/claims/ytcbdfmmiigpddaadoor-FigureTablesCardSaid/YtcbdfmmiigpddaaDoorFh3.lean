/-
  The document's figures (porismref21): one figure is the same as itself.
-/
import Derived.Test.YtcbdfmmiigpddaaDoorFh1
set_option maxRecDepth 100000
set_option maxHeartbeats 6400000
namespace Go.Proofs.YtcbdfmmiigpddaaDoor
open Go.Ab
structure FigL (f:FigR):Prop where
 unl:f.unl.length≤1000000
 bp:f.bp.length≤1000000
 eqs:f.eqs.length≤1000000
 eq:∀l∈f.eqs,l.length≤1000000
 fs:∀l∈f.eqs,∀p∈l,p.fs.length≤1000000
theorem getD_mem {α:Type} [Inhabited α] {l:List α} {i:Nat} (h:i<l.length):l.getD i default∈l:=by
 rw[List.getD_eq_getElem?_getD,List.getElem?_eq_getElem h]
 exact List.getElem_mem h
theorem cbSame21:Callable Tryd.prog 10:=fun _ _=>by kernel_rfl
theorem same21_c (f:FigR) (hl:FigL f):PCalls Tryd.prog 10 [.agg (figE f),.agg (figE f)] (.bool true):=by
 refine pcalls_of_awp tyok cbSame21 Tryd.func10 rfl rfl ?_
 have u1:=hl.unl
 have u2:=hl.bp
 have u3:=hl.eqs
 ((repeat(first|refine wD ?_|refine awp_seq_k fun K hK=>?_|(refine wH ?_;clear hK)));refine wN fun b2=>?_;(repeat(first|refine wD ?_|refine awp_seq_k fun K hK=>?_|(refine wH ?_;clear hK)));refine wN fun b3=>?_)
 (((repeat(first|refine wT ?_|refine wN fun bx=>?_)));(try refine wP ?_);repeat(refine wH ?_;clear hK))
 refine awp_freeze [] (s:=3) rfl rfl ?_
 refine awp_freeze [] (s:=2) rfl rfl ?_
 unfold figE
 repeat(first|refine wDB ?_|refine awp_seq_k fun K hK=>?_|refine wN fun bx=>?_|(refine wH ?_;clear hK))
 refine awp_cond rfl (fun hb=>absurd hb (by simp)) (fun _=>?_)
 repeat(first|refine wDB ?_|refine awp_seq_k fun K hK=>?_|refine wN fun bx=>?_|(refine wH ?_;clear hK))
 refine awp_loop0 (ι:={i:Nat//i≤f.unl.length})
  (fun i=>[(2,.rptr [.str f.word,.int .i64 f.pts,.int .i64 f.nums,sl pairE 2 f.unl .view,sl eqE 1 f.eqs .view,.str f.bw,sl numE 1 f.bp .view]),(3,.rptr [.str f.word,.int .i64 f.pts,.int .i64 f.nums,sl pairE 2 f.unl .view,sl eqE 1 f.eqs .view,.str f.bw,sl numE 1 f.bp .view]),(5,.int .i64 i.1)])
  (fun _=>[]) (fun i=>f.unl.length-i.1) ⟨0,Nat.zero_le _⟩ wk dp ?_
 rintro⟨i,hi⟩
 simp only at hi ⊢
 by_cases hlt:i<f.unl.length
 ·have hlt':(i:Int)<f.unl.length:=by omega
  repeat(first|refine wDB ?_|refine awp_seq_k fun K hK=>?_|refine wN fun bx=>?_|(refine wH ?_;clear hK))
  refine qneA2 tyok (by kernel_rfl) ?_
  repeat(first|refine wDB ?_|refine awp_seq_k fun K hK=>?_|refine wN fun bx=>?_|(refine wH ?_;clear hK))
  refine awp_cond rfl (fun hb=>absurd hb (by simp)) (fun _=>?_)
  repeat(first|refine wDB ?_|refine awp_seq_k fun K hK=>?_|refine wN fun bx=>?_|(refine wH ?_;clear hK))
  exact⟨⟨i+1,hlt⟩,wk,dp,by simp only;omega⟩
 have hge:¬(i:Int)<f.unl.length:=by omega
 repeat(first|refine wDB ?_|refine awp_seq_k fun K hK=>?_|refine wN fun bx=>?_|(refine wH ?_;clear hK))
 refine awp_loop0 (ι:={i:Nat//i≤f.bp.length})
  (fun i=>[(2,.rptr [.str f.word,.int .i64 f.pts,.int .i64 f.nums,sl pairE 2 f.unl .view,sl eqE 1 f.eqs .view,.str f.bw,sl numE 1 f.bp .view]),(3,.rptr [.str f.word,.int .i64 f.pts,.int .i64 f.nums,sl pairE 2 f.unl .view,sl eqE 1 f.eqs .view,.str f.bw,sl numE 1 f.bp .view]),(6,.int .i64 i.1)])
  (fun _=>[]) (fun i=>f.bp.length-i.1) ⟨0,Nat.zero_le _⟩ wk dp ?_
 rintro⟨j,hj⟩
 simp only at hj ⊢
 by_cases hlt2:j<f.bp.length
 ·have hlt':(j:Int)<f.bp.length:=by omega
  repeat(first|refine wDB ?_|refine awp_seq_k fun K hK=>?_|refine wN fun bx=>?_|(refine wH ?_;clear hK))
  exact⟨⟨j+1,hlt2⟩,wk,dp,by simp only;omega⟩
 have hge2:¬(j:Int)<f.bp.length:=by omega
 repeat(first|refine wDB ?_|refine awp_seq_k fun K hK=>?_|refine wN fun bx=>?_|(refine wH ?_;clear hK))
 refine awp_loop0 (ι:={i:Nat//i≤f.eqs.length})
  (fun i=>[(2,.rptr [.str f.word,.int .i64 f.pts,.int .i64 f.nums,sl pairE 2 f.unl .view,sl eqE 1 f.eqs .view,.str f.bw,sl numE 1 f.bp .view]),(3,.rptr [.str f.word,.int .i64 f.pts,.int .i64 f.nums,sl pairE 2 f.unl .view,sl eqE 1 f.eqs .view,.str f.bw,sl numE 1 f.bp .view]),(7,.int .i64 i.1)])
  (fun _=>[]) (fun i=>f.eqs.length-i.1) ⟨0,Nat.zero_le _⟩ wk dp ?_
 rintro⟨k,hk⟩
 simp only at hk ⊢
 by_cases hlt3:k<f.eqs.length
 rotate_left
 ·have hge3:¬(k:Int)<f.eqs.length:=by omega
  repeat(first|refine wDB ?_|refine awp_seq_k fun K hK=>?_|refine wN fun bx=>?_|(refine wH ?_;clear hK))
  refine r1 ?_
  exact Sub.refl _
 have hlt3':(k:Int)<f.eqs.length:=by omega
 have hml:=getD_mem hlt3
 have u4:(f.eqs.getD ((k:Int)).toNat default).length≤1000000:=hl.eq _ hml
 have u5:∀p∈f.eqs.getD ((k:Int)).toNat default,p.fs.length≤1000000:=hl.fs _ hml
 repeat(first|refine wDB ?_|refine awp_seq_k fun K hK=>?_|refine wN fun bx=>?_|(refine wH ?_;clear hK))
 refine awp_loop0 (ι:={i:Nat//i≤(f.eqs.getD ((k:Int)).toNat default).length})
  (fun i=>[(2,.rptr [.str f.word,.int .i64 f.pts,.int .i64 f.nums,sl pairE 2 f.unl .view,sl eqE 1 f.eqs .view,.str f.bw,sl numE 1 f.bp .view]),(3,.rptr [.str f.word,.int .i64 f.pts,.int .i64 f.nums,sl pairE 2 f.unl .view,sl eqE 1 f.eqs .view,.str f.bw,sl numE 1 f.bp .view]),(7,.int .i64 k),(8,.int .i64 i.1)])
  (fun _=>[]) (fun i=>(f.eqs.getD ((k:Int)).toNat default).length-i.1) ⟨0,Nat.zero_le _⟩ wk dp ?_
 rintro⟨m,hm⟩
 simp only at hm ⊢
 by_cases hlt4:m<(f.eqs.getD ((k:Int)).toNat default).length
 rotate_left
 ·have hge4:¬(m:Int)<(f.eqs.getD ((k:Int)).toNat default).length:=by omega
  repeat(first|refine wDB ?_|refine awp_seq_k fun K hK=>?_|refine wN fun bx=>?_|(refine wH ?_;clear hK))
  exact⟨⟨k+1,hlt3⟩,wk,dp,by simp only;omega⟩
 have hlt4':(m:Int)<(f.eqs.getD ((k:Int)).toNat default).length:=by omega
 have u6:((f.eqs.getD ((k:Int)).toNat default).getD ((m:Int)).toNat default).fs.length≤1000000:=u5 _ (getD_mem hlt4)
 repeat(first|refine wKB ?_|refine awp_seq_k fun K hK=>?_|refine wN fun bx=>?_|(refine wH ?_;clear hK))
 refine(have hr:∀b9 b10 T' H',Weak T' [(9,.ptr b9 0),(10,.ptr b10 0),(2,.rptr [.str f.word,.int .i64 f.pts,.int .i64 f.nums,sl pairE 2 f.unl .view,sl eqE 1 f.eqs .view,.str f.bw,sl numE 1 f.bp .view]),(3,.rptr [.str f.word,.int .i64 f.pts,.int .i64 f.nums,sl pairE 2 f.unl .view,sl eqE 1 f.eqs .view,.str f.bw,sl numE 1 f.bp .view]),(7,.int .i64 k),(8,.int .i64 m)]→
  List.Perm (α:=Ent) H' [.box b9 44 (.agg (pieceE ((f.eqs.getD ((k:Int)).toNat default).getD ((m:Int)).toNat default))),.box b10 44 (.agg (pieceE ((f.eqs.getD ((k:Int)).toNat default).getD ((m:Int)).toNat default)))]→K T' H':=fun b9 b10=>cutKP hK ?_;?_)
 rotate_left
 ·clear hK
  refine areg_allocs mixed tyok (List.range 16) [16,17] [18,19] (by kernel_rfl) (by kernel_rfl) ?_
  repeat(first|refine wDB ?_|refine awp_seq_k fun K hK=>?_|refine wN fun bx=>?_|(refine wH ?_;clear hK))
  intro x hx
  have hx':x∈([16,17]:List Nat):=hx
  simp only[List.mem_cons,List.mem_nil_iff,or_false]at hx'
  rcases hx' with rfl|rfl
  ·refine one_alloc tyok rfl rfl rfl rfl rfl fun b9=>?_
   intro x hx
   have hx':x∈([17]:List Nat):=hx
   simp only[List.mem_cons,List.mem_nil_iff,or_false]at hx'
   subst hx'
   refine one_alloc tyok rfl rfl rfl rfl rfl fun b10=>?_
   refine allO_zero ?_
   repeat(first|refine wD ?_|refine awp_seq_k fun K hK=>?_|refine wN fun bx=>?_|(refine wH ?_;clear hK))
   refine hr b9 b10 _ _ wk ?_
   first|exact List.Perm.refl _|exact List.Perm.swap _ _ _
  ·refine one_alloc tyok rfl rfl rfl rfl rfl fun b10=>?_
   intro x hx
   have hx':x∈([16]:List Nat):=hx
   simp only[List.mem_cons,List.mem_nil_iff,or_false]at hx'
   subst hx'
   refine one_alloc tyok rfl rfl rfl rfl rfl fun b9=>?_
   refine allO_zero ?_
   repeat(first|refine wD ?_|refine awp_seq_k fun K hK=>?_|refine wN fun bx=>?_|(refine wH ?_;clear hK))
   refine hr b9 b10 _ _ wk ?_
   first|exact List.Perm.refl _|exact List.Perm.swap _ _ _
 clear hK
 generalize (f.eqs.getD ((k:Int)).toNat default).getD ((m:Int)).toNat default=p at u6 ⊢
 refine awp_freeze [] (s:=9) rfl rfl ?_
 refine awp_freeze [] (s:=10) rfl rfl ?_
 unfold pieceE
 repeat(first|refine wDB ?_|refine awp_seq_k fun K hK=>?_|refine wN fun bx=>?_|(refine wH ?_;clear hK))
 refine awp_loop0 (ι:={i:Nat//i≤p.fs.length})
  (fun i=>[(9,.rptr [.int .i64 p.n,.int .i64 p.f,sl formE 5 p.fs .view]),(10,.rptr [.int .i64 p.n,.int .i64 p.f,sl formE 5 p.fs .view]),(2,.rptr [.str f.word,.int .i64 f.pts,.int .i64 f.nums,sl pairE 2 f.unl .view,sl eqE 1 f.eqs .view,.str f.bw,sl numE 1 f.bp .view]),(3,.rptr [.str f.word,.int .i64 f.pts,.int .i64 f.nums,sl pairE 2 f.unl .view,sl eqE 1 f.eqs .view,.str f.bw,sl numE 1 f.bp .view]),(7,.int .i64 k),(8,.int .i64 m),(11,.int .i64 i.1)])
  (fun _=>[]) (fun i=>p.fs.length-i.1) ⟨0,Nat.zero_le _⟩ wk dp ?_
 rintro⟨n,hn⟩
 simp only at hn ⊢
 by_cases hlt5:n<p.fs.length
 ·have hlt5':(n:Int)<p.fs.length:=by omega
  repeat(first|refine wDB ?_|refine awp_seq_k fun K hK=>?_|refine wN fun bx=>?_|(refine wH ?_;clear hK))
  refine awp_cond rfl (fun hb=>absurd hb (by simp)) (fun _=>?_)
  repeat(first|refine wDB ?_|refine awp_seq_k fun K hK=>?_|refine wN fun bx=>?_|(refine wH ?_;clear hK))
  exact⟨⟨n+1,hlt5⟩,wk,dp,by simp only;omega⟩
 have hge5:¬(n:Int)<p.fs.length:=by omega
 repeat(first|refine wDB ?_|refine awp_seq_k fun K hK=>?_|refine wN fun bx=>?_|(refine wH ?_;clear hK))
 exact⟨⟨m+1,hlt4⟩,wk,dp,by simp only;omega⟩
end Go.Proofs.YtcbdfmmiigpddaaDoor
