/-
  The test that two scripts' words are the same (porismref19.Same).
-/
import Derived.Test.YtlnhgdiklfaeeaaDoorLx4
namespace Go.Proofs.YtlnhgdiklfaeeaaDoor
open Go.Ab
def eqT (a b:TokR):Bool:=(a.k==b.k)&&((a.w==b.w)&&((a.n==b.n)&&((((a.ln:Int)==(b.ln:Int))&&(((a.co:Int)==(b.co:Int))&&true))&&true)))
theorem eqT_iff (a b:TokR):eqT a b=true↔a=b:=by
 obtain⟨k,w,n,l,c⟩:=a
 obtain⟨k',w',n',l',c'⟩:=b
 simp only[eqT,Bool.and_eq_true,beq_iff_eq,Bool.and_true,TokR.mk.injEq]
 constructor
 ·rintro⟨h1,h2,h3,h4,h5⟩
  exact⟨h1,h2,h3,by omega,by omega⟩
 ·rintro⟨h1,h2,h3,h4,h5⟩
  exact⟨h1,h2,h3,by omega,by omega⟩
theorem getD_def {α:Type} [Inhabited α] {l:List α} {i:Nat} (h:i<l.length):l.getD i default=l[i]:=by simp[List.getD,h]
theorem list_ext_take {α:Type} {a b:List α} (hl:a.length=b.length) (h:a.take a.length=b.take a.length):a=b:=by
 rw[List.take_length,hl,List.take_length]at h
 exact h
theorem take_step {α:Type} [Inhabited α] {a b:List α} {k:Nat} (ha:k<a.length) (hb:k<b.length) (h:a.take k=b.take k) (e:a.getD k default=b.getD k default):a.take (k+1)=b.take (k+1):=by
 rw[getD_def ha,getD_def hb]at e
 rw[List.take_succ_eq_append_getElem ha,List.take_succ_eq_append_getElem hb,h,e]
theorem cbSame:Callable Tryd.prog 7:=fun _ _=>by kernel_rfl
set_option maxHeartbeats 1600000 in
theorem rsame_c (a b:List (List TokR)) (ha:a.length≤1000000000) (hlb:∀l∈a,l.length≤1000000000):PCalls Tryd.prog 7 [linesV a,linesV b] (.bool (decide (a=b))):=by
 refine pcalls_of_awp tyok cbSame Tryd.func7 rfl rfl ?_
 have fin:∀{c:Bool},decide (a=b)=c→Sub (.bool c) (.bool (decide (a=b))):=fun h=>Sub.of_eq (by rw[h])
 simp only[linesV]
 by_cases hl:a.length=b.length
 ·repeat(first|refine wD ?_|refine awp_seq_k fun K hK=>?_|refine wN fun bx=>?_|(refine wH ?_;clear hK))
  refine awp_cond rfl (fun hb=>absurd hb (by simp[hl])) (fun _=>?_)
  repeat(first|refine wD ?_|refine awp_seq_k fun K hK=>?_|refine wN fun bx=>?_|(refine wH ?_;clear hK))
  refine awp_loop0 (ι:={x:Nat//x≤a.length∧a.take x=b.take x}) (fun x=>[(5,.int .i64 x.1),(0,sl lineE 1 a .view),(1,sl lineE 1 b .view)]) (fun _=>[]) (fun x=>a.length-x.1) ⟨0,Nat.zero_le _,rfl⟩ ?_ dp ?_
  ·(repeat(first|exact True.intro|refine⟨⟨_,rfl,Sub.refl _⟩,?_⟩|refine⟨⟨_,rfl,Sub.nilso _ _⟩,?_⟩|refine⟨⟨_,rfl,sl_tail _ _ _ _ _⟩,?_⟩|refine⟨⟨_,rfl,Sub.of_eq (by first|rfl|(congr 1;first|omega|(simp only;omega))|(simp;done)|(simp;omega))⟩,?_⟩|refine⟨⟨_,rfl,Sub.view _ _ _ _⟩,?_⟩))
  rintro⟨i,hi,hf⟩
  simp only at hi hf ⊢
  repeat(first|refine wD ?_|refine awp_seq_k fun K hK=>?_|refine wN fun bx=>?_|(refine wH ?_;clear hK))
  refine awp_cond rfl (fun hb=>?_) (fun hb=>?_)
  ·have hlt:i<a.length:=by simpa using hb
   have hltb:i<b.length:=by omega
   have hx:=hlb (a.getD i default) (by rw[getD_def hlt];exact List.getElem_mem _)
   repeat(first|refine wD ?_|refine awp_seq_k fun K hK=>?_|refine wN fun bx=>?_|(refine wH ?_;clear hK))
   refine awp_cond rfl (fun hb2=>?_) (fun hb2=>?_)
   ·repeat(first|refine wD ?_|refine awp_seq_k fun K hK=>?_|refine wN fun bx=>?_|(refine wH ?_;clear hK))
    refine r1 ?_
    refine fin (decide_eq_false ?_)
    rintro rfl
    simp at hb2
   ·have hll:(a.getD i default).length=(b.getD i default).length:=by
     simp only[Int.toNat_natCast,bne_eq_false_iff_eq]at hb2
     omega
    generalize hA:a.getD i default=A at*
    generalize hB:b.getD i default=B at*
    repeat(first|refine wD ?_|refine awp_seq_k fun K hK=>?_|refine wN fun bx=>?_|(refine wH ?_;clear hK))
    refine awp_loop0 (ι:={x:Nat//x≤A.length∧A.take x=B.take x}) (fun x=>[(6,.int .i64 x.1),(5,.int .i64 i),(0,sl lineE 1 a .view),(1,sl lineE 1 b .view)]) (fun _=>[]) (fun x=>A.length-x.1) ⟨0,Nat.zero_le _,rfl⟩ ?_ dp ?_
    ·(repeat(first|exact True.intro|refine⟨⟨_,rfl,Sub.refl _⟩,?_⟩|refine⟨⟨_,rfl,Sub.nilso _ _⟩,?_⟩|refine⟨⟨_,rfl,sl_tail _ _ _ _ _⟩,?_⟩|refine⟨⟨_,rfl,Sub.of_eq (by first|rfl|(congr 1;first|omega|(simp only;omega))|(simp;done)|(simp;omega))⟩,?_⟩|refine⟨⟨_,rfl,Sub.view _ _ _ _⟩,?_⟩))
    rintro⟨k,hk,hg⟩
    simp only at hk hg ⊢
    repeat(first|refine wD ?_|refine awp_seq_k fun K hK=>?_|refine wN fun bx=>?_|(refine wH ?_;clear hK))
    refine awp_cond rfl (fun hb3=>?_) (fun hb3=>?_)
    ·have hkA:k<A.length:=by
      rw[←hA]
      simpa using hb3
     have hkB:k<B.length:=by omega
     have hkA':k<(a.getD ((i:Int)).toNat default).length:=by rw[Int.toNat_natCast,hA];exact hkA
     have hkB':k<(b.getD ((i:Int)).toNat default).length:=by rw[Int.toNat_natCast,hB];exact hkB
     repeat(first|refine wD ?_|refine awp_seq_k fun K hK=>?_|refine wN fun bx=>?_|(refine wH ?_;clear hK))
     refine awp_cond rfl (fun hb4=>?_) (fun hb4=>?_)
     ·have hne:(!eqT (A.getD k default) (B.getD k default))=true:=by rw[←hA,←hB];exact hb4
      repeat(first|refine wD ?_|refine awp_seq_k fun K hK=>?_|refine wN fun bx=>?_|(refine wH ?_;clear hK))
      refine r1 ?_
      refine fin (decide_eq_false ?_)
      rintro rfl
      rw[←hA,←hB,(eqT_iff _ _).2 rfl]at hne
      cases hne
     ·have hne:(!eqT (A.getD k default) (B.getD k default))=false:=by rw[←hA,←hB];exact hb4
      have he:A.getD k default=B.getD k default:=(eqT_iff _ _).1 (by simpa using hne)
      repeat(first|refine wD ?_|refine awp_seq_k fun K hK=>?_|refine wN fun bx=>?_|(refine wH ?_;clear hK))
      refine⟨⟨k+1,hkA,take_step hkA hkB hg he⟩,?_,dp,?_⟩
      ·(repeat(first|exact True.intro|refine⟨⟨_,rfl,Sub.refl _⟩,?_⟩|refine⟨⟨_,rfl,Sub.nilso _ _⟩,?_⟩|refine⟨⟨_,rfl,sl_tail _ _ _ _ _⟩,?_⟩|refine⟨⟨_,rfl,Sub.of_eq (by first|rfl|(congr 1;first|omega|(simp only;omega))|(simp;done)|(simp;omega))⟩,?_⟩|refine⟨⟨_,rfl,Sub.view _ _ _ _⟩,?_⟩))
      ·simp only;omega
    ·have hke:k=A.length:=by
      have:¬k<A.length:=by
       rw[←hA]
       simpa using hb3
      omega
     subst hke
     have hAB:A=B:=list_ext_take hll hg
     repeat(first|refine wD ?_|refine awp_seq_k fun K hK=>?_|refine wN fun bx=>?_|(refine wH ?_;clear hK))
     refine⟨⟨i+1,hlt,take_step hlt hltb hf (by rw[hA,hB,hAB])⟩,?_,dp,?_⟩
     ·(repeat(first|exact True.intro|refine⟨⟨_,rfl,Sub.refl _⟩,?_⟩|refine⟨⟨_,rfl,Sub.nilso _ _⟩,?_⟩|refine⟨⟨_,rfl,sl_tail _ _ _ _ _⟩,?_⟩|refine⟨⟨_,rfl,Sub.of_eq (by first|rfl|(congr 1;first|omega|(simp only;omega))|(simp;done)|(simp;omega))⟩,?_⟩|refine⟨⟨_,rfl,Sub.view _ _ _ _⟩,?_⟩))
     ·simp only;omega
  ·have hie:i=a.length:=by
    have:¬(i:Int)<a.length:=by simpa using hb
    omega
   subst hie
   have hab:a=b:=list_ext_take hl hf
   repeat(first|refine wD ?_|refine awp_seq_k fun K hK=>?_|refine wN fun bx=>?_|(refine wH ?_;clear hK))
   refine r1 ?_
   exact fin (decide_eq_true hab)
 ·repeat(first|refine wD ?_|refine awp_seq_k fun K hK=>?_|refine wN fun bx=>?_|(refine wH ?_;clear hK))
  refine awp_cond rfl (fun _=>?_) (fun hb=>absurd hb (by simp;omega))
  repeat(first|refine wD ?_|refine awp_seq_k fun K hK=>?_|refine wN fun bx=>?_|(refine wH ?_;clear hK))
  refine r1 ?_
  refine fin (decide_eq_false ?_)
  rintro rfl
  exact hl rfl
end Go.Proofs.YtlnhgdiklfaeeaaDoor
