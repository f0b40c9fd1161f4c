/-
  Layer 19: what the laws know besides; lengths of lines.
-/
import Derived.Test.YtlnhgdiklfaeeaaDoorLx4
import Derived.Test.YtlnhgdiklfaeeaaDoorRx1
set_option maxRecDepth 100000
set_option maxHeartbeats 1600000
namespace Go.Proofs.YtlnhgdiklfaeeaaDoor
open Go.Ab
theorem tok_M:tokF [77]=some (1,0):=by rw[tokF_eq];kernel_rfl
theorem tok_eq:tokF [61]=some (4,0):=by rw[tokF_eq];kernel_rfl
theorem tok_mid:tokF [109,105,100,112,111,105,110,116]=some (2,0):=by rw[tokF_eq];kernel_rfl
theorem tok_A:tokF [65]=some (1,0):=by rw[tokF_eq];kernel_rfl
theorem tok_B:tokF [66]=some (1,0):=by rw[tokF_eq];kernel_rfl
theorem tok_x9:tokF [120,57]=none:=by rw[tokF_eq];kernel_rfl
theorem tok_ratio:tokF [114,97,116,105,111]=some (2,0):=by rw[tokF_eq];kernel_rfl
theorem tok_02:tokF [48,50]=none:=by rw[tokF_eq];kernel_rfl
theorem lines1:linesR [77,32,61,32,109,105,100,112,111,105,110,116,32,65,32,66,32,35,32,104,97,108,102]=.tuple [linesV [[⟨1,[77],0,1,1⟩,⟨4,[61],0,1,3⟩,⟨2,[109,105,100,112,111,105,110,116],0,1,5⟩,⟨1,[65],0,1,14⟩,⟨1,[66],0,1,16⟩]],placeV 0 0,.int .i64 0]:=by
 refine linesR_inr (by decide) ?_
 unfold linesF
 rw[show splitC 10 [77,32,61,32,109,105,100,112,111,105,110,116,32,65,32,66,32,35,32,104,97,108,102]=[[77,32,61,32,109,105,100,112,111,105,110,116,32,65,32,66,32,35,32,104,97,108,102]] by kernel_rfl]
 simp only[linesG]
 rw[show wordsF [77,32,61,32,109,105,100,112,111,105,110,116,32,65,32,66,32,35,32,104,97,108,102]=[(1,[77]),(3,[61]),(5,[109,105,100,112,111,105,110,116]),(14,[65]),(16,[66])] by kernel_rfl]
 simp only[toksF,tok_M,tok_eq,tok_mid,tok_A,tok_B]
 rfl
theorem lines2:linesR [120,57]=.tuple [linesV [],placeV 1 1,.int .i64 4]:=by
 refine linesR_inl (by decide) ?_
 unfold linesF
 rw[show splitC 10 [120,57]=[[120,57]] by kernel_rfl]
 simp only[linesG]
 rw[show wordsF [120,57]=[(1,[120,57])] by kernel_rfl]
 simp only[toksF,tok_x9]
theorem lines3:linesR [114,97,116,105,111,32,48,50]=.tuple [linesV [],placeV 1 7,.int .i64 4]:=by
 refine linesR_inl (by decide) ?_
 unfold linesF
 rw[show splitC 10 [114,97,116,105,111,32,48,50]=[[114,97,116,105,111,32,48,50]] by kernel_rfl]
 simp only[linesG]
 rw[show wordsF [114,97,116,105,111,32,48,50]=[(1,[114,97,116,105,111]),(7,[48,50])] by kernel_rfl]
 simp only[toksF,tok_ratio,tok_02]
theorem cbKn:Callable Tryd.prog 4:=fun _ _=>by kernel_rfl
theorem known19_c:PCalls Tryd.prog 4 [] (.bool true):=by
 refine pcalls_of_awp tyok cbKn Tryd.func4 rfl rfl ?_
 have g1:=lines_c _ (by decide) |> fun h=>lines1▸h
 have g2:=lines_c _ (by decide) |> fun h=>lines2▸h
 have g3:=lines_c _ (by decide) |> fun h=>lines3▸h
 repeat(first|refine wD ?_|refine awp_seq_k fun K hK=>?_|refine wN fun bx=>?_|refine qpc rfl rfl rfl (g1) ?_|refine qpc rfl rfl rfl (g2) ?_|refine qpc rfl rfl rfl (g3) ?_|refine qpo rfl rfl rfl rfl rfl rfl (fun _=>g1) ?_|refine qpo rfl rfl rfl rfl rfl rfl (fun _=>g2) ?_|refine qpo rfl rfl rfl rfl rfl rfl (fun _=>g3) ?_|(refine wH ?_;clear hK))
 refine r1 ?_
 exact Sub.refl _
theorem linesG_len:∀(ps:List (List UInt8)) (n:Nat) (r:List (List TokR)) (B:Nat),(∀p∈ps,p.length≤B)→linesG n ps=.inr r→r.length≤ps.length∧∀l∈r,l.length≤B+1
 |[],n,r,B,_,h=>by
  simp only[linesG,Sum.inr.injEq]at h
  subst h
  exact⟨Nat.le_refl _,fun l hl=>absurd hl (List.not_mem_nil)⟩
 |p::ps,n,r,B,hp,h=>by
  simp only[linesG]at h
  split at h
  ·cases h
  ·rename_i ts ht
   split at h
   ·cases h
   ·rename_i r' hr
    have ih:=linesG_len ps (n+1) r' B (fun q hq=>hp q (List.mem_cons_of_mem _ hq)) hr
    have hts:ts.length≤B+1:=by
     rw[toksF_len _ _ _ ht]
     refine Nat.le_trans (wordsG_len _ _) (Nat.le_trans (splitC_count _ _) ?_)
     exact Nat.succ_le_succ (hp p (List.mem_cons_self ..))
    simp only[Sum.inr.injEq]at h
    split at h
    ·subst h
     exact⟨Nat.le_succ_of_le ih.1,ih.2⟩
    ·subst h
     refine⟨Nat.succ_le_succ ih.1,fun l hl=>?_⟩
     rcases List.mem_cons.1 hl with rfl|hl
     ·exact hts
     ·exact ih.2 l hl
theorem linesR_form (s:List UInt8) (hs:s.length≤100000000):∃(r:List (List TokR)) (l c e:Int),linesR s=.tuple [linesV r,placeV l c,.int .i64 e]∧r.length≤1000000000∧∀l∈r,l.length≤1000000000:=by
 by_cases h:s.length>65536
 ·exact⟨[],0,0,3,by unfold linesR;rw[if_pos h],by simp,fun l hl=>absurd hl (List.not_mem_nil)⟩
 ·cases hf:linesF s with
  |inl p=>exact⟨[],p.1,p.2,4,linesR_inl h hf,by simp,fun l hl=>absurd hl (List.not_mem_nil)⟩
  |inr r=>
   have:=linesG_len _ _ _ s.length (fun p hp=>splitC_piece 10 s p hp) hf
   have h2:=splitC_count 10 s
   exact⟨r,0,0,0,linesR_inr h hf,by omega,fun l hl=>by have:=this.2 l hl;omega⟩
end Go.Proofs.YtlnhgdiklfaeeaaDoor
