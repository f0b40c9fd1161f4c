/-
  LexerWord returns true.
-/
import Derived.Test.YtgbmanmcioailaaDoorLw
import Derived.Test.YtgbmanmcioailaaDoorLk
namespace Go.Proofs.YtgbmanmcioailaaDoor
open Go.Ab

theorem cbLwd : Callable Tryd.prog 13 := fun _ _ => by kernel_rfl
set_option maxHeartbeats 6400000 in
set_option maxRecDepth 100000 in
theorem lexerWord_c (w x : List UInt8) : PCalls Tryd.prog 13 [.str w, .str x] (.bool true) := by
  refine pcalls_of_awp tyok cbLwd Tryd.func13 rfl rfl ?_
  by_cases hw : w.length > 100
  · have hw' : (w.length : Int) > 100 := by omega
    repeat (first | refine wKB ?_ | refine awp_seq_k (fun K hK => ?_) | refine areg_text mixed tyok (by decide +kernel) ?_ | refine qal tyok (fun bx => ?_) | refine qbox (fun bx => ?_) | refine qboxV (fun bx => ?_) | refine TR.pcall rfl rfl rfl rfl True.intro rfl rfl (known19_c) ?_ | refine pco rfl rfl rfl rfl rfl rfl rfl rfl (fun _ => known19_c) ?_ | ((repeat ((fail_if_success (refine hK _ _ ?_)); clear hK)); refine hK _ _ ?_; clear hK))
    refine r1 ?_
    exact Sub.refl _
  by_cases hx : x.length > 100
  · have hx' : (x.length : Int) > 100 := by omega
    have hw' : ¬ (w.length : Int) > 100 := by omega
    repeat (first | refine wKB ?_ | refine awp_seq_k (fun K hK => ?_) | refine areg_text mixed tyok (by decide +kernel) ?_ | refine qal tyok (fun bx => ?_) | refine qbox (fun bx => ?_) | refine qboxV (fun bx => ?_) | refine TR.pcall rfl rfl rfl rfl True.intro rfl rfl (known19_c) ?_ | refine pco rfl rfl rfl rfl rfl rfl rfl rfl (fun _ => known19_c) ?_ | ((repeat ((fail_if_success (refine hK _ _ ?_)); clear hK)); refine hK _ _ ?_; clear hK))
    refine r1 ?_
    exact Sub.refl _
  have hw' : ¬ (w.length : Int) > 100 := by omega
  have hx' : ¬ (x.length : Int) > 100 := by omega
  cases w with
  | nil =>
    repeat (first | refine wKB ?_ | refine awp_seq_k (fun K hK => ?_) | refine areg_text mixed tyok (by decide +kernel) ?_ | refine qal tyok (fun bx => ?_) | refine qbox (fun bx => ?_) | refine qboxV (fun bx => ?_) | refine TR.pcall rfl rfl rfl rfl True.intro rfl rfl (known19_c) ?_ | refine pco rfl rfl rfl rfl rfl rfl rfl rfl (fun _ => known19_c) ?_ | ((repeat ((fail_if_success (refine hK _ _ ?_)); clear hK)); refine hK _ _ ?_; clear hK))
    refine r1 ?_
    exact Sub.refl _
  | cons b w0 =>
    cases x with
    | nil =>
      repeat (first | refine wKB ?_ | refine awp_seq_k (fun K hK => ?_) | refine areg_text mixed tyok (by decide +kernel) ?_ | refine qal tyok (fun bx => ?_) | refine qbox (fun bx => ?_) | refine qboxV (fun bx => ?_) | refine TR.pcall rfl rfl rfl rfl True.intro rfl rfl (known19_c) ?_ | refine pco rfl rfl rfl rfl rfl rfl rfl rfl (fun _ => known19_c) ?_ | ((repeat ((fail_if_success (refine hK _ _ ?_)); clear hK)); refine hK _ _ ?_; clear hK))
      refine r1 ?_
      exact Sub.refl _
    | cons c x0 =>
      have ga := containsAny2_c ((b :: w0) ++ (c :: x0)) (by simp at hw hx ⊢; omega)
      repeat (first | refine wKB ?_ | refine awp_seq_k (fun K hK => ?_) | refine areg_text mixed tyok (by decide +kernel) ?_ | refine qal tyok (fun bx => ?_) | refine qbox (fun bx => ?_) | refine qboxV (fun bx => ?_) | refine TR.pcall rfl rfl rfl rfl True.intro rfl rfl (known19_c) ?_ | refine TR.pcall rfl rfl rfl rfl True.intro rfl rfl (ga) ?_ | refine pco rfl rfl rfl rfl rfl rfl rfl rfl (fun _ => known19_c) ?_ | refine pco rfl rfl rfl rfl rfl rfl rfl rfl (fun _ => ga) ?_ | ((repeat ((fail_if_success (refine hK _ _ ?_)); clear hK)); refine hK _ _ ?_; clear hK))
      refine awp_cond rfl (fun _ => ?_) (fun hb => ?_)
      · repeat (first | refine wK ?_ | refine awp_seq_k (fun K hK => ?_) | refine areg_text mixed tyok (by decide +kernel) ?_ | refine qal tyok (fun bx => ?_) | refine qbox (fun bx => ?_) | refine qboxV (fun bx => ?_) | refine TR.pcall rfl rfl rfl rfl True.intro rfl rfl (known19_c) ?_ | refine pco rfl rfl rfl rfl rfl rfl rfl rfl (fun _ => known19_c) ?_ | ((repeat ((fail_if_success (refine hK _ _ ?_)); clear hK)); refine hK _ _ ?_; clear hK))
        refine r1 ?_
        exact Sub.refl _
      have hpl : plainW (b :: w0) ∧ plainW (c :: x0) := by
        simp only [Bool.or_eq_false_iff] at hb
        obtain ⟨⟨h1, h2⟩, h3⟩ := hb
        obtain ⟨p1, p2, p3, p4⟩ := plain_of h3
        refine ⟨⟨by simp, fun e => ?_, p1, p2⟩, ⟨by simp, fun e => ?_, p3, p4⟩⟩
        · rw [show (b :: w0).getD (Int.toNat 0) 0 = 35 from e] at h1
          exact absurd h1 (by decide)
        · rw [show (c :: x0).getD (Int.toNat 0) 0 = 35 from e] at h2
          exact absurd h2 (by decide)
      obtain ⟨hp, hq⟩ := hpl
      have hwl : (b :: w0).length ≤ 100 := by omega
      have hxl : (c :: x0).length ≤ 100 := by omega
      have hw0 : w0.length ≤ 99 := by simp at hwl; omega
      have hx0 : x0.length ≤ 99 := by simp at hxl; omega
      have g1 := tok_c (b :: w0) (by omega)
      have g2 := tok_c (c :: x0) (by omega)
      have g3 := lines_c ([32, 32] ++ (b :: w0) ++ remk) (by simp [remk] at hwl ⊢; omega)
      have g4 := lines_c ((b :: w0) ++ [32] ++ (c :: x0)) (by simp at hwl hxl ⊢; omega)
      cases ht : tokF (b :: w0) with
      | none =>
        obtain ⟨k2, v2, n2, is, gt⟩ := tokV_form (c :: x0)
        rw [gt] at g2
        rw [show tokV (b :: w0) = .tuple [.agg (encT 0 [] 0 0 0), .bool false] by unfold tokV; rw [ht]] at g1
        rw [line1_none hp hwl ht] at g3
        repeat (first | refine wK ?_ | refine awp_seq_k (fun K hK => ?_) | refine areg_text mixed tyok (by decide +kernel) ?_ | refine qal tyok (fun bx => ?_) | refine qbox (fun bx => ?_) | refine qboxV (fun bx => ?_) | refine TR.pcall rfl rfl rfl rfl True.intro rfl rfl (known19_c) ?_ | refine TR.pcall rfl rfl rfl rfl True.intro rfl rfl (g1) ?_ | refine TR.pcall rfl rfl rfl rfl True.intro rfl rfl (g2) ?_ | refine TR.pcall rfl rfl rfl rfl True.intro rfl rfl (g3) ?_ | refine pco rfl rfl rfl rfl rfl rfl rfl rfl (fun _ => known19_c) ?_ | refine pco rfl rfl rfl rfl rfl rfl rfl rfl (fun _ => g1) ?_ | refine pco rfl rfl rfl rfl rfl rfl rfl rfl (fun _ => g2) ?_ | refine pco rfl rfl rfl rfl rfl rfl rfl rfl (fun _ => g3) ?_ | ((repeat ((fail_if_success (refine hK _ _ ?_)); clear hK)); refine hK _ _ ?_; clear hK))
        refine r1 ?_
        exact Sub.refl _
      | some q =>
        obtain ⟨k, n⟩ := q
        rw [show tokV (b :: w0) = .tuple [.agg (encT k (b :: w0) n 0 0), .bool true] by unfold tokV; rw [ht]] at g1
        rw [line1_some hp hwl ht] at g3
        cases gt : tokF (c :: x0) with
        | none =>
          rw [show tokV (c :: x0) = .tuple [.agg (encT 0 [] 0 0 0), .bool false] by unfold tokV; rw [gt]] at g2
          rw [line2_none hp hq hwl hxl ht gt] at g4
          repeat (first | refine wK ?_ | refine awp_seq_k (fun K hK => ?_) | refine areg_text mixed tyok (by decide +kernel) ?_ | refine qal tyok (fun bx => ?_) | refine qbox (fun bx => ?_) | refine qboxV (fun bx => ?_) | refine TR.pcall rfl rfl rfl rfl True.intro rfl rfl (known19_c) ?_ | refine TR.pcall rfl rfl rfl rfl True.intro rfl rfl (g1) ?_ | refine TR.pcall rfl rfl rfl rfl True.intro rfl rfl (g2) ?_ | refine TR.pcall rfl rfl rfl rfl True.intro rfl rfl (g3) ?_ | refine TR.pcall rfl rfl rfl rfl True.intro rfl rfl (g4) ?_ | refine pco rfl rfl rfl rfl rfl rfl rfl rfl (fun _ => known19_c) ?_ | refine pco rfl rfl rfl rfl rfl rfl rfl rfl (fun _ => g1) ?_ | refine pco rfl rfl rfl rfl rfl rfl rfl rfl (fun _ => g2) ?_ | refine pco rfl rfl rfl rfl rfl rfl rfl rfl (fun _ => g3) ?_ | refine pco rfl rfl rfl rfl rfl rfl rfl rfl (fun _ => g4) ?_ | ((repeat ((fail_if_success (refine hK _ _ ?_)); clear hK)); refine hK _ _ ?_; clear hK))
          refine awp_cond rfl (fun h => absurd h (by simp)) (fun _ => ?_)
          repeat (first | refine wKE ?_ | refine awp_seq_k (fun K hK => ?_) | refine areg_text mixed tyok (by decide +kernel) ?_ | refine qal tyok (fun bx => ?_) | refine qbox (fun bx => ?_) | refine qboxV (fun bx => ?_) | refine TR.pcall rfl rfl rfl rfl True.intro rfl rfl (known19_c) ?_ | refine TR.pcall rfl rfl rfl rfl True.intro rfl rfl (g1) ?_ | refine TR.pcall rfl rfl rfl rfl True.intro rfl rfl (g2) ?_ | refine TR.pcall rfl rfl rfl rfl True.intro rfl rfl (g3) ?_ | refine TR.pcall rfl rfl rfl rfl True.intro rfl rfl (g4) ?_ | refine pco rfl rfl rfl rfl rfl rfl rfl rfl (fun _ => known19_c) ?_ | refine pco rfl rfl rfl rfl rfl rfl rfl rfl (fun _ => g1) ?_ | refine pco rfl rfl rfl rfl rfl rfl rfl rfl (fun _ => g2) ?_ | refine pco rfl rfl rfl rfl rfl rfl rfl rfl (fun _ => g3) ?_ | refine pco rfl rfl rfl rfl rfl rfl rfl rfl (fun _ => g4) ?_ | ((repeat ((fail_if_success (refine hK _ _ ?_)); clear hK)); refine hK _ _ ?_; clear hK))
          refine awp_cond rfl (fun h => absurd h (by simp)) (fun _ => ?_)
          repeat (first | refine wKE ?_ | refine awp_seq_k (fun K hK => ?_) | refine areg_text mixed tyok (by decide +kernel) ?_ | refine qal tyok (fun bx => ?_) | refine qbox (fun bx => ?_) | refine qboxV (fun bx => ?_) | refine TR.pcall rfl rfl rfl rfl True.intro rfl rfl (known19_c) ?_ | refine TR.pcall rfl rfl rfl rfl True.intro rfl rfl (g1) ?_ | refine TR.pcall rfl rfl rfl rfl True.intro rfl rfl (g2) ?_ | refine TR.pcall rfl rfl rfl rfl True.intro rfl rfl (g3) ?_ | refine TR.pcall rfl rfl rfl rfl True.intro rfl rfl (g4) ?_ | refine pco rfl rfl rfl rfl rfl rfl rfl rfl (fun _ => known19_c) ?_ | refine pco rfl rfl rfl rfl rfl rfl rfl rfl (fun _ => g1) ?_ | refine pco rfl rfl rfl rfl rfl rfl rfl rfl (fun _ => g2) ?_ | refine pco rfl rfl rfl rfl rfl rfl rfl rfl (fun _ => g3) ?_ | refine pco rfl rfl rfl rfl rfl rfl rfl rfl (fun _ => g4) ?_ | ((repeat ((fail_if_success (refine hK _ _ ?_)); clear hK)); refine hK _ _ ?_; clear hK))
          refine r1 ?_
          exact Sub.of_eq (by simp)
        | some q2 =>
          obtain ⟨k2, n2⟩ := q2
          rw [show tokV (c :: x0) = .tuple [.agg (encT k2 (c :: x0) n2 0 0), .bool true] by unfold tokV; rw [gt]] at g2
          rw [line2_some hp hq hwl hxl ht gt] at g4
          repeat (first | refine wK ?_ | refine awp_seq_k (fun K hK => ?_) | refine areg_text mixed tyok (by decide +kernel) ?_ | refine qal tyok (fun bx => ?_) | refine qbox (fun bx => ?_) | refine qboxV (fun bx => ?_) | refine TR.pcall rfl rfl rfl rfl True.intro rfl rfl (known19_c) ?_ | refine TR.pcall rfl rfl rfl rfl True.intro rfl rfl (g1) ?_ | refine TR.pcall rfl rfl rfl rfl True.intro rfl rfl (g2) ?_ | refine TR.pcall rfl rfl rfl rfl True.intro rfl rfl (g3) ?_ | refine TR.pcall rfl rfl rfl rfl True.intro rfl rfl (g4) ?_ | refine pco rfl rfl rfl rfl rfl rfl rfl rfl (fun _ => known19_c) ?_ | refine pco rfl rfl rfl rfl rfl rfl rfl rfl (fun _ => g1) ?_ | refine pco rfl rfl rfl rfl rfl rfl rfl rfl (fun _ => g2) ?_ | refine pco rfl rfl rfl rfl rfl rfl rfl rfl (fun _ => g3) ?_ | refine pco rfl rfl rfl rfl rfl rfl rfl rfl (fun _ => g4) ?_ | ((repeat ((fail_if_success (refine hK _ _ ?_)); clear hK)); refine hK _ _ ?_; clear hK))
          refine awp_cond rfl (fun h => absurd h (by simp)) (fun _ => ?_)
          repeat (first | refine wKE ?_ | refine awp_seq_k (fun K hK => ?_) | refine areg_text mixed tyok (by decide +kernel) ?_ | refine qal tyok (fun bx => ?_) | refine qbox (fun bx => ?_) | refine qboxV (fun bx => ?_) | refine TR.pcall rfl rfl rfl rfl True.intro rfl rfl (known19_c) ?_ | refine TR.pcall rfl rfl rfl rfl True.intro rfl rfl (g1) ?_ | refine TR.pcall rfl rfl rfl rfl True.intro rfl rfl (g2) ?_ | refine TR.pcall rfl rfl rfl rfl True.intro rfl rfl (g3) ?_ | refine TR.pcall rfl rfl rfl rfl True.intro rfl rfl (g4) ?_ | refine pco rfl rfl rfl rfl rfl rfl rfl rfl (fun _ => known19_c) ?_ | refine pco rfl rfl rfl rfl rfl rfl rfl rfl (fun _ => g1) ?_ | refine pco rfl rfl rfl rfl rfl rfl rfl rfl (fun _ => g2) ?_ | refine pco rfl rfl rfl rfl rfl rfl rfl rfl (fun _ => g3) ?_ | refine pco rfl rfl rfl rfl rfl rfl rfl rfl (fun _ => g4) ?_ | ((repeat ((fail_if_success (refine hK _ _ ?_)); clear hK)); refine hK _ _ ?_; clear hK))
          refine awp_cond rfl (fun h => absurd h (by simp)) (fun _ => ?_)
          repeat (first | refine wKE ?_ | refine awp_seq_k (fun K hK => ?_) | refine areg_text mixed tyok (by decide +kernel) ?_ | refine qal tyok (fun bx => ?_) | refine qbox (fun bx => ?_) | refine qboxV (fun bx => ?_) | refine TR.pcall rfl rfl rfl rfl True.intro rfl rfl (known19_c) ?_ | refine TR.pcall rfl rfl rfl rfl True.intro rfl rfl (g1) ?_ | refine TR.pcall rfl rfl rfl rfl True.intro rfl rfl (g2) ?_ | refine TR.pcall rfl rfl rfl rfl True.intro rfl rfl (g3) ?_ | refine TR.pcall rfl rfl rfl rfl True.intro rfl rfl (g4) ?_ | refine pco rfl rfl rfl rfl rfl rfl rfl rfl (fun _ => known19_c) ?_ | refine pco rfl rfl rfl rfl rfl rfl rfl rfl (fun _ => g1) ?_ | refine pco rfl rfl rfl rfl rfl rfl rfl rfl (fun _ => g2) ?_ | refine pco rfl rfl rfl rfl rfl rfl rfl rfl (fun _ => g3) ?_ | refine pco rfl rfl rfl rfl rfl rfl rfl rfl (fun _ => g4) ?_ | ((repeat ((fail_if_success (refine hK _ _ ?_)); clear hK)); refine hK _ _ ?_; clear hK))
          refine r1 ?_
          exact Sub.of_eq (by simp)

end Go.Proofs.YtgbmanmcioailaaDoor
