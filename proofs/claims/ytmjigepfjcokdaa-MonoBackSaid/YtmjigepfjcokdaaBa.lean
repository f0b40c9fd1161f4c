/-
  The law that holds products, quotients, Common and Least against each other: it returns true.
-/
import Derived.Test.YtmjigepfjcokdaaKn
import Derived.Test.YtmjigepfjcokdaaLa3
namespace Go.Proofs.Ytmjigepfjcokdaa
open Go.Ab

theorem cbBack : Callable Try.prog 5 := fun _ _ => by kernel_rfl
set_option maxHeartbeats 1600000 in
theorem back_c (a b : List Pw) : PCalls Try.prog 5 [mono a, mono b] (.bool true) := by
  refine pcalls_of_awp tyok cbBack Try.func5 rfl rfl ?_
  by_cases hg : a.length > 300 ∨ b.length > 300
  · have g1 := great_l [a, b] (r := true) (by simp) (by simp [greatF]; omega)
    repeat (first | refine awp_seq_k (fun K hK => ?_) | refine awp_region tyok ?_ | refine areg_text mixed tyok (by kernel_rfl) ?_ | refine awp_block ?_ | (((with_reducible refine tr_id ?_); first | refine qp ?_ | refine TR.nil ?_ | (refine tr_guarded rfl ?_; first | refine qon ?_ | refine qoff ?_ | refine qopt ?_ | refine qhopt ?_) | refine qld ?_ | refine qpick ?_ | refine qal tyok (fun bx => ?_) | refine qbox (fun bx => ?_) | refine qst tyok ?_ | refine qbs tyok ?_ | refine TR.pcall rfl rfl rfl rfl True.intro rfl rfl (g1) ?_ | refine TR.pcall rfl rfl rfl rfl True.intro rfl rfl (known_c) ?_)) | refine awp_cond_true rfl ?_ | refine awp_cond_false rfl ?_ | refine awp_skip ?_ | refine awp_exit ?_ | refine awp_ret ?_ | refine awp_label ?_ | (with_reducible refine thenQ_normal ?_) | (with_reducible refine blockQ_normal ?_) | (with_reducible refine thenQ_exit ?_) | (with_reducible refine blockQ_hit ?_) | refine blockQ_miss rfl ?_ | (with_reducible refine thenQ_ret ?_) | (with_reducible refine blockQ_ret ?_) | (with_reducible refine thenQ_panic ?_) | (with_reducible refine blockQ_panic ?_) | ((repeat ((fail_if_success (refine hK _ _ ?_)); clear hK)); refine hK _ _ ?_; clear hK))
    refine r1 ?_
    exact Sub.refl _
  have g1 := great_l [a, b] (r := false) (by simp) (by simp [greatF]; omega)
  have la : a.length ≤ 300 := by omega
  have lb : b.length ≤ 300 := by omega
  cases hA : may a
  · have pa := mayc (by omega) hA
    repeat (first | refine awp_seq_k (fun K hK => ?_) | refine awp_region tyok ?_ | refine areg_text mixed tyok (by kernel_rfl) ?_ | refine awp_block ?_ | (((with_reducible refine tr_id ?_); first | refine qp ?_ | refine TR.nil ?_ | (refine tr_guarded rfl ?_; first | refine qon ?_ | refine qoff ?_ | refine qopt ?_ | refine qhopt ?_) | refine qld ?_ | refine qpick ?_ | refine qal tyok (fun bx => ?_) | refine qbox (fun bx => ?_) | refine qst tyok ?_ | refine qbs tyok ?_ | refine TR.pcall rfl rfl rfl rfl True.intro rfl rfl (g1) ?_ | refine TR.pcall rfl rfl rfl rfl True.intro rfl rfl (pa) ?_ | refine TR.pcall rfl rfl rfl rfl True.intro rfl rfl (known_c) ?_)) | refine awp_cond_true rfl ?_ | refine awp_cond_false rfl ?_ | refine awp_skip ?_ | refine awp_exit ?_ | refine awp_ret ?_ | refine awp_label ?_ | (with_reducible refine thenQ_normal ?_) | (with_reducible refine blockQ_normal ?_) | (with_reducible refine thenQ_exit ?_) | (with_reducible refine blockQ_hit ?_) | refine blockQ_miss rfl ?_ | (with_reducible refine thenQ_ret ?_) | (with_reducible refine blockQ_ret ?_) | (with_reducible refine thenQ_panic ?_) | (with_reducible refine blockQ_panic ?_) | ((repeat ((fail_if_success (refine hK _ _ ?_)); clear hK)); refine hK _ _ ?_; clear hK))
    refine r1 ?_
    exact Sub.refl _
  have pa := mayc (by omega) hA
  cases hB : may b
  · have pb := mayc (by omega) hB
    repeat (first | refine awp_seq_k (fun K hK => ?_) | refine awp_region tyok ?_ | refine areg_text mixed tyok (by kernel_rfl) ?_ | refine awp_block ?_ | (((with_reducible refine tr_id ?_); first | refine qp ?_ | refine TR.nil ?_ | (refine tr_guarded rfl ?_; first | refine qon ?_ | refine qoff ?_ | refine qopt ?_ | refine qhopt ?_) | refine qld ?_ | refine qpick ?_ | refine qal tyok (fun bx => ?_) | refine qbox (fun bx => ?_) | refine qst tyok ?_ | refine qbs tyok ?_ | refine TR.pcall rfl rfl rfl rfl True.intro rfl rfl (g1) ?_ | refine TR.pcall rfl rfl rfl rfl True.intro rfl rfl (pa) ?_ | refine TR.pcall rfl rfl rfl rfl True.intro rfl rfl (pb) ?_ | refine TR.pcall rfl rfl rfl rfl True.intro rfl rfl (known_c) ?_)) | refine awp_cond_true rfl ?_ | refine awp_cond_false rfl ?_ | refine awp_skip ?_ | refine awp_exit ?_ | refine awp_ret ?_ | refine awp_label ?_ | (with_reducible refine thenQ_normal ?_) | (with_reducible refine blockQ_normal ?_) | (with_reducible refine thenQ_exit ?_) | (with_reducible refine blockQ_hit ?_) | refine blockQ_miss rfl ?_ | (with_reducible refine thenQ_ret ?_) | (with_reducible refine blockQ_ret ?_) | (with_reducible refine thenQ_panic ?_) | (with_reducible refine blockQ_panic ?_) | ((repeat ((fail_if_success (refine hK _ _ ?_)); clear hK)); refine hK _ _ ?_; clear hK))
    refine r1 ?_
    exact Sub.refl _
  have pb := mayc (by omega) hB
  rcases timesF_cases hA hB with ht | ht
  · have t1 := times_v (by omega) (by omega) ht
    repeat (first | refine awp_seq_k (fun K hK => ?_) | refine awp_region tyok ?_ | refine areg_text mixed tyok (by kernel_rfl) ?_ | refine awp_block ?_ | (((with_reducible refine tr_id ?_); first | refine qp ?_ | refine TR.nil ?_ | (refine tr_guarded rfl ?_; first | refine qon ?_ | refine qoff ?_ | refine qopt ?_ | refine qhopt ?_) | refine qld ?_ | refine qpick ?_ | refine qal tyok (fun bx => ?_) | refine qbox (fun bx => ?_) | refine qst tyok ?_ | refine qbs tyok ?_ | refine TR.pcall rfl rfl rfl rfl True.intro rfl rfl (g1) ?_ | refine TR.pcall rfl rfl rfl rfl True.intro rfl rfl (pa) ?_ | refine TR.pcall rfl rfl rfl rfl True.intro rfl rfl (pb) ?_ | refine TR.pcall rfl rfl rfl rfl True.intro rfl rfl (t1) ?_ | refine TR.pcall rfl rfl rfl rfl True.intro rfl rfl (known_c) ?_)) | refine awp_cond_true rfl ?_ | refine awp_cond_false rfl ?_ | refine awp_skip ?_ | refine awp_exit ?_ | refine awp_ret ?_ | refine awp_label ?_ | (with_reducible refine thenQ_normal ?_) | (with_reducible refine blockQ_normal ?_) | (with_reducible refine thenQ_exit ?_) | (with_reducible refine blockQ_hit ?_) | refine blockQ_miss rfl ?_ | (with_reducible refine thenQ_ret ?_) | (with_reducible refine blockQ_ret ?_) | (with_reducible refine thenQ_panic ?_) | (with_reducible refine blockQ_panic ?_) | ((repeat ((fail_if_success (refine hK _ _ ?_)); clear hK)); refine hK _ _ ?_; clear hK))
    refine r1 ?_
    exact Sub.refl _
  have lm := madeF_len gAdd a b
  have l1 := madeF_len gMin a b
  have l2 := madeF_len gMax a b
  obtain ⟨b1, b2, b3⟩ := back_law hA hB ht
  have t1 := times_v (by omega) (by omega) ht
  have o1 := over_v (by omega) (by omega) b1
  have c1 := common_c a b (by omega) (by omega)
  have c2 := least_c a b (by omega) (by omega)
  rw [plain_may hA, plain_may hB] at c1 c2
  have t2 := times_v (by omega) (by omega) b2
  have s1 := same_v (a := a) (b := a) (r := true) (by omega) (by simp [sameF])
  have s2 := same_v (a := madeF gAdd (zipM a b)) (b := madeF gAdd (zipM a b)) (r := true) (by omega) (by simp [sameF])
  rcases b3 with ⟨b3, b4⟩ | ⟨s, b3, b4, b5⟩
  · have o2 := over_v (by omega) (by omega) b3
    have s3 := same_v (a := madeF gMin (zipM a b)) (b := b) (r := false) (by omega) (by simp [sameF, b4])
    repeat (first | refine awp_seq_k (fun K hK => ?_) | refine awp_region tyok ?_ | refine areg_text mixed tyok (by kernel_rfl) ?_ | refine awp_block ?_ | (((with_reducible refine tr_id ?_); first | refine qp ?_ | refine TR.nil ?_ | (refine tr_guarded rfl ?_; first | refine qon ?_ | refine qoff ?_ | refine qopt ?_ | refine qhopt ?_) | refine qld ?_ | refine qpick ?_ | refine qal tyok (fun bx => ?_) | refine qbox (fun bx => ?_) | refine qst tyok ?_ | refine qbs tyok ?_ | refine TR.pcall rfl rfl rfl rfl True.intro rfl rfl (g1) ?_ | refine TR.pcall rfl rfl rfl rfl True.intro rfl rfl (pa) ?_ | refine TR.pcall rfl rfl rfl rfl True.intro rfl rfl (pb) ?_ | refine TR.pcall rfl rfl rfl rfl True.intro rfl rfl (t1) ?_ | refine TR.pcall rfl rfl rfl rfl True.intro rfl rfl (o1) ?_ | refine TR.pcall rfl rfl rfl rfl True.intro rfl rfl (c1) ?_ | refine TR.pcall rfl rfl rfl rfl True.intro rfl rfl (c2) ?_ | refine TR.pcall rfl rfl rfl rfl True.intro rfl rfl (t2) ?_ | refine TR.pcall rfl rfl rfl rfl True.intro rfl rfl (s1) ?_ | refine TR.pcall rfl rfl rfl rfl True.intro rfl rfl (s2) ?_ | refine TR.pcall rfl rfl rfl rfl True.intro rfl rfl (o2) ?_ | refine TR.pcall rfl rfl rfl rfl True.intro rfl rfl (s3) ?_ | refine TR.pcall rfl rfl rfl rfl True.intro rfl rfl (known_c) ?_)) | refine awp_cond_true rfl ?_ | refine awp_cond_false rfl ?_ | refine awp_skip ?_ | refine awp_exit ?_ | refine awp_ret ?_ | refine awp_label ?_ | (with_reducible refine thenQ_normal ?_) | (with_reducible refine blockQ_normal ?_) | (with_reducible refine thenQ_exit ?_) | (with_reducible refine blockQ_hit ?_) | refine blockQ_miss rfl ?_ | (with_reducible refine thenQ_ret ?_) | (with_reducible refine blockQ_ret ?_) | (with_reducible refine thenQ_panic ?_) | (with_reducible refine blockQ_panic ?_) | ((repeat ((fail_if_success (refine hK _ _ ?_)); clear hK)); refine hK _ _ ?_; clear hK))
    refine r1 ?_
    exact Sub.refl _
  · have ls : s.length ≤ 600 := by
      have e : s = (overF a b).1 := by rw [b3]
      have := madeF_len gSub a b
      rw [e, overF]
      split
      · split
        · simp
        · simp only; omega
      · simp
    have o2 := over_v (by omega) (by omega) b3
    have t3 := times_v (by omega) (by omega) b4
    have s3 := same_v (a := madeF gMin (zipM a b)) (b := b) (r := true) (by omega) (by simp [sameF, b5])
    repeat (first | refine awp_seq_k (fun K hK => ?_) | refine awp_region tyok ?_ | refine areg_text mixed tyok (by kernel_rfl) ?_ | refine awp_block ?_ | (((with_reducible refine tr_id ?_); first | refine qp ?_ | refine TR.nil ?_ | (refine tr_guarded rfl ?_; first | refine qon ?_ | refine qoff ?_ | refine qopt ?_ | refine qhopt ?_) | refine qld ?_ | refine qpick ?_ | refine qal tyok (fun bx => ?_) | refine qbox (fun bx => ?_) | refine qst tyok ?_ | refine qbs tyok ?_ | refine TR.pcall rfl rfl rfl rfl True.intro rfl rfl (g1) ?_ | refine TR.pcall rfl rfl rfl rfl True.intro rfl rfl (pa) ?_ | refine TR.pcall rfl rfl rfl rfl True.intro rfl rfl (pb) ?_ | refine TR.pcall rfl rfl rfl rfl True.intro rfl rfl (t1) ?_ | refine TR.pcall rfl rfl rfl rfl True.intro rfl rfl (o1) ?_ | refine TR.pcall rfl rfl rfl rfl True.intro rfl rfl (c1) ?_ | refine TR.pcall rfl rfl rfl rfl True.intro rfl rfl (c2) ?_ | refine TR.pcall rfl rfl rfl rfl True.intro rfl rfl (t2) ?_ | refine TR.pcall rfl rfl rfl rfl True.intro rfl rfl (s1) ?_ | refine TR.pcall rfl rfl rfl rfl True.intro rfl rfl (s2) ?_ | refine TR.pcall rfl rfl rfl rfl True.intro rfl rfl (o2) ?_ | refine TR.pcall rfl rfl rfl rfl True.intro rfl rfl (s3) ?_ | refine TR.pcall rfl rfl rfl rfl True.intro rfl rfl (t3) ?_ | refine TR.pcall rfl rfl rfl rfl True.intro rfl rfl (known_c) ?_)) | refine awp_cond_true rfl ?_ | refine awp_cond_false rfl ?_ | refine awp_skip ?_ | refine awp_exit ?_ | refine awp_ret ?_ | refine awp_label ?_ | (with_reducible refine thenQ_normal ?_) | (with_reducible refine blockQ_normal ?_) | (with_reducible refine thenQ_exit ?_) | (with_reducible refine blockQ_hit ?_) | refine blockQ_miss rfl ?_ | (with_reducible refine thenQ_ret ?_) | (with_reducible refine blockQ_ret ?_) | (with_reducible refine thenQ_panic ?_) | (with_reducible refine blockQ_panic ?_) | ((repeat ((fail_if_success (refine hK _ _ ?_)); clear hK)); refine hK _ _ ?_; clear hK))
    refine r1 ?_
    exact Sub.refl _

end Go.Proofs.Ytmjigepfjcokdaa
