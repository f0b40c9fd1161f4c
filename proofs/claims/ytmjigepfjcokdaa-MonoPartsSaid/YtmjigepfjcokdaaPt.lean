/-
  The law on one without its class: it returns true for every input, and its input reads as it did.
-/
import Derived.Test.YtmjigepfjcokdaaKn
import Derived.Test.YtmjigepfjcokdaaMoG
namespace Go.Proofs.Ytmjigepfjcokdaa
open Go.Ab

theorem cbParts : Callable Try.prog 8 := fun _ _ => by kernel_rfl
theorem parts_c (m : List Pw) : PCalls Try.prog 8 [mono m] (.bool true) := by
  refine pcalls_of_awp tyok cbParts Try.func8 rfl rfl ?_
  by_cases hg : m.length > 300
  · have g1 := great_l [m] (r := true) (by simp) (by simp only [greatF, List.any_cons, hg, decide_true, Bool.true_or])
    repeat (first | refine awp_seq_k (fun K hK => ?_) | refine awp_region tyok ?_ | refine areg_text mixed tyok (by kernel_rfl) ?_ | refine awp_block ?_ | (((with_reducible refine tr_id ?_); first | refine qp ?_ | refine TR.nil ?_ | (refine tr_guarded rfl ?_; first | refine qon ?_ | refine qoff ?_ | refine qopt ?_ | refine qhopt ?_) | refine qld ?_ | refine qpick ?_ | refine qal tyok (fun bx => ?_) | refine qbox (fun bx => ?_) | refine qst tyok ?_ | refine qbs tyok ?_ | refine TR.pcall rfl rfl rfl rfl True.intro rfl rfl (g1) ?_ | refine TR.pcall rfl rfl rfl rfl True.intro rfl rfl (known_c) ?_)) | refine awp_cond_true rfl ?_ | refine awp_cond_false rfl ?_ | refine awp_skip ?_ | refine awp_exit ?_ | refine awp_ret ?_ | refine awp_label ?_ | (with_reducible refine thenQ_normal ?_) | (with_reducible refine blockQ_normal ?_) | (with_reducible refine thenQ_exit ?_) | (with_reducible refine blockQ_hit ?_) | refine blockQ_miss rfl ?_ | (with_reducible refine thenQ_ret ?_) | (with_reducible refine blockQ_ret ?_) | (with_reducible refine thenQ_panic ?_) | (with_reducible refine blockQ_panic ?_) | ((repeat ((fail_if_success (refine hK _ _ ?_)); clear hK)); refine hK _ _ ?_; clear hK))
    refine r1 ?_
    exact Sub.refl _
  have g1 := great_l [m] (r := false) (by simp) (by simp [greatF]; omega)
  cases hA : may m
  · have pa := mayc (by omega) hA
    repeat (first | refine awp_seq_k (fun K hK => ?_) | refine awp_region tyok ?_ | refine areg_text mixed tyok (by kernel_rfl) ?_ | refine awp_block ?_ | (((with_reducible refine tr_id ?_); first | refine qp ?_ | refine TR.nil ?_ | (refine tr_guarded rfl ?_; first | refine qon ?_ | refine qoff ?_ | refine qopt ?_ | refine qhopt ?_) | refine qld ?_ | refine qpick ?_ | refine qal tyok (fun bx => ?_) | refine qbox (fun bx => ?_) | refine qst tyok ?_ | refine qbs tyok ?_ | refine TR.pcall rfl rfl rfl rfl True.intro rfl rfl (g1) ?_ | refine TR.pcall rfl rfl rfl rfl True.intro rfl rfl (pa) ?_ | refine TR.pcall rfl rfl rfl rfl True.intro rfl rfl (known_c) ?_)) | refine awp_cond_true rfl ?_ | refine awp_cond_false rfl ?_ | refine awp_skip ?_ | refine awp_exit ?_ | refine awp_ret ?_ | refine awp_label ?_ | (with_reducible refine thenQ_normal ?_) | (with_reducible refine blockQ_normal ?_) | (with_reducible refine thenQ_exit ?_) | (with_reducible refine blockQ_hit ?_) | refine blockQ_miss rfl ?_ | (with_reducible refine thenQ_ret ?_) | (with_reducible refine blockQ_ret ?_) | (with_reducible refine thenQ_panic ?_) | (with_reducible refine blockQ_panic ?_) | ((repeat ((fail_if_success (refine hK _ _ ?_)); clear hK)); refine hK _ _ ?_; clear hK))
    refine r1 ?_
    exact Sub.refl _
  have pa := mayc (by omega) hA
  by_cases hne : m = []
  · subst hne
    repeat (first | refine awp_seq_k (fun K hK => ?_) | refine awp_region tyok ?_ | refine areg_text mixed tyok (by kernel_rfl) ?_ | refine awp_block ?_ | (((with_reducible refine tr_id ?_); first | refine qp ?_ | refine TR.nil ?_ | (refine tr_guarded rfl ?_; first | refine qon ?_ | refine qoff ?_ | refine qopt ?_ | refine qhopt ?_) | refine qld ?_ | refine qpick ?_ | refine qal tyok (fun bx => ?_) | refine qbox (fun bx => ?_) | refine qst tyok ?_ | refine qbs tyok ?_ | refine TR.pcall rfl rfl rfl rfl True.intro rfl rfl (g1) ?_ | refine TR.pcall rfl rfl rfl rfl True.intro rfl rfl (pa) ?_ | refine TR.pcall rfl rfl rfl rfl True.intro rfl rfl (known_c) ?_)) | refine awp_cond_true rfl ?_ | refine awp_cond_false rfl ?_ | refine awp_skip ?_ | refine awp_exit ?_ | refine awp_ret ?_ | refine awp_label ?_ | (with_reducible refine thenQ_normal ?_) | (with_reducible refine blockQ_normal ?_) | (with_reducible refine thenQ_exit ?_) | (with_reducible refine blockQ_hit ?_) | refine blockQ_miss rfl ?_ | (with_reducible refine thenQ_ret ?_) | (with_reducible refine blockQ_ret ?_) | (with_reducible refine thenQ_panic ?_) | (with_reducible refine blockQ_panic ?_) | ((repeat ((fail_if_success (refine hK _ _ ?_)); clear hK)); refine hK _ _ ?_; clear hK))
    refine r1 ?_
    exact Sub.refl _
  · have h0 : m.length ≠ 0 := fun h => hne (List.eq_nil_of_length_eq_zero h)
    obtain ⟨h1, h2, h3⟩ := parts_law hA hne
    have hpl := plainF_len m
    have hl : (withoutF (classF m) (plainF m)).length ≤ m.length := Nat.le_trans (List.length_filter_le _ _) hpl
    have c1 := class_c m (by omega)
    have w1 := without_c m (classF m) (by omega)
    have d1 := degree_c m (classF m) (by omega)
    have o1 := one_l [classF m, degF (classF m) (plainF m)] (by simp) rfl
    have t1 := times_v (a := withoutF (classF m) (plainF m)) (by omega) (by simp [oneF]) h3
    have c2 := class_c (withoutF (classF m) (plainF m)) (by omega)
    have d2 := degree_c (withoutF (classF m) (plainF m)) (classF m) (by omega)
    rw [h2] at d2
    have s1 := same_v (a := m) (b := m) (r := true) (by omega) (by simp [sameF])
    repeat (first | refine awp_seq_k (fun K hK => ?_) | refine awp_region tyok ?_ | refine areg_text mixed tyok (by kernel_rfl) ?_ | refine awp_block ?_ | (((with_reducible refine tr_id ?_); first | refine qt ?_ | refine qf ?_ | refine qp ?_ | refine TR.nil ?_ | (refine tr_guarded rfl ?_; first | refine qon ?_ | refine qoff ?_ | refine qopt ?_ | refine qhopt ?_) | refine qld ?_ | refine qpick ?_ | refine qal tyok (fun bx => ?_) | refine qbox (fun bx => ?_) | refine qst tyok ?_ | refine qbs tyok ?_ | refine TR.pcall rfl rfl rfl rfl True.intro rfl rfl (g1) ?_ | refine TR.pcall rfl rfl rfl rfl True.intro rfl rfl (pa) ?_ | refine TR.pcall rfl rfl rfl rfl True.intro rfl rfl (known_c) ?_ | refine TR.pcall rfl rfl rfl rfl True.intro rfl rfl (c1) ?_ | refine TR.pcall rfl rfl rfl rfl True.intro rfl rfl (w1) ?_ | refine TR.pcall rfl rfl rfl rfl True.intro rfl rfl (d1) ?_ | refine TR.pcall rfl rfl rfl rfl True.intro rfl rfl (o1) ?_ | refine TR.pcall rfl rfl rfl rfl True.intro rfl rfl (t1) ?_ | refine TR.pcall rfl rfl rfl rfl True.intro rfl rfl (c2) ?_ | refine TR.pcall rfl rfl rfl rfl True.intro rfl rfl (d2) ?_ | refine TR.pcall rfl rfl rfl rfl True.intro rfl rfl (s1) ?_)) | refine awp_cond_true rfl ?_ | refine awp_cond_false rfl ?_ | refine awp_skip ?_ | refine awp_exit ?_ | refine awp_ret ?_ | refine awp_label ?_ | (with_reducible refine thenQ_normal ?_) | (with_reducible refine blockQ_normal ?_) | (with_reducible refine thenQ_exit ?_) | (with_reducible refine blockQ_hit ?_) | refine blockQ_miss rfl ?_ | (with_reducible refine thenQ_ret ?_) | (with_reducible refine blockQ_ret ?_) | (with_reducible refine thenQ_panic ?_) | (with_reducible refine blockQ_panic ?_) | ((repeat ((fail_if_success (refine hK _ _ ?_)); clear hK)); refine hK _ _ ?_; clear hK))
    refine r1 ?_
    exact Sub.refl _

end Go.Proofs.Ytmjigepfjcokdaa
