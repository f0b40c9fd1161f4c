/-
  The law that holds what two have in common, what both divide, and one without a variable, against the document's: it returns true.
-/
import Derived.Test.YtmjigepfjcokdaaKn
import Derived.Test.YtmjigepfjcokdaaRf5
namespace Go.Proofs.Ytmjigepfjcokdaa
open Go.Ab

theorem cbLaw : Callable Try.prog 7 := fun _ _ => by kernel_rfl
set_option maxHeartbeats 1600000 in
theorem monoCommon_c (a b : List Pw) (v : Int) : PCalls Try.prog 7 [mono a, mono b, .int .i64 v] (.bool true) := by
  refine pcalls_of_awp tyok cbLaw Try.func7 rfl rfl ?_
  by_cases hg : a.length > 300 ∨ b.length > 300
  · have g1 := great_l [a, b] (r := true) (by simp) (by simp [greatF]; omega)
    repeat (first | refine awp_seq_k (fun K hK => ?_) | refine awp_region tyok ?_ | refine areg_text mixed tyok (by kernel_rfl) ?_ | refine awp_block ?_ | (((with_reducible refine tr_id ?_); first | refine qp ?_ | refine TR.nil ?_ | (refine tr_guarded rfl ?_; first | refine qon ?_ | refine qoff ?_ | refine qopt ?_ | refine qhopt ?_) | refine qld ?_ | refine qpick ?_ | refine qal tyok (fun bx => ?_) | refine qbox (fun bx => ?_) | refine qboxV (fun bx => ?_) | refine qstV tyok ?_ | refine qst tyok ?_ | refine qbs tyok ?_ | refine TR.pcall rfl rfl rfl rfl True.intro rfl rfl (g1) ?_ | refine TR.pcall rfl rfl rfl rfl True.intro rfl rfl (known_c) ?_ | refine TR.pcallopt rfl rfl rfl rfl rfl rfl (by (first | exact True.intro | exact ⟨id, True.intro⟩ | exact ⟨id, id, True.intro⟩ | exact ⟨id, id, id, True.intro⟩)) rfl rfl (fun _ => g1) ?_ | refine TR.pcallopt rfl rfl rfl rfl rfl rfl (by (first | exact True.intro | exact ⟨id, True.intro⟩ | exact ⟨id, id, True.intro⟩ | exact ⟨id, id, id, True.intro⟩)) rfl rfl (fun _ => known_c) ?_)) | refine awp_cond_true rfl ?_ | refine awp_cond_false rfl ?_ | refine awp_skip ?_ | refine awp_exit ?_ | refine awp_ret ?_ | refine awp_label ?_ | (with_reducible refine thenQ_normal ?_) | (with_reducible refine blockQ_normal ?_) | (with_reducible refine thenQ_exit ?_) | (with_reducible refine blockQ_hit ?_) | refine blockQ_miss rfl ?_ | (with_reducible refine thenQ_ret ?_) | (with_reducible refine blockQ_ret ?_) | (with_reducible refine thenQ_panic ?_) | (with_reducible refine blockQ_panic ?_) | ((repeat ((fail_if_success (refine hK _ _ ?_)); clear hK)); refine hK _ _ ?_; clear hK))
    refine r1 ?_
    exact Sub.refl _
  have g1 := great_l [a, b] (r := false) (by simp) (by simp [greatF]; omega)
  have la : a.length ≤ 300 := by omega
  have lb : b.length ≤ 300 := by omega
  have c1 := common_c a b (by omega) (by omega)
  have c2 := rcommon_c a b (by omega) (by omega)
  have l1 := least_c a b (by omega) (by omega)
  have l2 := rleast_c a b (by omega) (by omega)
  have w1 := without_c a v (by omega)
  have w2 := rwithout_c a v (by omega)
  have ml := madeF_len gMin (plainF a) (plainF b)
  have ml2 := madeF_len gMax (plainF a) (plainF b)
  have pl := plainF_len a
  have pl2 := plainF_len b
  have wl : (withoutF v (plainF a)).length ≤ (plainF a).length := List.length_filter_le _ _
  have s1 := same_v (a := madeF gMin (zipM (plainF a) (plainF b))) (b := madeF gMin (zipM (plainF a) (plainF b))) (r := true) (by omega) (by simp [sameF])
  have s2 := same_v (a := madeF gMax (zipM (plainF a) (plainF b))) (b := madeF gMax (zipM (plainF a) (plainF b))) (r := true) (by omega) (by simp [sameF])
  have s3 := same_v (a := withoutF v (plainF a)) (b := withoutF v (plainF a)) (r := true) (by omega) (by simp [sameF])
  repeat (first | refine awp_seq_k (fun K hK => ?_) | refine awp_region tyok ?_ | refine areg_text mixed tyok (by kernel_rfl) ?_ | refine awp_block ?_ | (((with_reducible refine tr_id ?_); first | refine qp ?_ | refine TR.nil ?_ | (refine tr_guarded rfl ?_; first | refine qon ?_ | refine qoff ?_ | refine qopt ?_ | refine qhopt ?_) | refine qld ?_ | refine qpick ?_ | refine qal tyok (fun bx => ?_) | refine qbox (fun bx => ?_) | refine qboxV (fun bx => ?_) | refine qstV tyok ?_ | refine qst tyok ?_ | refine qbs tyok ?_ | refine TR.pcall rfl rfl rfl rfl True.intro rfl rfl (g1) ?_ | refine TR.pcall rfl rfl rfl rfl True.intro rfl rfl (c1) ?_ | refine TR.pcall rfl rfl rfl rfl True.intro rfl rfl (c2) ?_ | refine TR.pcall rfl rfl rfl rfl True.intro rfl rfl (l1) ?_ | refine TR.pcall rfl rfl rfl rfl True.intro rfl rfl (l2) ?_ | refine TR.pcall rfl rfl rfl rfl True.intro rfl rfl (w1) ?_ | refine TR.pcall rfl rfl rfl rfl True.intro rfl rfl (w2) ?_ | refine TR.pcall rfl rfl rfl rfl True.intro rfl rfl (s1) ?_ | refine TR.pcall rfl rfl rfl rfl True.intro rfl rfl (s2) ?_ | refine TR.pcall rfl rfl rfl rfl True.intro rfl rfl (s3) ?_ | refine TR.pcall rfl rfl rfl rfl True.intro rfl rfl (known_c) ?_ | refine TR.pcallopt rfl rfl rfl rfl rfl rfl (by (first | exact True.intro | exact ⟨id, True.intro⟩ | exact ⟨id, id, True.intro⟩ | exact ⟨id, id, id, True.intro⟩)) rfl rfl (fun _ => g1) ?_ | refine TR.pcallopt rfl rfl rfl rfl rfl rfl (by (first | exact True.intro | exact ⟨id, True.intro⟩ | exact ⟨id, id, True.intro⟩ | exact ⟨id, id, id, True.intro⟩)) rfl rfl (fun _ => c1) ?_ | refine TR.pcallopt rfl rfl rfl rfl rfl rfl (by (first | exact True.intro | exact ⟨id, True.intro⟩ | exact ⟨id, id, True.intro⟩ | exact ⟨id, id, id, True.intro⟩)) rfl rfl (fun _ => c2) ?_ | refine TR.pcallopt rfl rfl rfl rfl rfl rfl (by (first | exact True.intro | exact ⟨id, True.intro⟩ | exact ⟨id, id, True.intro⟩ | exact ⟨id, id, id, True.intro⟩)) rfl rfl (fun _ => l1) ?_ | refine TR.pcallopt rfl rfl rfl rfl rfl rfl (by (first | exact True.intro | exact ⟨id, True.intro⟩ | exact ⟨id, id, True.intro⟩ | exact ⟨id, id, id, True.intro⟩)) rfl rfl (fun _ => l2) ?_ | refine TR.pcallopt rfl rfl rfl rfl rfl rfl (by (first | exact True.intro | exact ⟨id, True.intro⟩ | exact ⟨id, id, True.intro⟩ | exact ⟨id, id, id, True.intro⟩)) rfl rfl (fun _ => w1) ?_ | refine TR.pcallopt rfl rfl rfl rfl rfl rfl (by (first | exact True.intro | exact ⟨id, True.intro⟩ | exact ⟨id, id, True.intro⟩ | exact ⟨id, id, id, True.intro⟩)) rfl rfl (fun _ => w2) ?_ | refine TR.pcallopt rfl rfl rfl rfl rfl rfl (by (first | exact True.intro | exact ⟨id, True.intro⟩ | exact ⟨id, id, True.intro⟩ | exact ⟨id, id, id, True.intro⟩)) rfl rfl (fun _ => s1) ?_ | refine TR.pcallopt rfl rfl rfl rfl rfl rfl (by (first | exact True.intro | exact ⟨id, True.intro⟩ | exact ⟨id, id, True.intro⟩ | exact ⟨id, id, id, True.intro⟩)) rfl rfl (fun _ => s2) ?_ | refine TR.pcallopt rfl rfl rfl rfl rfl rfl (by (first | exact True.intro | exact ⟨id, True.intro⟩ | exact ⟨id, id, True.intro⟩ | exact ⟨id, id, id, True.intro⟩)) rfl rfl (fun _ => s3) ?_ | refine TR.pcallopt rfl rfl rfl rfl rfl rfl (by (first | exact True.intro | exact ⟨id, True.intro⟩ | exact ⟨id, id, True.intro⟩ | exact ⟨id, id, id, True.intro⟩)) rfl rfl (fun _ => known_c) ?_)) | refine awp_cond_true rfl ?_ | refine awp_cond_false rfl ?_ | refine awp_skip ?_ | refine awp_exit ?_ | refine awp_ret ?_ | refine awp_label ?_ | (with_reducible refine thenQ_normal ?_) | (with_reducible refine blockQ_normal ?_) | (with_reducible refine thenQ_exit ?_) | (with_reducible refine blockQ_hit ?_) | refine blockQ_miss rfl ?_ | (with_reducible refine thenQ_ret ?_) | (with_reducible refine blockQ_ret ?_) | (with_reducible refine thenQ_panic ?_) | (with_reducible refine blockQ_panic ?_) | ((repeat ((fail_if_success (refine hK _ _ ?_)); clear hK)); refine hK _ _ ?_; clear hK))
  refine r1 ?_
  exact Sub.refl _

end Go.Proofs.Ytmjigepfjcokdaa
