/-
  The law that holds products and quotients against the document's: it returns true.
-/
import Derived.Test.YtmjigepfjcokdaaKn
import Derived.Test.YtmjigepfjcokdaaRf5
namespace Go.Proofs.Ytmjigepfjcokdaa
open Go.Ab

theorem same_refl (a : List Pw) (h : a.length ≤ 1000000) : PCalls Try.prog 15 [mono a, mono a] (.bool true) := same_v h (by simp [sameF])

theorem timesF_len (a b : List Pw) : (timesF a b).1.length ≤ a.length + b.length := by
  have := madeF_len gAdd a b
  unfold timesF
  split
  · split
    · simpa using this
    · simp
  · simp

theorem overF_len (a b : List Pw) : (overF a b).1.length ≤ a.length + b.length := by
  have := madeF_len gSub a b
  unfold overF
  split
  · split
    · simp
    · simpa using this
  · simp


theorem cbLaw : Callable Try.prog 3 := fun _ _ => by kernel_rfl
set_option maxHeartbeats 1600000 in
theorem monoTimes_c (a b : List Pw) : PCalls Try.prog 3 [mono a, mono b] (.bool true) := by
  refine pcalls_of_awp tyok cbLaw Try.func3 rfl rfl ?_
  by_cases hg : a.length > 300 ∨ b.length > 300
  · have g1 := great_l [a, b] (r := true) (by simp) (by simp [greatF]; omega)
    repeat (first | refine awp_seq_k (fun K hK => ?_) | refine awp_region tyok ?_ | refine areg_text mixed tyok (by kernel_rfl) ?_ | refine awp_block ?_ | (((with_reducible refine tr_id ?_); first | refine qp ?_ | refine TR.nil ?_ | (refine tr_guarded rfl ?_; first | refine qon ?_ | refine qoff ?_ | refine qopt ?_ | refine qhopt ?_) | refine qld ?_ | refine qpick ?_ | refine qal tyok (fun bx => ?_) | refine qbox (fun bx => ?_) | refine qboxV (fun bx => ?_) | refine qstV tyok ?_ | refine qst tyok ?_ | refine qbs tyok ?_ | refine TR.pcall rfl rfl rfl rfl True.intro rfl rfl (g1) ?_ | refine TR.pcall rfl rfl rfl rfl True.intro rfl rfl (known_c) ?_ | refine TR.pcallopt rfl rfl rfl rfl rfl rfl (by (first | exact True.intro | exact ⟨id, True.intro⟩ | exact ⟨id, id, True.intro⟩ | exact ⟨id, id, id, True.intro⟩)) rfl rfl (fun _ => g1) ?_ | refine TR.pcallopt rfl rfl rfl rfl rfl rfl (by (first | exact True.intro | exact ⟨id, True.intro⟩ | exact ⟨id, id, True.intro⟩ | exact ⟨id, id, id, True.intro⟩)) rfl rfl (fun _ => known_c) ?_)) | refine awp_cond_true rfl ?_ | refine awp_cond_false rfl ?_ | refine awp_skip ?_ | refine awp_exit ?_ | refine awp_ret ?_ | refine awp_label ?_ | (with_reducible refine thenQ_normal ?_) | (with_reducible refine blockQ_normal ?_) | (with_reducible refine thenQ_exit ?_) | (with_reducible refine blockQ_hit ?_) | refine blockQ_miss rfl ?_ | (with_reducible refine thenQ_ret ?_) | (with_reducible refine blockQ_ret ?_) | (with_reducible refine thenQ_panic ?_) | (with_reducible refine blockQ_panic ?_) | ((repeat ((fail_if_success (refine hK _ _ ?_)); clear hK)); refine hK _ _ ?_; clear hK))
    refine r1 ?_
    exact Sub.refl _
  have g1 := great_l [a, b] (r := false) (by simp) (by simp [greatF]; omega)
  have la : a.length ≤ 300 := by omega
  have lb : b.length ≤ 300 := by omega
  have t1 := times_c a b (by omega) (by omega)
  have t2 := rtimes_c a b (by omega) (by omega)
  have o1 := over_c a b (by omega) (by omega)
  have o2 := rover_c a b (by omega) (by omega)
  have l1 := timesF_len a b
  have l2 := overF_len a b
  have s1 := same_refl (timesF a b).1 (by omega)
  have s2 := same_refl (overF a b).1 (by omega)
  have s3 := same_refl a (by omega)
  have s4 := same_refl b (by omega)
  have p1 := mayc (m := a) (by omega) rfl
  have p2 := rmayc (m := a) (by omega) rfl
  have sa : ∀ ad cap, Sub (.slice 2 (0 + a.length) (glue 0 (chunk [] 2) fun i => encP (a.getD i default)) (.own ad cap)) (mono a) := fun ad cap => (glue_nil encP 2 a _ _).trans (Sub.view _ _ _ _)
  have sb : ∀ ad cap, Sub (.slice 2 (0 + b.length) (glue 0 (chunk [] 2) fun i => encP (b.getD i default)) (.own ad cap)) (mono b) := fun ad cap => (glue_nil encP 2 b _ _).trans (Sub.view _ _ _ _)
  repeat (first | refine awp_seq_k (fun K hK => ?_) | refine awp_region tyok ?_ | refine areg_text mixed tyok (by kernel_rfl) ?_ | refine awp_block ?_ | (((with_reducible refine tr_id ?_); first | refine qp ?_ | refine TR.nil ?_ | (refine tr_guarded rfl ?_; first | refine qon ?_ | refine qoff ?_ | refine qopt ?_ | refine qhopt ?_) | refine qld ?_ | refine qpick ?_ | refine qal tyok (fun bx => ?_) | refine qbox (fun bx => ?_) | refine qboxV (fun bx => ?_) | refine qstV tyok ?_ | refine qst tyok ?_ | refine qbs tyok ?_ | refine TR.pcall rfl rfl rfl rfl True.intro rfl rfl (g1) ?_ | refine TR.pcallopt rfl rfl rfl rfl rfl rfl (by (first | exact True.intro | exact ⟨id, True.intro⟩ | exact ⟨id, id, True.intro⟩ | exact ⟨id, id, id, True.intro⟩)) rfl rfl (fun _ => g1) ?_)) | refine awp_cond_true rfl ?_ | refine awp_cond_false rfl ?_ | refine awp_skip ?_ | refine awp_exit ?_ | refine awp_ret ?_ | refine awp_label ?_ | (with_reducible refine thenQ_normal ?_) | (with_reducible refine blockQ_normal ?_) | (with_reducible refine thenQ_exit ?_) | (with_reducible refine blockQ_hit ?_) | refine blockQ_miss rfl ?_ | (with_reducible refine thenQ_ret ?_) | (with_reducible refine blockQ_ret ?_) | (with_reducible refine thenQ_panic ?_) | (with_reducible refine blockQ_panic ?_) | ((repeat ((fail_if_success (refine hK _ _ ?_)); clear hK)); refine hK _ _ ?_; clear hK))
  refine TR.appendF tyok (fun _ _ => mono a) rfl rfl rfl rfl (by first | exact True.intro | exact ⟨id, True.intro⟩ | exact ⟨id, id, True.intro⟩ | exact ⟨id, id, id, True.intro⟩) rfl rfl rfl rfl rfl rfl rfl rfl rfl ?_ sa (fun ad cp => ?_)
  · show (0 + _) * 16 ≤ _ ∧ 0 + _ ≤ _
    omega
  repeat (first | refine awp_seq_k (fun K hK => ?_) | refine awp_region tyok ?_ | refine areg_text mixed tyok (by kernel_rfl) ?_ | refine awp_block ?_ | (((with_reducible refine tr_id ?_); first | refine qp ?_ | refine TR.nil ?_ | (refine tr_guarded rfl ?_; first | refine qon ?_ | refine qoff ?_ | refine qopt ?_ | refine qhopt ?_) | refine qld ?_ | refine qpick ?_ | refine qal tyok (fun bx => ?_) | refine qbox (fun bx => ?_) | refine qboxV (fun bx => ?_) | refine qstV tyok ?_ | refine qst tyok ?_ | refine qbs tyok ?_)) | refine awp_cond_true rfl ?_ | refine awp_cond_false rfl ?_ | refine awp_skip ?_ | refine awp_exit ?_ | refine awp_ret ?_ | refine awp_label ?_ | (with_reducible refine thenQ_normal ?_) | (with_reducible refine blockQ_normal ?_) | (with_reducible refine thenQ_exit ?_) | (with_reducible refine blockQ_hit ?_) | refine blockQ_miss rfl ?_ | (with_reducible refine thenQ_ret ?_) | (with_reducible refine blockQ_ret ?_) | (with_reducible refine thenQ_panic ?_) | (with_reducible refine blockQ_panic ?_) | ((repeat ((fail_if_success (refine hK _ _ ?_)); clear hK)); refine hK _ _ ?_; clear hK))
  refine TR.appendF tyok (fun _ _ => mono b) rfl rfl rfl rfl (by first | exact True.intro | exact ⟨id, True.intro⟩ | exact ⟨id, id, True.intro⟩ | exact ⟨id, id, id, True.intro⟩) rfl rfl rfl rfl rfl rfl rfl rfl rfl ?_ sb (fun ad cp => ?_)
  · show (0 + _) * 16 ≤ _ ∧ 0 + _ ≤ _
    omega
  repeat (first | refine awp_seq_k (fun K hK => ?_) | refine awp_region tyok ?_ | refine areg_text mixed tyok (by kernel_rfl) ?_ | refine awp_block ?_ | (((with_reducible refine tr_id ?_); first | refine qp ?_ | refine TR.nil ?_ | (refine tr_guarded rfl ?_; first | refine qon ?_ | refine qoff ?_ | refine qopt ?_ | refine qhopt ?_) | refine qld ?_ | refine qpick ?_ | refine qal tyok (fun bx => ?_) | refine qbox (fun bx => ?_) | refine qboxV (fun bx => ?_) | refine qstV tyok ?_ | refine qst tyok ?_ | refine qbs tyok ?_ | refine TR.pcall rfl rfl rfl rfl True.intro rfl rfl (t1) ?_ | refine TR.pcall rfl rfl rfl rfl True.intro rfl rfl (t2) ?_ | refine TR.pcall rfl rfl rfl rfl True.intro rfl rfl (o1) ?_ | refine TR.pcall rfl rfl rfl rfl True.intro rfl rfl (o2) ?_ | refine TR.pcall rfl rfl rfl rfl True.intro rfl rfl (s1) ?_ | refine TR.pcall rfl rfl rfl rfl True.intro rfl rfl (s2) ?_ | refine TR.pcall rfl rfl rfl rfl True.intro rfl rfl (s3) ?_ | refine TR.pcall rfl rfl rfl rfl True.intro rfl rfl (s4) ?_ | refine TR.pcall rfl rfl rfl rfl True.intro rfl rfl (p1) ?_ | refine TR.pcall rfl rfl rfl rfl True.intro rfl rfl (p2) ?_ | refine TR.pcall rfl rfl rfl rfl True.intro rfl rfl (known_c) ?_ | refine TR.pcallopt rfl rfl rfl rfl rfl rfl (by (first | exact True.intro | exact ⟨id, True.intro⟩ | exact ⟨id, id, True.intro⟩ | exact ⟨id, id, id, True.intro⟩)) rfl rfl (fun _ => t1) ?_ | refine TR.pcallopt rfl rfl rfl rfl rfl rfl (by (first | exact True.intro | exact ⟨id, True.intro⟩ | exact ⟨id, id, True.intro⟩ | exact ⟨id, id, id, True.intro⟩)) rfl rfl (fun _ => t2) ?_ | refine TR.pcallopt rfl rfl rfl rfl rfl rfl (by (first | exact True.intro | exact ⟨id, True.intro⟩ | exact ⟨id, id, True.intro⟩ | exact ⟨id, id, id, True.intro⟩)) rfl rfl (fun _ => o1) ?_ | refine TR.pcallopt rfl rfl rfl rfl rfl rfl (by (first | exact True.intro | exact ⟨id, True.intro⟩ | exact ⟨id, id, True.intro⟩ | exact ⟨id, id, id, True.intro⟩)) rfl rfl (fun _ => o2) ?_ | refine TR.pcallopt rfl rfl rfl rfl rfl rfl (by (first | exact True.intro | exact ⟨id, True.intro⟩ | exact ⟨id, id, True.intro⟩ | exact ⟨id, id, id, True.intro⟩)) rfl rfl (fun _ => s1) ?_ | refine TR.pcallopt rfl rfl rfl rfl rfl rfl (by (first | exact True.intro | exact ⟨id, True.intro⟩ | exact ⟨id, id, True.intro⟩ | exact ⟨id, id, id, True.intro⟩)) rfl rfl (fun _ => s2) ?_ | refine TR.pcallopt rfl rfl rfl rfl rfl rfl (by (first | exact True.intro | exact ⟨id, True.intro⟩ | exact ⟨id, id, True.intro⟩ | exact ⟨id, id, id, True.intro⟩)) rfl rfl (fun _ => s3) ?_ | refine TR.pcallopt rfl rfl rfl rfl rfl rfl (by (first | exact True.intro | exact ⟨id, True.intro⟩ | exact ⟨id, id, True.intro⟩ | exact ⟨id, id, id, True.intro⟩)) rfl rfl (fun _ => s4) ?_ | refine TR.pcallopt rfl rfl rfl rfl rfl rfl (by (first | exact True.intro | exact ⟨id, True.intro⟩ | exact ⟨id, id, True.intro⟩ | exact ⟨id, id, id, True.intro⟩)) rfl rfl (fun _ => p1) ?_ | refine TR.pcallopt rfl rfl rfl rfl rfl rfl (by (first | exact True.intro | exact ⟨id, True.intro⟩ | exact ⟨id, id, True.intro⟩ | exact ⟨id, id, id, True.intro⟩)) rfl rfl (fun _ => p2) ?_ | refine TR.pcallopt rfl rfl rfl rfl rfl rfl (by (first | exact True.intro | exact ⟨id, True.intro⟩ | exact ⟨id, id, True.intro⟩ | exact ⟨id, id, id, True.intro⟩)) rfl rfl (fun _ => known_c) ?_)) | refine awp_cond_true rfl ?_ | refine awp_cond_false rfl ?_ | refine awp_skip ?_ | refine awp_exit ?_ | refine awp_ret ?_ | refine awp_label ?_ | (with_reducible refine thenQ_normal ?_) | (with_reducible refine blockQ_normal ?_) | (with_reducible refine thenQ_exit ?_) | (with_reducible refine blockQ_hit ?_) | refine blockQ_miss rfl ?_ | (with_reducible refine thenQ_ret ?_) | (with_reducible refine blockQ_ret ?_) | (with_reducible refine thenQ_panic ?_) | (with_reducible refine blockQ_panic ?_) | ((repeat ((fail_if_success (refine hK _ _ ?_)); clear hK)); refine hK _ _ ?_; clear hK))
  refine r1 ?_
  refine Sub.of_eq ?_
  simp

end Go.Proofs.Ytmjigepfjcokdaa
