/-
  Package mono: degrees, classes, and the law's small functions.
-/
import Derived.Test.YtmjigepfjcokdaaMo5
import Derived.Laws.StructEq
namespace Go.Proofs.Ytmjigepfjcokdaa
open Go.Ab

def plainF (m : List Pw) : List Pw := if may m then m else []

theorem plainF_len (m : List Pw) : (plainF m).length ≤ m.length := by unfold plainF; split <;> simp

theorem cbPlain : Callable Try.prog 39 := fun _ _ => by kernel_rfl
theorem plain_c (m : List Pw) (hm : m.length ≤ 400000) : PCalls Try.prog 39 [mono m] (mono (plainF m)) := by
  refine pcalls_of_awp tyok cbPlain Try.func39 rfl rfl ?_
  unfold plainF
  cases hA : may m
  · have pa := mayc (by omega) hA
    repeat (first | refine awp_seq_k (fun K hK => ?_) | refine awp_region tyok ?_ | refine areg_text mixed tyok (by kernel_rfl) ?_ | refine awp_block ?_ | (((with_reducible refine tr_id ?_); first | refine qp ?_ | refine TR.nil ?_ | (refine tr_guarded rfl ?_; first | refine qon ?_ | refine qoff ?_ | refine qopt ?_ | refine qhopt ?_ | refine qgp ?_) | refine qld ?_ | refine qpick ?_ | refine qal tyok (fun bx => ?_) | refine qbox (fun bx => ?_) | refine qboxV (fun bx => ?_) | refine qstV tyok ?_ | refine qst tyok ?_ | refine qbs tyok ?_ | refine TR.pcall rfl rfl rfl rfl True.intro rfl rfl (pa) ?_ | refine TR.pcallopt rfl rfl rfl rfl rfl rfl (by (first | exact True.intro | exact ⟨id, True.intro⟩ | exact ⟨id, id, True.intro⟩ | exact ⟨id, id, id, True.intro⟩)) rfl rfl (fun _ => pa) ?_)) | refine awp_cond_true rfl ?_ | refine awp_cond_false rfl ?_ | refine awp_skip ?_ | refine awp_exit ?_ | refine awp_ret ?_ | refine awp_label ?_ | (with_reducible refine thenQ_normal ?_) | (with_reducible refine blockQ_normal ?_) | (with_reducible refine thenQ_exit ?_) | (with_reducible refine blockQ_hit ?_) | refine blockQ_miss rfl ?_ | (with_reducible refine thenQ_ret ?_) | (with_reducible refine blockQ_ret ?_) | (with_reducible refine thenQ_panic ?_) | (with_reducible refine blockQ_panic ?_) | ((repeat ((fail_if_success (refine hK _ _ ?_)); clear hK)); refine hK _ _ ?_; clear hK))
    refine r1 ?_
    exact Sub.nilsv _ _
  · have pa := mayc (by omega) hA
    repeat (first | refine awp_seq_k (fun K hK => ?_) | refine awp_region tyok ?_ | refine areg_text mixed tyok (by kernel_rfl) ?_ | refine awp_block ?_ | (((with_reducible refine tr_id ?_); first | refine qp ?_ | refine TR.nil ?_ | (refine tr_guarded rfl ?_; first | refine qon ?_ | refine qoff ?_ | refine qopt ?_ | refine qhopt ?_ | refine qgp ?_) | refine qld ?_ | refine qpick ?_ | refine qal tyok (fun bx => ?_) | refine qbox (fun bx => ?_) | refine qboxV (fun bx => ?_) | refine qstV tyok ?_ | refine qst tyok ?_ | refine qbs tyok ?_ | refine TR.pcall rfl rfl rfl rfl True.intro rfl rfl (pa) ?_ | refine TR.pcallopt rfl rfl rfl rfl rfl rfl (by (first | exact True.intro | exact ⟨id, True.intro⟩ | exact ⟨id, id, True.intro⟩ | exact ⟨id, id, id, True.intro⟩)) rfl rfl (fun _ => pa) ?_)) | refine awp_cond_true rfl ?_ | refine awp_cond_false rfl ?_ | refine awp_skip ?_ | refine awp_exit ?_ | refine awp_ret ?_ | refine awp_label ?_ | (with_reducible refine thenQ_normal ?_) | (with_reducible refine blockQ_normal ?_) | (with_reducible refine thenQ_exit ?_) | (with_reducible refine blockQ_hit ?_) | refine blockQ_miss rfl ?_ | (with_reducible refine thenQ_ret ?_) | (with_reducible refine blockQ_ret ?_) | (with_reducible refine thenQ_panic ?_) | (with_reducible refine blockQ_panic ?_) | ((repeat ((fail_if_success (refine hK _ _ ?_)); clear hK)); refine hK _ _ ?_; clear hK))
    refine r1 ?_
    exact Sub.refl _

theorem cbCommon : Callable Try.prog 19 := fun _ _ => by kernel_rfl
theorem common_c (a b : List Pw) (ha : a.length ≤ 400000) (hb : b.length ≤ 400000) : PCalls Try.prog 19 [mono a, mono b] (mono (madeF gMin (zipM (plainF a) (plainF b)))) := by
  refine pcalls_of_awp tyok cbCommon Try.func19 rfl rfl ?_
  have h1 := plainF_len a
  have h2 := plainF_len b
  repeat (first | refine awp_seq_k (fun K hK => ?_) | refine awp_region tyok ?_ | refine areg_text mixed tyok (by kernel_rfl) ?_ | refine awp_block ?_ | (((with_reducible refine tr_id ?_); first | refine qp ?_ | refine TR.nil ?_ | (refine tr_guarded rfl ?_; first | refine qon ?_ | refine qoff ?_ | refine qopt ?_ | refine qhopt ?_ | refine qgp ?_) | refine qld ?_ | refine qpick ?_ | refine qal tyok (fun bx => ?_) | refine qbox (fun bx => ?_) | refine qboxV (fun bx => ?_) | refine qstV tyok ?_ | refine qst tyok ?_ | refine qbs tyok ?_ | refine TR.pcall rfl rfl rfl rfl True.intro rfl rfl (plain_c a ha) ?_ | refine TR.pcall rfl rfl rfl rfl True.intro rfl rfl (plain_c b hb) ?_ | refine TR.pcall rfl rfl rfl rfl True.intro rfl rfl (made_min (plainF a) (plainF b) (by omega) (by omega)) ?_ | refine TR.pcallopt rfl rfl rfl rfl rfl rfl (by (first | exact True.intro | exact ⟨id, True.intro⟩ | exact ⟨id, id, True.intro⟩ | exact ⟨id, id, id, True.intro⟩)) rfl rfl (fun _ => plain_c a ha) ?_ | refine TR.pcallopt rfl rfl rfl rfl rfl rfl (by (first | exact True.intro | exact ⟨id, True.intro⟩ | exact ⟨id, id, True.intro⟩ | exact ⟨id, id, id, True.intro⟩)) rfl rfl (fun _ => plain_c b hb) ?_ | refine TR.pcallopt rfl rfl rfl rfl rfl rfl (by (first | exact True.intro | exact ⟨id, True.intro⟩ | exact ⟨id, id, True.intro⟩ | exact ⟨id, id, id, True.intro⟩)) rfl rfl (fun _ => made_min (plainF a) (plainF b) (by omega) (by omega)) ?_)) | refine awp_cond_true rfl ?_ | refine awp_cond_false rfl ?_ | refine awp_skip ?_ | refine awp_exit ?_ | refine awp_ret ?_ | refine awp_label ?_ | (with_reducible refine thenQ_normal ?_) | (with_reducible refine blockQ_normal ?_) | (with_reducible refine thenQ_exit ?_) | (with_reducible refine blockQ_hit ?_) | refine blockQ_miss rfl ?_ | (with_reducible refine thenQ_ret ?_) | (with_reducible refine blockQ_ret ?_) | (with_reducible refine thenQ_panic ?_) | (with_reducible refine blockQ_panic ?_) | ((repeat ((fail_if_success (refine hK _ _ ?_)); clear hK)); refine hK _ _ ?_; clear hK))
  refine r1 ?_
  exact Sub.refl _

theorem cbLeast : Callable Try.prog 20 := fun _ _ => by kernel_rfl
theorem least_c (a b : List Pw) (ha : a.length ≤ 400000) (hb : b.length ≤ 400000) : PCalls Try.prog 20 [mono a, mono b] (mono (madeF gMax (zipM (plainF a) (plainF b)))) := by
  refine pcalls_of_awp tyok cbLeast Try.func20 rfl rfl ?_
  have h1 := plainF_len a
  have h2 := plainF_len b
  repeat (first | refine awp_seq_k (fun K hK => ?_) | refine awp_region tyok ?_ | refine areg_text mixed tyok (by kernel_rfl) ?_ | refine awp_block ?_ | (((with_reducible refine tr_id ?_); first | refine qp ?_ | refine TR.nil ?_ | (refine tr_guarded rfl ?_; first | refine qon ?_ | refine qoff ?_ | refine qopt ?_ | refine qhopt ?_ | refine qgp ?_) | refine qld ?_ | refine qpick ?_ | refine qal tyok (fun bx => ?_) | refine qbox (fun bx => ?_) | refine qboxV (fun bx => ?_) | refine qstV tyok ?_ | refine qst tyok ?_ | refine qbs tyok ?_ | refine TR.pcall rfl rfl rfl rfl True.intro rfl rfl (plain_c a ha) ?_ | refine TR.pcall rfl rfl rfl rfl True.intro rfl rfl (plain_c b hb) ?_ | refine TR.pcall rfl rfl rfl rfl True.intro rfl rfl (made_max (plainF a) (plainF b) (by omega) (by omega)) ?_ | refine TR.pcallopt rfl rfl rfl rfl rfl rfl (by (first | exact True.intro | exact ⟨id, True.intro⟩ | exact ⟨id, id, True.intro⟩ | exact ⟨id, id, id, True.intro⟩)) rfl rfl (fun _ => plain_c a ha) ?_ | refine TR.pcallopt rfl rfl rfl rfl rfl rfl (by (first | exact True.intro | exact ⟨id, True.intro⟩ | exact ⟨id, id, True.intro⟩ | exact ⟨id, id, id, True.intro⟩)) rfl rfl (fun _ => plain_c b hb) ?_ | refine TR.pcallopt rfl rfl rfl rfl rfl rfl (by (first | exact True.intro | exact ⟨id, True.intro⟩ | exact ⟨id, id, True.intro⟩ | exact ⟨id, id, id, True.intro⟩)) rfl rfl (fun _ => made_max (plainF a) (plainF b) (by omega) (by omega)) ?_)) | refine awp_cond_true rfl ?_ | refine awp_cond_false rfl ?_ | refine awp_skip ?_ | refine awp_exit ?_ | refine awp_ret ?_ | refine awp_label ?_ | (with_reducible refine thenQ_normal ?_) | (with_reducible refine blockQ_normal ?_) | (with_reducible refine thenQ_exit ?_) | (with_reducible refine blockQ_hit ?_) | refine blockQ_miss rfl ?_ | (with_reducible refine thenQ_ret ?_) | (with_reducible refine blockQ_ret ?_) | (with_reducible refine thenQ_panic ?_) | (with_reducible refine blockQ_panic ?_) | ((repeat ((fail_if_success (refine hK _ _ ?_)); clear hK)); refine hK _ _ ?_; clear hK))
  refine r1 ?_
  exact Sub.refl _

def classF (m : List Pw) : Int := match (plainF m).getLast? with | some p => p.1 | none => 0

theorem cbClass : Callable Try.prog 23 := fun _ _ => by kernel_rfl
theorem class_c (m : List Pw) (hm : m.length ≤ 400000) : PCalls Try.prog 23 [mono m] (.int .i64 (classF m)) := by
  refine pcalls_of_awp tyok cbClass Try.func23 rfl rfl ?_
  unfold classF
  have hl := plainF_len m
  have pp := plain_c m hm
  generalize plainF m = q at *
  by_cases hq : q = []
  · subst hq
    repeat (first | refine awp_seq_k (fun K hK => ?_) | refine awp_region tyok ?_ | refine areg_text mixed tyok (by kernel_rfl) ?_ | refine awp_block ?_ | (((with_reducible refine tr_id ?_); first | refine qt ?_ | refine qf ?_ | refine qp ?_ | refine TR.nil ?_ | (refine tr_guarded rfl ?_; first | refine qon ?_ | refine qoff ?_ | refine qopt ?_ | refine qhopt ?_ | refine qgp ?_) | refine qld ?_ | refine qpick ?_ | refine qal tyok (fun bx => ?_) | refine qbox (fun bx => ?_) | refine qboxV (fun bx => ?_) | refine qstV tyok ?_ | refine qst tyok ?_ | refine qbs tyok ?_ | refine TR.pcall rfl rfl rfl rfl True.intro rfl rfl (pp) ?_ | refine TR.pcallopt rfl rfl rfl rfl rfl rfl (by (first | exact True.intro | exact ⟨id, True.intro⟩ | exact ⟨id, id, True.intro⟩ | exact ⟨id, id, id, True.intro⟩)) rfl rfl (fun _ => pp) ?_)) | refine awp_cond_true rfl ?_ | refine awp_cond_false rfl ?_ | refine awp_skip ?_ | refine awp_exit ?_ | refine awp_ret ?_ | refine awp_label ?_ | (with_reducible refine thenQ_normal ?_) | (with_reducible refine blockQ_normal ?_) | (with_reducible refine thenQ_exit ?_) | (with_reducible refine blockQ_hit ?_) | refine blockQ_miss rfl ?_ | (with_reducible refine thenQ_ret ?_) | (with_reducible refine blockQ_ret ?_) | (with_reducible refine thenQ_panic ?_) | (with_reducible refine blockQ_panic ?_) | ((repeat ((fail_if_success (refine hK _ _ ?_)); clear hK)); refine hK _ _ ?_; clear hK))
    refine r1 ?_
    exact Sub.refl _
  · have h0 : 0 < q.length := List.length_pos_iff.2 hq
    repeat (first | refine awp_seq_k (fun K hK => ?_) | refine awp_region tyok ?_ | refine areg_text mixed tyok (by kernel_rfl) ?_ | refine awp_block ?_ | (((with_reducible refine tr_id ?_); first | refine qt ?_ | refine qf ?_ | refine qp ?_ | refine TR.nil ?_ | (refine tr_guarded rfl ?_; first | refine qon ?_ | refine qoff ?_ | refine qopt ?_ | refine qhopt ?_ | refine qgp ?_) | refine qld ?_ | refine qpick ?_ | refine qal tyok (fun bx => ?_) | refine qbox (fun bx => ?_) | refine qboxV (fun bx => ?_) | refine qstV tyok ?_ | refine qst tyok ?_ | refine qbs tyok ?_ | refine TR.pcall rfl rfl rfl rfl True.intro rfl rfl (pp) ?_ | refine TR.pcallopt rfl rfl rfl rfl rfl rfl (by (first | exact True.intro | exact ⟨id, True.intro⟩ | exact ⟨id, id, True.intro⟩ | exact ⟨id, id, id, True.intro⟩)) rfl rfl (fun _ => pp) ?_)) | refine awp_cond_true rfl ?_ | refine awp_cond_false rfl ?_ | refine awp_skip ?_ | refine awp_exit ?_ | refine awp_ret ?_ | refine awp_label ?_ | (with_reducible refine thenQ_normal ?_) | (with_reducible refine blockQ_normal ?_) | (with_reducible refine thenQ_exit ?_) | (with_reducible refine blockQ_hit ?_) | refine blockQ_miss rfl ?_ | (with_reducible refine thenQ_ret ?_) | (with_reducible refine blockQ_ret ?_) | (with_reducible refine thenQ_panic ?_) | (with_reducible refine blockQ_panic ?_) | ((repeat ((fail_if_success (refine hK _ _ ?_)); clear hK)); refine hK _ _ ?_; clear hK))
    refine r1 ?_
    refine Sub.of_eq ?_
    have e : ((q.length : Int) - 1).toNat = q.length - 1 := by omega
    rw [e, List.getLast?_eq_getElem?, List.getD, List.getElem?_eq_getElem (by omega)]
    rfl

def degF (v : Int) : List Pw → Int
  | [] => 0
  | p :: m => if p.1 = v then p.2 else degF v m

theorem cbDegree : Callable Try.prog 21 := fun _ _ => by kernel_rfl
theorem degree_c (m : List Pw) (v : Int) (hm : m.length ≤ 400000) : PCalls Try.prog 21 [mono m, .int .i64 v] (.int .i64 (degF v (plainF m))) := by
  refine pcalls_of_awp tyok cbDegree Try.func21 rfl rfl ?_
  have hl := plainF_len m
  have pp := plain_c m hm
  generalize plainF m = q at *
  repeat (first | refine awp_seq_k (fun K hK => ?_) | refine awp_region tyok ?_ | refine areg_text mixed tyok (by kernel_rfl) ?_ | refine awp_block ?_ | (((with_reducible refine tr_id ?_); first | refine qp ?_ | refine TR.nil ?_ | (refine tr_guarded rfl ?_; first | refine qon ?_ | refine qoff ?_ | refine qopt ?_ | refine qhopt ?_ | refine qgp ?_) | refine qld ?_ | refine qpick ?_ | refine qal tyok (fun bx => ?_) | refine qbox (fun bx => ?_) | refine qboxV (fun bx => ?_) | refine qstV tyok ?_ | refine qst tyok ?_ | refine qbs tyok ?_ | refine TR.pcall rfl rfl rfl rfl True.intro rfl rfl (pp) ?_ | refine TR.pcallopt rfl rfl rfl rfl rfl rfl (by (first | exact True.intro | exact ⟨id, True.intro⟩ | exact ⟨id, id, True.intro⟩ | exact ⟨id, id, id, True.intro⟩)) rfl rfl (fun _ => pp) ?_)) | refine awp_cond_true rfl ?_ | refine awp_cond_false rfl ?_ | refine awp_skip ?_ | refine awp_exit ?_ | refine awp_ret ?_ | refine awp_label ?_ | (with_reducible refine thenQ_normal ?_) | (with_reducible refine blockQ_normal ?_) | (with_reducible refine thenQ_exit ?_) | (with_reducible refine blockQ_hit ?_) | refine blockQ_miss rfl ?_ | (with_reducible refine thenQ_ret ?_) | (with_reducible refine blockQ_ret ?_) | (with_reducible refine thenQ_panic ?_) | (with_reducible refine blockQ_panic ?_) | ((repeat ((fail_if_success (refine hK _ _ ?_)); clear hK)); refine hK _ _ ?_; clear hK))
  refine awp_loop0 (ι := { x : Nat // x ≤ q.length ∧ degF v q = degF v (q.drop x) })
    (fun x => [(10, .int .i64 x.1), (9, .int .i64 q.length), (8, mono q), (1, .int .i64 v)]) (fun _ => []) (fun x => q.length - x.1) ⟨0, Nat.zero_le _, rfl⟩ ?_ (by (first | exact ⟨0, rfl⟩ | exact ⟨1, rfl⟩ | exact ⟨2, rfl⟩ | exact ⟨3, rfl⟩ | exact ⟨4, rfl⟩)) ?_
  · (repeat (first | exact True.intro | refine ⟨⟨_, rfl, Sub.refl _⟩, ?_⟩ | refine ⟨⟨_, rfl, Sub.nilso _ _⟩, ?_⟩ | refine ⟨⟨_, rfl, sl_tail _ _ _ _ _⟩, ?_⟩ | refine ⟨⟨_, rfl, Sub.of_eq (by first | rfl | (congr 1; first | omega | (simp only; omega)) | (simp; done))⟩, ?_⟩ | refine ⟨⟨_, rfl, Sub.view _ _ _ _⟩, ?_⟩))
  rintro ⟨k, hk, hf⟩
  simp only at hk hf ⊢
  repeat (first | refine awp_seq_k (fun K hK => ?_) | refine awp_region tyok ?_ | refine areg_text mixed tyok (by kernel_rfl) ?_ | refine awp_block ?_ | (((with_reducible refine tr_id ?_); first | refine qp ?_ | refine TR.nil ?_ | (refine tr_guarded rfl ?_; first | refine qon ?_ | refine qoff ?_ | refine qopt ?_ | refine qhopt ?_ | refine qgp ?_) | refine qld ?_ | refine qpick ?_ | refine qal tyok (fun bx => ?_) | refine qbox (fun bx => ?_) | refine qboxV (fun bx => ?_) | refine qstV tyok ?_ | refine qst tyok ?_ | refine qbs tyok ?_)) | refine awp_cond_true rfl ?_ | refine awp_cond_false rfl ?_ | refine awp_skip ?_ | refine awp_exit ?_ | refine awp_ret ?_ | refine awp_label ?_ | (with_reducible refine thenQ_normal ?_) | (with_reducible refine blockQ_normal ?_) | (with_reducible refine thenQ_exit ?_) | (with_reducible refine blockQ_hit ?_) | refine blockQ_miss rfl ?_ | (with_reducible refine thenQ_ret ?_) | (with_reducible refine blockQ_ret ?_) | (with_reducible refine thenQ_panic ?_) | (with_reducible refine blockQ_panic ?_) | ((repeat ((fail_if_success (refine hK _ _ ?_)); clear hK)); refine hK _ _ ?_; clear hK))
  refine awp_cond rfl (fun hb => ?_) (fun hb => ?_)
  · have hlt : k < q.length := by simpa using hb
    have hd : q.drop k = q.getD k default :: q.drop (k + 1) := drop_getD hlt
    repeat (first | refine awp_seq_k (fun K hK => ?_) | refine awp_region tyok ?_ | refine areg_text mixed tyok (by kernel_rfl) ?_ | refine awp_block ?_ | (((with_reducible refine tr_id ?_); first | refine qp ?_ | refine TR.nil ?_ | (refine tr_guarded rfl ?_; first | refine qon ?_ | refine qoff ?_ | refine qopt ?_ | refine qhopt ?_ | refine qgp ?_) | refine qld ?_ | refine qpick ?_ | refine qal tyok (fun bx => ?_) | refine qbox (fun bx => ?_) | refine qboxV (fun bx => ?_) | refine qstV tyok ?_ | refine qst tyok ?_ | refine qbs tyok ?_)) | refine awp_cond_true rfl ?_ | refine awp_cond_false rfl ?_ | refine awp_skip ?_ | refine awp_exit ?_ | refine awp_ret ?_ | refine awp_label ?_ | (with_reducible refine thenQ_normal ?_) | (with_reducible refine blockQ_normal ?_) | (with_reducible refine thenQ_exit ?_) | (with_reducible refine blockQ_hit ?_) | refine blockQ_miss rfl ?_ | (with_reducible refine thenQ_ret ?_) | (with_reducible refine blockQ_ret ?_) | (with_reducible refine thenQ_panic ?_) | (with_reducible refine blockQ_panic ?_) | ((repeat ((fail_if_success (refine hK _ _ ?_)); clear hK)); refine hK _ _ ?_; clear hK))
    refine awp_cond rfl (fun hb => ?_) (fun hb => ?_)
    · repeat (first | refine awp_seq_k (fun K hK => ?_) | refine awp_region tyok ?_ | refine areg_text mixed tyok (by kernel_rfl) ?_ | refine awp_block ?_ | (((with_reducible refine tr_id ?_); first | refine qp ?_ | refine TR.nil ?_ | (refine tr_guarded rfl ?_; first | refine qon ?_ | refine qoff ?_ | refine qopt ?_ | refine qhopt ?_ | refine qgp ?_) | refine qld ?_ | refine qpick ?_ | refine qal tyok (fun bx => ?_) | refine qbox (fun bx => ?_) | refine qboxV (fun bx => ?_) | refine qstV tyok ?_ | refine qst tyok ?_ | refine qbs tyok ?_)) | refine awp_cond_true rfl ?_ | refine awp_cond_false rfl ?_ | refine awp_skip ?_ | refine awp_exit ?_ | refine awp_ret ?_ | refine awp_label ?_ | (with_reducible refine thenQ_normal ?_) | (with_reducible refine blockQ_normal ?_) | (with_reducible refine thenQ_exit ?_) | (with_reducible refine blockQ_hit ?_) | refine blockQ_miss rfl ?_ | (with_reducible refine thenQ_ret ?_) | (with_reducible refine blockQ_ret ?_) | (with_reducible refine thenQ_panic ?_) | (with_reducible refine blockQ_panic ?_) | ((repeat ((fail_if_success (refine hK _ _ ?_)); clear hK)); refine hK _ _ ?_; clear hK))
      refine r1 ?_
      refine Sub.of_eq ?_
      rw [hf, hd, degF, if_pos (by simpa using hb)]
      rfl
    · repeat (first | refine awp_seq_k (fun K hK => ?_) | refine awp_region tyok ?_ | refine areg_text mixed tyok (by kernel_rfl) ?_ | refine awp_block ?_ | (((with_reducible refine tr_id ?_); first | refine qp ?_ | refine TR.nil ?_ | (refine tr_guarded rfl ?_; first | refine qon ?_ | refine qoff ?_ | refine qopt ?_ | refine qhopt ?_ | refine qgp ?_) | refine qld ?_ | refine qpick ?_ | refine qal tyok (fun bx => ?_) | refine qbox (fun bx => ?_) | refine qboxV (fun bx => ?_) | refine qstV tyok ?_ | refine qst tyok ?_ | refine qbs tyok ?_)) | refine awp_cond_true rfl ?_ | refine awp_cond_false rfl ?_ | refine awp_skip ?_ | refine awp_exit ?_ | refine awp_ret ?_ | refine awp_label ?_ | (with_reducible refine thenQ_normal ?_) | (with_reducible refine blockQ_normal ?_) | (with_reducible refine thenQ_exit ?_) | (with_reducible refine blockQ_hit ?_) | refine blockQ_miss rfl ?_ | (with_reducible refine thenQ_ret ?_) | (with_reducible refine blockQ_ret ?_) | (with_reducible refine thenQ_panic ?_) | (with_reducible refine blockQ_panic ?_) | ((repeat ((fail_if_success (refine hK _ _ ?_)); clear hK)); refine hK _ _ ?_; clear hK))
      refine ⟨⟨k + 1, hlt, ?_⟩, ?_, (by (first | exact ⟨0, rfl⟩ | exact ⟨1, rfl⟩ | exact ⟨2, rfl⟩ | exact ⟨3, rfl⟩ | exact ⟨4, rfl⟩)), ?_⟩
      · rw [hf, hd, degF, if_neg (by simpa using hb)]
      · (repeat (first | exact True.intro | refine ⟨⟨_, rfl, Sub.refl _⟩, ?_⟩ | refine ⟨⟨_, rfl, Sub.nilso _ _⟩, ?_⟩ | refine ⟨⟨_, rfl, sl_tail _ _ _ _ _⟩, ?_⟩ | refine ⟨⟨_, rfl, Sub.of_eq (by first | rfl | (congr 1; first | omega | (simp only; omega)) | (simp; done))⟩, ?_⟩ | refine ⟨⟨_, rfl, Sub.view _ _ _ _⟩, ?_⟩))
      · simp only; omega
  · have hge : k = q.length := by simp at hb; omega
    repeat (first | refine awp_seq_k (fun K hK => ?_) | refine awp_region tyok ?_ | refine areg_text mixed tyok (by kernel_rfl) ?_ | refine awp_block ?_ | (((with_reducible refine tr_id ?_); first | refine qp ?_ | refine TR.nil ?_ | (refine tr_guarded rfl ?_; first | refine qon ?_ | refine qoff ?_ | refine qopt ?_ | refine qhopt ?_ | refine qgp ?_) | refine qld ?_ | refine qpick ?_ | refine qal tyok (fun bx => ?_) | refine qbox (fun bx => ?_) | refine qboxV (fun bx => ?_) | refine qstV tyok ?_ | refine qst tyok ?_ | refine qbs tyok ?_)) | refine awp_cond_true rfl ?_ | refine awp_cond_false rfl ?_ | refine awp_skip ?_ | refine awp_exit ?_ | refine awp_ret ?_ | refine awp_label ?_ | (with_reducible refine thenQ_normal ?_) | (with_reducible refine blockQ_normal ?_) | (with_reducible refine thenQ_exit ?_) | (with_reducible refine blockQ_hit ?_) | refine blockQ_miss rfl ?_ | (with_reducible refine thenQ_ret ?_) | (with_reducible refine blockQ_ret ?_) | (with_reducible refine thenQ_panic ?_) | (with_reducible refine blockQ_panic ?_) | ((repeat ((fail_if_success (refine hK _ _ ?_)); clear hK)); refine hK _ _ ?_; clear hK))
    refine r1 ?_
    refine Sub.of_eq ?_
    rw [hf, hge]
    simp [degF]

def withoutF (v : Int) (m : List Pw) : List Pw := m.filter fun p => decide (p.1 ≠ v)

end Go.Proofs.Ytmjigepfjcokdaa
