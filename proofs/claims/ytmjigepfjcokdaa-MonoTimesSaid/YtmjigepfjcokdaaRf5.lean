/-
  The document's answers for monomials: the degree, the class, the order, one without a variable.
-/
import Derived.Test.YtmjigepfjcokdaaRf4
namespace Go.Proofs.Ytmjigepfjcokdaa
open Go.Ab

theorem cbRDegree : Callable Try.prog 22 := fun _ _ => by kernel_rfl
set_option maxRecDepth 4000 in
theorem rdegree_c (m : List Pw) (v : Int) (hm : m.length ≤ 400000) : PCalls Try.prog 22 [mono m, .int .i64 v] (.int .i64 (degF v (plainF m))) := by
  refine pcalls_of_awp tyok cbRDegree Try.func22 rfl rfl ?_
  have xa := exps_c m (by omega)
  have hA := may_plain m
  generalize plainF m = A at *
  repeat (first | refine awp_seq_k (fun K hK => ?_) | refine awp_region tyok ?_ | refine areg_text mixed tyok (by kernel_rfl) ?_ | refine awp_block ?_ | (((with_reducible refine tr_id ?_); first | refine qp ?_ | refine TR.nil ?_ | (refine tr_guarded rfl ?_; first | refine qon ?_ | refine qoff ?_ | refine qopt ?_ | refine qhopt ?_) | refine qld ?_ | refine qpick ?_ | refine qal tyok (fun bx => ?_) | refine qbox (fun bx => ?_) | refine qboxV (fun bx => ?_) | refine qstV tyok ?_ | refine qst tyok ?_ | refine qbs tyok ?_)) | refine awp_cond_true rfl ?_ | refine awp_cond_false rfl ?_ | refine awp_skip ?_ | refine awp_exit ?_ | refine awp_ret ?_ | refine awp_label ?_ | (with_reducible refine thenQ_normal ?_) | (with_reducible refine blockQ_normal ?_) | (with_reducible refine thenQ_exit ?_) | (with_reducible refine blockQ_hit ?_) | refine blockQ_miss rfl ?_ | (with_reducible refine thenQ_ret ?_) | (with_reducible refine blockQ_ret ?_) | (with_reducible refine thenQ_panic ?_) | (with_reducible refine blockQ_panic ?_) | ((repeat ((fail_if_success (refine hK _ _ ?_)); clear hK)); refine hK _ _ ?_; clear hK))
  refine awp_cond rfl (fun hc => ?_) (fun hc => ?_)
  · simp only [Bool.or_eq_true, decide_eq_true_eq] at hc
    repeat (first | refine awp_seq_k (fun K hK => ?_) | refine awp_region tyok ?_ | refine areg_text mixed tyok (by kernel_rfl) ?_ | refine awp_block ?_ | (((with_reducible refine tr_id ?_); first | refine qp ?_ | refine TR.nil ?_ | (refine tr_guarded rfl ?_; first | refine qon ?_ | refine qoff ?_ | refine qopt ?_ | refine qhopt ?_) | refine qld ?_ | refine qpick ?_ | refine qal tyok (fun bx => ?_) | refine qbox (fun bx => ?_) | refine qboxV (fun bx => ?_) | refine qstV tyok ?_ | refine qst tyok ?_ | refine qbs tyok ?_)) | refine awp_cond_true rfl ?_ | refine awp_cond_false rfl ?_ | refine awp_skip ?_ | refine awp_exit ?_ | refine awp_ret ?_ | refine awp_label ?_ | (with_reducible refine thenQ_normal ?_) | (with_reducible refine blockQ_normal ?_) | (with_reducible refine thenQ_exit ?_) | (with_reducible refine blockQ_hit ?_) | refine blockQ_miss rfl ?_ | (with_reducible refine thenQ_ret ?_) | (with_reducible refine blockQ_ret ?_) | (with_reducible refine thenQ_panic ?_) | (with_reducible refine blockQ_panic ?_) | ((repeat ((fail_if_success (refine hK _ _ ?_)); clear hK)); refine hK _ _ ?_; clear hK))
    refine r1 ?_
    rw [deg_out hA (by omega)]
    exact Sub.refl _
  · simp only [Bool.or_eq_false_iff, decide_eq_false_iff_not] at hc
    repeat (first | refine awp_seq_k (fun K hK => ?_) | refine awp_region tyok ?_ | refine areg_text mixed tyok (by kernel_rfl) ?_ | refine awp_block ?_ | (((with_reducible refine tr_id ?_); first | refine qp ?_ | refine TR.nil ?_ | (refine tr_guarded rfl ?_; first | refine qon ?_ | refine qoff ?_ | refine qopt ?_ | refine qhopt ?_) | refine qld ?_ | refine qpick ?_ | refine qal tyok (fun bx => ?_) | refine qbox (fun bx => ?_) | refine qboxV (fun bx => ?_) | refine qstV tyok ?_ | refine qst tyok ?_ | refine qbs tyok ?_ | refine TR.pcall rfl rfl rfl rfl True.intro rfl rfl (xa) ?_ | refine TR.pcallopt rfl rfl rfl rfl rfl rfl (by (first | exact True.intro | exact ⟨id, True.intro⟩ | exact ⟨id, id, True.intro⟩ | exact ⟨id, id, id, True.intro⟩)) rfl rfl (fun _ => xa) ?_)) | refine awp_cond_true rfl ?_ | refine awp_cond_false rfl ?_ | refine awp_skip ?_ | refine awp_exit ?_ | refine awp_ret ?_ | refine awp_label ?_ | (with_reducible refine thenQ_normal ?_) | (with_reducible refine blockQ_normal ?_) | (with_reducible refine thenQ_exit ?_) | (with_reducible refine blockQ_hit ?_) | refine blockQ_miss rfl ?_ | (with_reducible refine thenQ_ret ?_) | (with_reducible refine blockQ_ret ?_) | (with_reducible refine thenQ_panic ?_) | (with_reducible refine blockQ_panic ?_) | ((repeat ((fail_if_success (refine hK _ _ ?_)); clear hK)); refine hK _ _ ?_; clear hK))
    refine r1 ?_
    refine Sub.of_eq ?_
    have e : ((v.toNat : Nat) : Int) = v := by omega
    simp only [e]

theorem class_of {m : List Pw} {v : Int} (h : 0 < degF v (plainF m)) (hi : ∀ u, v < u → degF u (plainF m) = 0) : classF m = v := by
  have hA := may_plain m
  unfold classF
  generalize plainF m = A at *
  cases hl : A.getLast? with
  | none =>
    rw [List.getLast?_eq_none_iff] at hl
    subst hl
    simp [degF] at h
  | some l =>
    simp only
    have hs := may_srt hA
    obtain ⟨q, hq⟩ := List.getLast?_eq_some_iff.1 hl
    have hm : l ∈ A := by rw [hq]; simp
    have e1 := deg_of_mem hs.1 hm
    have p1 := hs.2 l hm
    obtain ⟨p, hp, e⟩ := deg_mem (m := A) (v := v) (by omega)
    have h1 : ¬ v < l.1 := fun hlt => by
      have := hi l.1 hlt
      omega
    have h2 : v ≤ l.1 := by
      rw [hq] at hp hs
      rcases List.mem_append.1 hp with hp | hp
      · have := (List.pairwise_append.1 hs.1).2.2 p hp l (by simp)
        simp only [Lt2] at this
        omega
      · simp only [List.mem_singleton] at hp
        subst hp
        omega
    omega

theorem class_zero {m : List Pw} (hi : ∀ u, degF u (plainF m) = 0) : classF m = 0 := by
  have hA := may_plain m
  unfold classF
  generalize plainF m = A at *
  cases hl : A.getLast? with
  | none => rfl
  | some l =>
    exfalso
    have hs := may_srt hA
    obtain ⟨q, hq⟩ := List.getLast?_eq_some_iff.1 hl
    have hm : l ∈ A := by rw [hq]; simp
    have e1 := deg_of_mem hs.1 hm
    have p1 := hs.2 l hm
    have := hi l.1
    omega

theorem cbRClass : Callable Try.prog 24 := fun _ _ => by kernel_rfl
set_option maxRecDepth 4000 in
theorem rclass_c (m : List Pw) (hm : m.length ≤ 400000) : PCalls Try.prog 24 [mono m] (.int .i64 (classF m)) := by
  refine pcalls_of_awp tyok cbRClass Try.func24 rfl rfl ?_
  have xa := exps_c m (by omega)
  have hA := may_plain m
  have cz := class_zero (m := m)
  have co := fun v => class_of (m := m) (v := v)
  generalize plainF m = A at *
  ((repeat (first | refine awp_seq_k (fun K hK => ?_) | refine awp_region tyok ?_ | refine areg_text mixed tyok (by kernel_rfl) ?_ | refine awp_block ?_ | (((with_reducible refine tr_id ?_); first | refine qp ?_ | refine TR.nil ?_ | (refine tr_guarded rfl ?_; first | refine qon ?_ | refine qoff ?_ | refine qopt ?_ | refine qhopt ?_) | refine qld ?_ | refine qpick ?_ | refine qstV tyok ?_ | refine qst tyok ?_ | refine qbs tyok ?_ | refine TR.pcall rfl rfl rfl rfl True.intro rfl rfl (xa) ?_ | refine TR.pcallopt rfl rfl rfl rfl rfl rfl (by (first | exact True.intro | exact ⟨id, True.intro⟩ | exact ⟨id, id, True.intro⟩ | exact ⟨id, id, id, True.intro⟩)) rfl rfl (fun _ => xa) ?_)) | refine awp_cond_true rfl ?_ | refine awp_cond_false rfl ?_ | refine awp_skip ?_ | refine awp_exit ?_ | refine awp_ret ?_ | refine awp_label ?_ | (with_reducible refine thenQ_normal ?_) | (with_reducible refine blockQ_normal ?_) | (with_reducible refine thenQ_exit ?_) | (with_reducible refine blockQ_hit ?_) | refine blockQ_miss rfl ?_ | (with_reducible refine thenQ_ret ?_) | (with_reducible refine blockQ_ret ?_) | (with_reducible refine thenQ_panic ?_) | (with_reducible refine blockQ_panic ?_) | ((repeat ((fail_if_success (refine hK _ _ ?_)); clear hK)); refine hK _ _ ?_; clear hK))); ((first | refine qal tyok (fun b3 => ?_) | refine qbox (fun b3 => ?_) | refine qboxV (fun b3 => ?_))); (repeat (first | refine awp_seq_k (fun K hK => ?_) | refine awp_region tyok ?_ | refine areg_text mixed tyok (by kernel_rfl) ?_ | refine awp_block ?_ | (((with_reducible refine tr_id ?_); first | refine qp ?_ | refine TR.nil ?_ | (refine tr_guarded rfl ?_; first | refine qon ?_ | refine qoff ?_ | refine qopt ?_ | refine qhopt ?_) | refine qld ?_ | refine qpick ?_ | refine qal tyok (fun bx => ?_) | refine qbox (fun bx => ?_) | refine qboxV (fun bx => ?_) | refine qstV tyok ?_ | refine qst tyok ?_ | refine qbs tyok ?_ | refine TR.pcall rfl rfl rfl rfl True.intro rfl rfl (xa) ?_ | refine TR.pcallopt rfl rfl rfl rfl rfl rfl (by (first | exact True.intro | exact ⟨id, True.intro⟩ | exact ⟨id, id, True.intro⟩ | exact ⟨id, id, id, True.intro⟩)) rfl rfl (fun _ => xa) ?_)) | refine awp_cond_true rfl ?_ | refine awp_cond_false rfl ?_ | refine awp_skip ?_ | refine awp_exit ?_ | refine awp_ret ?_ | refine awp_label ?_ | (with_reducible refine thenQ_normal ?_) | (with_reducible refine blockQ_normal ?_) | (with_reducible refine thenQ_exit ?_) | (with_reducible refine blockQ_hit ?_) | refine blockQ_miss rfl ?_ | (with_reducible refine thenQ_ret ?_) | (with_reducible refine blockQ_ret ?_) | (with_reducible refine thenQ_panic ?_) | (with_reducible refine blockQ_panic ?_) | ((repeat ((fail_if_success (refine hK _ _ ?_)); clear hK)); refine hK _ _ ?_; clear hK))))
  refine awp_loopK [3] rfl (ι := { x : Nat // x ≤ 200 ∧ ∀ u : Int, (x : Int) < u → degF u A = 0 })
    (fun x => [(4, .int .i64 (x.1 : Int))]) (fun x => [.box b3 44 (vecI fun j => degF j A)]) (fun x => x.1) ⟨200, Nat.le_refl _, fun u hu => deg_out hA (by omega)⟩ ?_ ⟨0, rfl⟩ ?_
  · (repeat (first | exact True.intro | refine ⟨⟨_, rfl, Sub.refl _⟩, ?_⟩ | refine ⟨⟨_, rfl, Sub.nilso _ _⟩, ?_⟩ | refine ⟨⟨_, rfl, sl_tail _ _ _ _ _⟩, ?_⟩ | refine ⟨⟨_, rfl, Sub.of_eq (by first | rfl | (congr 1; first | omega | (simp only; omega)) | (simp; done))⟩, ?_⟩ | refine ⟨⟨_, rfl, Sub.view _ _ _ _⟩, ?_⟩))
  rintro ⟨k, hk, hg⟩
  simp only at hk hg ⊢
  repeat (first | refine awp_seq_k (fun K hK => ?_) | refine awp_region tyok ?_ | refine areg_text mixed tyok (by kernel_rfl) ?_ | refine awp_block ?_ | (((with_reducible refine tr_id ?_); first | refine qp ?_ | refine TR.nil ?_ | (refine tr_guarded rfl ?_; first | refine qon ?_ | refine qoff ?_ | refine qopt ?_ | refine qhopt ?_) | refine qld ?_ | refine qpick ?_ | refine qal tyok (fun bx => ?_) | refine qbox (fun bx => ?_) | refine qboxV (fun bx => ?_) | refine qstV tyok ?_ | refine qst tyok ?_ | refine qbs tyok ?_)) | refine awp_cond_true rfl ?_ | refine awp_cond_false rfl ?_ | refine awp_skip ?_ | refine awp_exit ?_ | refine awp_ret ?_ | refine awp_label ?_ | (with_reducible refine thenQ_normal ?_) | (with_reducible refine blockQ_normal ?_) | (with_reducible refine thenQ_exit ?_) | (with_reducible refine blockQ_hit ?_) | refine blockQ_miss rfl ?_ | (with_reducible refine thenQ_ret ?_) | (with_reducible refine blockQ_ret ?_) | (with_reducible refine thenQ_panic ?_) | (with_reducible refine blockQ_panic ?_) | ((repeat ((fail_if_success (refine hK _ _ ?_)); clear hK)); refine hK _ _ ?_; clear hK))
  refine awp_cond rfl (fun hc => ?_) (fun hc => ?_)
  · have hpos : 1 ≤ k := by simp at hc; omega
    have e1 : 0 + (k : Int).toNat = k := by omega
    repeat (first | refine awp_seq_k (fun K hK => ?_) | refine awp_region tyok ?_ | refine areg_text mixed tyok (by kernel_rfl) ?_ | refine awp_block ?_ | (((with_reducible refine tr_id ?_); first | refine qp ?_ | refine TR.nil ?_ | (refine tr_guarded rfl ?_; first | refine qon ?_ | refine qoff ?_ | refine qopt ?_ | refine qhopt ?_) | refine qld ?_ | refine qpick ?_ | refine qal tyok (fun bx => ?_) | refine qbox (fun bx => ?_) | refine qboxV (fun bx => ?_) | refine qstV tyok ?_ | refine qst tyok ?_ | refine qbs tyok ?_)) | refine awp_cond_true rfl ?_ | refine awp_cond_false rfl ?_ | refine awp_skip ?_ | refine awp_exit ?_ | refine awp_ret ?_ | refine awp_label ?_ | (with_reducible refine thenQ_normal ?_) | (with_reducible refine blockQ_normal ?_) | (with_reducible refine thenQ_exit ?_) | (with_reducible refine blockQ_hit ?_) | refine blockQ_miss rfl ?_ | (with_reducible refine thenQ_ret ?_) | (with_reducible refine blockQ_ret ?_) | (with_reducible refine thenQ_panic ?_) | (with_reducible refine blockQ_panic ?_) | ((repeat ((fail_if_success (refine hK _ _ ?_)); clear hK)); refine hK _ _ ?_; clear hK))
    refine awp_cond rfl (fun hc => ?_) (fun hc => ?_)
    · simp only [e1, decide_eq_true_eq] at hc
      repeat (first | refine awp_seq_k (fun K hK => ?_) | refine awp_region tyok ?_ | refine areg_text mixed tyok (by kernel_rfl) ?_ | refine awp_block ?_ | (((with_reducible refine tr_id ?_); first | refine qp ?_ | refine TR.nil ?_ | (refine tr_guarded rfl ?_; first | refine qon ?_ | refine qoff ?_ | refine qopt ?_ | refine qhopt ?_) | refine qld ?_ | refine qpick ?_ | refine qal tyok (fun bx => ?_) | refine qbox (fun bx => ?_) | refine qboxV (fun bx => ?_) | refine qstV tyok ?_ | refine qst tyok ?_ | refine qbs tyok ?_)) | refine awp_cond_true rfl ?_ | refine awp_cond_false rfl ?_ | refine awp_skip ?_ | refine awp_exit ?_ | refine awp_ret ?_ | refine awp_label ?_ | (with_reducible refine thenQ_normal ?_) | (with_reducible refine blockQ_normal ?_) | (with_reducible refine thenQ_exit ?_) | (with_reducible refine blockQ_hit ?_) | refine blockQ_miss rfl ?_ | (with_reducible refine thenQ_ret ?_) | (with_reducible refine blockQ_ret ?_) | (with_reducible refine thenQ_panic ?_) | (with_reducible refine blockQ_panic ?_) | ((repeat ((fail_if_success (refine hK _ _ ?_)); clear hK)); refine hK _ _ ?_; clear hK))
      refine r1 ?_
      rw [co k hc hg]
      exact Sub.refl _
    · simp only [e1, decide_eq_false_iff_not] at hc
      repeat (first | refine awp_seq_k (fun K hK => ?_) | refine awp_region tyok ?_ | refine areg_text mixed tyok (by kernel_rfl) ?_ | refine awp_block ?_ | (((with_reducible refine tr_id ?_); first | refine qp ?_ | refine TR.nil ?_ | (refine tr_guarded rfl ?_; first | refine qon ?_ | refine qoff ?_ | refine qopt ?_ | refine qhopt ?_) | refine qld ?_ | refine qpick ?_ | refine qal tyok (fun bx => ?_) | refine qbox (fun bx => ?_) | refine qboxV (fun bx => ?_) | refine qstV tyok ?_ | refine qst tyok ?_ | refine qbs tyok ?_)) | refine awp_cond_true rfl ?_ | refine awp_cond_false rfl ?_ | refine awp_skip ?_ | refine awp_exit ?_ | refine awp_ret ?_ | refine awp_label ?_ | (with_reducible refine thenQ_normal ?_) | (with_reducible refine blockQ_normal ?_) | (with_reducible refine thenQ_exit ?_) | (with_reducible refine blockQ_hit ?_) | refine blockQ_miss rfl ?_ | (with_reducible refine thenQ_ret ?_) | (with_reducible refine blockQ_ret ?_) | (with_reducible refine thenQ_panic ?_) | (with_reducible refine blockQ_panic ?_) | ((repeat ((fail_if_success (refine hK _ _ ?_)); clear hK)); refine hK _ _ ?_; clear hK))
      refine ⟨⟨k - 1, by omega, fun u hu => ?_⟩, ?_, ⟨0, rfl⟩, ?_⟩
      · by_cases e : u = k
        · subst e
          have := (deg_range hA (k : Int)).1
          omega
        · exact hg u (by omega)
      · (repeat (first | exact True.intro | refine ⟨⟨_, rfl, Sub.refl _⟩, ?_⟩ | refine ⟨⟨_, rfl, Sub.nilso _ _⟩, ?_⟩ | refine ⟨⟨_, rfl, sl_tail _ _ _ _ _⟩, ?_⟩ | refine ⟨⟨_, rfl, Sub.of_eq (by first | rfl | (congr 1; first | omega | (simp only; omega)) | (simp; done))⟩, ?_⟩ | refine ⟨⟨_, rfl, Sub.view _ _ _ _⟩, ?_⟩))
      · simp only; omega
  · have hge : k = 0 := by simp at hc; omega
    subst hge
    repeat (first | refine awp_seq_k (fun K hK => ?_) | refine awp_region tyok ?_ | refine areg_text mixed tyok (by kernel_rfl) ?_ | refine awp_block ?_ | (((with_reducible refine tr_id ?_); first | refine qp ?_ | refine TR.nil ?_ | (refine tr_guarded rfl ?_; first | refine qon ?_ | refine qoff ?_ | refine qopt ?_ | refine qhopt ?_) | refine qld ?_ | refine qpick ?_ | refine qal tyok (fun bx => ?_) | refine qbox (fun bx => ?_) | refine qboxV (fun bx => ?_) | refine qstV tyok ?_ | refine qst tyok ?_ | refine qbs tyok ?_)) | refine awp_cond_true rfl ?_ | refine awp_cond_false rfl ?_ | refine awp_skip ?_ | refine awp_exit ?_ | refine awp_ret ?_ | refine awp_label ?_ | (with_reducible refine thenQ_normal ?_) | (with_reducible refine blockQ_normal ?_) | (with_reducible refine thenQ_exit ?_) | (with_reducible refine blockQ_hit ?_) | refine blockQ_miss rfl ?_ | (with_reducible refine thenQ_ret ?_) | (with_reducible refine blockQ_ret ?_) | (with_reducible refine thenQ_panic ?_) | (with_reducible refine blockQ_panic ?_) | ((repeat ((fail_if_success (refine hK _ _ ?_)); clear hK)); refine hK _ _ ?_; clear hK))
    refine r1 ?_
    rw [cz fun u => ?_]
    · exact Sub.refl _
    · by_cases hu : 0 < u
      · exact hg u hu
      · exact deg_out hA (by omega)

theorem cbRCompare : Callable Try.prog 25 := fun _ _ => by kernel_rfl
set_option maxRecDepth 4000 in
theorem rcompare_c {a b : List Pw} {c : Int} (ha : a.length ≤ 400000) (hb : b.length ≤ 400000) (hA : may a = true) (hB : may b = true) (h : compareF a b = (c, 0)) :
    PCalls Try.prog 25 [mono a, mono b] (.int .i64 c) := by
  refine pcalls_of_awp tyok cbRCompare Try.func25 rfl rfl ?_
  obtain ⟨c', h', ht⟩ := compare_tri hA hB
  obtain rfl : c = c' := by rw [h] at h'; exact congrArg Prod.fst h'
  clear h h'
  have xa := expsc (by omega) hA
  have xb := expsc (by omega) hB
  ((repeat (first | refine awp_seq_k (fun K hK => ?_) | refine awp_region tyok ?_ | refine areg_text mixed tyok (by kernel_rfl) ?_ | refine awp_block ?_ | (((with_reducible refine tr_id ?_); first | refine qp ?_ | refine TR.nil ?_ | (refine tr_guarded rfl ?_; first | refine qon ?_ | refine qoff ?_ | refine qopt ?_ | refine qhopt ?_) | refine qld ?_ | refine qpick ?_ | refine qstV tyok ?_ | refine qst tyok ?_ | refine qbs tyok ?_ | refine TR.pcall rfl rfl rfl rfl True.intro rfl rfl (xa) ?_ | refine TR.pcall rfl rfl rfl rfl True.intro rfl rfl (xb) ?_ | refine TR.pcallopt rfl rfl rfl rfl rfl rfl (by (first | exact True.intro | exact ⟨id, True.intro⟩ | exact ⟨id, id, True.intro⟩ | exact ⟨id, id, id, True.intro⟩)) rfl rfl (fun _ => xa) ?_ | refine TR.pcallopt rfl rfl rfl rfl rfl rfl (by (first | exact True.intro | exact ⟨id, True.intro⟩ | exact ⟨id, id, True.intro⟩ | exact ⟨id, id, id, True.intro⟩)) rfl rfl (fun _ => xb) ?_)) | refine awp_cond_true rfl ?_ | refine awp_cond_false rfl ?_ | refine awp_skip ?_ | refine awp_exit ?_ | refine awp_ret ?_ | refine awp_label ?_ | (with_reducible refine thenQ_normal ?_) | (with_reducible refine blockQ_normal ?_) | (with_reducible refine thenQ_exit ?_) | (with_reducible refine blockQ_hit ?_) | refine blockQ_miss rfl ?_ | (with_reducible refine thenQ_ret ?_) | (with_reducible refine blockQ_ret ?_) | (with_reducible refine thenQ_panic ?_) | (with_reducible refine blockQ_panic ?_) | ((repeat ((fail_if_success (refine hK _ _ ?_)); clear hK)); refine hK _ _ ?_; clear hK))); ((first | refine qal tyok (fun b5 => ?_) | refine qbox (fun b5 => ?_) | refine qboxV (fun b5 => ?_))); (repeat (first | refine awp_seq_k (fun K hK => ?_) | refine awp_region tyok ?_ | refine areg_text mixed tyok (by kernel_rfl) ?_ | refine awp_block ?_ | (((with_reducible refine tr_id ?_); first | refine qp ?_ | refine TR.nil ?_ | (refine tr_guarded rfl ?_; first | refine qon ?_ | refine qoff ?_ | refine qopt ?_ | refine qhopt ?_) | refine qld ?_ | refine qpick ?_ | refine qstV tyok ?_ | refine qst tyok ?_ | refine qbs tyok ?_ | refine TR.pcall rfl rfl rfl rfl True.intro rfl rfl (xa) ?_ | refine TR.pcall rfl rfl rfl rfl True.intro rfl rfl (xb) ?_ | refine TR.pcallopt rfl rfl rfl rfl rfl rfl (by (first | exact True.intro | exact ⟨id, True.intro⟩ | exact ⟨id, id, True.intro⟩ | exact ⟨id, id, id, True.intro⟩)) rfl rfl (fun _ => xa) ?_ | refine TR.pcallopt rfl rfl rfl rfl rfl rfl (by (first | exact True.intro | exact ⟨id, True.intro⟩ | exact ⟨id, id, True.intro⟩ | exact ⟨id, id, id, True.intro⟩)) rfl rfl (fun _ => xb) ?_)) | refine awp_cond_true rfl ?_ | refine awp_cond_false rfl ?_ | refine awp_skip ?_ | refine awp_exit ?_ | refine awp_ret ?_ | refine awp_label ?_ | (with_reducible refine thenQ_normal ?_) | (with_reducible refine blockQ_normal ?_) | (with_reducible refine thenQ_exit ?_) | (with_reducible refine blockQ_hit ?_) | refine blockQ_miss rfl ?_ | (with_reducible refine thenQ_ret ?_) | (with_reducible refine blockQ_ret ?_) | (with_reducible refine thenQ_panic ?_) | (with_reducible refine blockQ_panic ?_) | ((repeat ((fail_if_success (refine hK _ _ ?_)); clear hK)); refine hK _ _ ?_; clear hK))); ((first | refine qal tyok (fun b6 => ?_) | refine qbox (fun b6 => ?_) | refine qboxV (fun b6 => ?_))); (repeat (first | refine awp_seq_k (fun K hK => ?_) | refine awp_region tyok ?_ | refine areg_text mixed tyok (by kernel_rfl) ?_ | refine awp_block ?_ | (((with_reducible refine tr_id ?_); first | refine qp ?_ | refine TR.nil ?_ | (refine tr_guarded rfl ?_; first | refine qon ?_ | refine qoff ?_ | refine qopt ?_ | refine qhopt ?_) | refine qld ?_ | refine qpick ?_ | refine qal tyok (fun bx => ?_) | refine qbox (fun bx => ?_) | refine qboxV (fun bx => ?_) | refine qstV tyok ?_ | refine qst tyok ?_ | refine qbs tyok ?_ | refine TR.pcall rfl rfl rfl rfl True.intro rfl rfl (xa) ?_ | refine TR.pcall rfl rfl rfl rfl True.intro rfl rfl (xb) ?_ | refine TR.pcallopt rfl rfl rfl rfl rfl rfl (by (first | exact True.intro | exact ⟨id, True.intro⟩ | exact ⟨id, id, True.intro⟩ | exact ⟨id, id, id, True.intro⟩)) rfl rfl (fun _ => xa) ?_ | refine TR.pcallopt rfl rfl rfl rfl rfl rfl (by (first | exact True.intro | exact ⟨id, True.intro⟩ | exact ⟨id, id, True.intro⟩ | exact ⟨id, id, id, True.intro⟩)) rfl rfl (fun _ => xb) ?_)) | refine awp_cond_true rfl ?_ | refine awp_cond_false rfl ?_ | refine awp_skip ?_ | refine awp_exit ?_ | refine awp_ret ?_ | refine awp_label ?_ | (with_reducible refine thenQ_normal ?_) | (with_reducible refine blockQ_normal ?_) | (with_reducible refine thenQ_exit ?_) | (with_reducible refine blockQ_hit ?_) | refine blockQ_miss rfl ?_ | (with_reducible refine thenQ_ret ?_) | (with_reducible refine blockQ_ret ?_) | (with_reducible refine thenQ_panic ?_) | (with_reducible refine blockQ_panic ?_) | ((repeat ((fail_if_success (refine hK _ _ ?_)); clear hK)); refine hK _ _ ?_; clear hK))))
  refine awp_loopK [5, 6] rfl (ι := { x : Nat // x ≤ 200 ∧ ∀ u : Int, (x : Int) < u → degF u a = degF u b })
    (fun x => [(7, .int .i64 (x.1 : Int))]) (fun x => [.box b6 44 (vecI fun j => degF j b), .box b5 44 (vecI fun j => degF j a)]) (fun x => x.1) ⟨200, Nat.le_refl _, fun u hu => ?_⟩ ?_ ⟨0, rfl⟩ ?_
  · rw [deg_out hA (by omega), deg_out hB (by omega)]
  · (repeat (first | exact True.intro | refine ⟨⟨_, rfl, Sub.refl _⟩, ?_⟩ | refine ⟨⟨_, rfl, Sub.nilso _ _⟩, ?_⟩ | refine ⟨⟨_, rfl, sl_tail _ _ _ _ _⟩, ?_⟩ | refine ⟨⟨_, rfl, Sub.of_eq (by first | rfl | (congr 1; first | omega | (simp only; omega)) | (simp; done))⟩, ?_⟩ | refine ⟨⟨_, rfl, Sub.view _ _ _ _⟩, ?_⟩))
  rintro ⟨k, hk, hg⟩
  simp only at hk hg ⊢
  repeat (first | refine awp_seq_k (fun K hK => ?_) | refine awp_region tyok ?_ | refine areg_text mixed tyok (by kernel_rfl) ?_ | refine awp_block ?_ | (((with_reducible refine tr_id ?_); first | refine qp ?_ | refine TR.nil ?_ | (refine tr_guarded rfl ?_; first | refine qon ?_ | refine qoff ?_ | refine qopt ?_ | refine qhopt ?_) | refine qld ?_ | refine qpick ?_ | refine qal tyok (fun bx => ?_) | refine qbox (fun bx => ?_) | refine qboxV (fun bx => ?_) | refine qstV tyok ?_ | refine qst tyok ?_ | refine qbs tyok ?_)) | refine awp_cond_true rfl ?_ | refine awp_cond_false rfl ?_ | refine awp_skip ?_ | refine awp_exit ?_ | refine awp_ret ?_ | refine awp_label ?_ | (with_reducible refine thenQ_normal ?_) | (with_reducible refine blockQ_normal ?_) | (with_reducible refine thenQ_exit ?_) | (with_reducible refine blockQ_hit ?_) | refine blockQ_miss rfl ?_ | (with_reducible refine thenQ_ret ?_) | (with_reducible refine blockQ_ret ?_) | (with_reducible refine thenQ_panic ?_) | (with_reducible refine blockQ_panic ?_) | ((repeat ((fail_if_success (refine hK _ _ ?_)); clear hK)); refine hK _ _ ?_; clear hK))
  refine awp_cond rfl (fun hc => ?_) (fun hc => ?_)
  · have hpos : 1 ≤ k := by simp at hc; omega
    have e1 : 0 + (k : Int).toNat = k := by omega
    repeat (first | refine awp_seq_k (fun K hK => ?_) | refine awp_region tyok ?_ | refine areg_text mixed tyok (by kernel_rfl) ?_ | refine awp_block ?_ | (((with_reducible refine tr_id ?_); first | refine qp ?_ | refine TR.nil ?_ | (refine tr_guarded rfl ?_; first | refine qon ?_ | refine qoff ?_ | refine qopt ?_ | refine qhopt ?_) | refine qld ?_ | refine qpick ?_ | refine qal tyok (fun bx => ?_) | refine qbox (fun bx => ?_) | refine qboxV (fun bx => ?_) | refine qstV tyok ?_ | refine qst tyok ?_ | refine qbs tyok ?_)) | refine awp_cond_true rfl ?_ | refine awp_cond_false rfl ?_ | refine awp_skip ?_ | refine awp_exit ?_ | refine awp_ret ?_ | refine awp_label ?_ | (with_reducible refine thenQ_normal ?_) | (with_reducible refine blockQ_normal ?_) | (with_reducible refine thenQ_exit ?_) | (with_reducible refine blockQ_hit ?_) | refine blockQ_miss rfl ?_ | (with_reducible refine thenQ_ret ?_) | (with_reducible refine blockQ_ret ?_) | (with_reducible refine thenQ_panic ?_) | (with_reducible refine blockQ_panic ?_) | ((repeat ((fail_if_success (refine hK _ _ ?_)); clear hK)); refine hK _ _ ?_; clear hK))
    refine awp_cond rfl (fun hc => ?_) (fun hc => ?_)
    · simp only [e1, decide_eq_true_eq] at hc
      repeat (first | refine awp_seq_k (fun K hK => ?_) | refine awp_region tyok ?_ | refine areg_text mixed tyok (by kernel_rfl) ?_ | refine awp_block ?_ | (((with_reducible refine tr_id ?_); first | refine qp ?_ | refine TR.nil ?_ | (refine tr_guarded rfl ?_; first | refine qon ?_ | refine qoff ?_ | refine qopt ?_ | refine qhopt ?_) | refine qld ?_ | refine qpick ?_ | refine qal tyok (fun bx => ?_) | refine qbox (fun bx => ?_) | refine qboxV (fun bx => ?_) | refine qstV tyok ?_ | refine qst tyok ?_ | refine qbs tyok ?_)) | refine awp_cond_true rfl ?_ | refine awp_cond_false rfl ?_ | refine awp_skip ?_ | refine awp_exit ?_ | refine awp_ret ?_ | refine awp_label ?_ | (with_reducible refine thenQ_normal ?_) | (with_reducible refine blockQ_normal ?_) | (with_reducible refine thenQ_exit ?_) | (with_reducible refine blockQ_hit ?_) | refine blockQ_miss rfl ?_ | (with_reducible refine thenQ_ret ?_) | (with_reducible refine blockQ_ret ?_) | (with_reducible refine thenQ_panic ?_) | (with_reducible refine blockQ_panic ?_) | ((repeat ((fail_if_success (refine hK _ _ ?_)); clear hK)); refine hK _ _ ?_; clear hK))
      refine r1 ?_
      rw [ht.unique (.lt k hc hg)]
      exact Sub.refl _
    · simp only [e1, decide_eq_false_iff_not] at hc
      repeat (first | refine awp_seq_k (fun K hK => ?_) | refine awp_region tyok ?_ | refine areg_text mixed tyok (by kernel_rfl) ?_ | refine awp_block ?_ | (((with_reducible refine tr_id ?_); first | refine qp ?_ | refine TR.nil ?_ | (refine tr_guarded rfl ?_; first | refine qon ?_ | refine qoff ?_ | refine qopt ?_ | refine qhopt ?_) | refine qld ?_ | refine qpick ?_ | refine qal tyok (fun bx => ?_) | refine qbox (fun bx => ?_) | refine qboxV (fun bx => ?_) | refine qstV tyok ?_ | refine qst tyok ?_ | refine qbs tyok ?_)) | refine awp_cond_true rfl ?_ | refine awp_cond_false rfl ?_ | refine awp_skip ?_ | refine awp_exit ?_ | refine awp_ret ?_ | refine awp_label ?_ | (with_reducible refine thenQ_normal ?_) | (with_reducible refine blockQ_normal ?_) | (with_reducible refine thenQ_exit ?_) | (with_reducible refine blockQ_hit ?_) | refine blockQ_miss rfl ?_ | (with_reducible refine thenQ_ret ?_) | (with_reducible refine blockQ_ret ?_) | (with_reducible refine thenQ_panic ?_) | (with_reducible refine blockQ_panic ?_) | ((repeat ((fail_if_success (refine hK _ _ ?_)); clear hK)); refine hK _ _ ?_; clear hK))
      refine awp_cond rfl (fun hd => ?_) (fun hd => ?_)
      · simp only [e1, decide_eq_true_eq] at hd
        repeat (first | refine awp_seq_k (fun K hK => ?_) | refine awp_region tyok ?_ | refine areg_text mixed tyok (by kernel_rfl) ?_ | refine awp_block ?_ | (((with_reducible refine tr_id ?_); first | refine qp ?_ | refine TR.nil ?_ | (refine tr_guarded rfl ?_; first | refine qon ?_ | refine qoff ?_ | refine qopt ?_ | refine qhopt ?_) | refine qld ?_ | refine qpick ?_ | refine qal tyok (fun bx => ?_) | refine qbox (fun bx => ?_) | refine qboxV (fun bx => ?_) | refine qstV tyok ?_ | refine qst tyok ?_ | refine qbs tyok ?_)) | refine awp_cond_true rfl ?_ | refine awp_cond_false rfl ?_ | refine awp_skip ?_ | refine awp_exit ?_ | refine awp_ret ?_ | refine awp_label ?_ | (with_reducible refine thenQ_normal ?_) | (with_reducible refine blockQ_normal ?_) | (with_reducible refine thenQ_exit ?_) | (with_reducible refine blockQ_hit ?_) | refine blockQ_miss rfl ?_ | (with_reducible refine thenQ_ret ?_) | (with_reducible refine blockQ_ret ?_) | (with_reducible refine thenQ_panic ?_) | (with_reducible refine blockQ_panic ?_) | ((repeat ((fail_if_success (refine hK _ _ ?_)); clear hK)); refine hK _ _ ?_; clear hK))
        refine r1 ?_
        rw [ht.unique (.gt k hd fun u hu => hg u hu)]
        exact Sub.refl _
      · simp only [e1, decide_eq_false_iff_not] at hd
        repeat (first | refine awp_seq_k (fun K hK => ?_) | refine awp_region tyok ?_ | refine areg_text mixed tyok (by kernel_rfl) ?_ | refine awp_block ?_ | (((with_reducible refine tr_id ?_); first | refine qp ?_ | refine TR.nil ?_ | (refine tr_guarded rfl ?_; first | refine qon ?_ | refine qoff ?_ | refine qopt ?_ | refine qhopt ?_) | refine qld ?_ | refine qpick ?_ | refine qal tyok (fun bx => ?_) | refine qbox (fun bx => ?_) | refine qboxV (fun bx => ?_) | refine qstV tyok ?_ | refine qst tyok ?_ | refine qbs tyok ?_)) | refine awp_cond_true rfl ?_ | refine awp_cond_false rfl ?_ | refine awp_skip ?_ | refine awp_exit ?_ | refine awp_ret ?_ | refine awp_label ?_ | (with_reducible refine thenQ_normal ?_) | (with_reducible refine blockQ_normal ?_) | (with_reducible refine thenQ_exit ?_) | (with_reducible refine blockQ_hit ?_) | refine blockQ_miss rfl ?_ | (with_reducible refine thenQ_ret ?_) | (with_reducible refine blockQ_ret ?_) | (with_reducible refine thenQ_panic ?_) | (with_reducible refine blockQ_panic ?_) | ((repeat ((fail_if_success (refine hK _ _ ?_)); clear hK)); refine hK _ _ ?_; clear hK))
        refine ⟨⟨k - 1, by omega, fun u hu => ?_⟩, ?_, ⟨0, rfl⟩, ?_⟩
        · by_cases e : u = k
          · subst e
            omega
          · exact hg u (by omega)
        · (repeat (first | exact True.intro | refine ⟨⟨_, rfl, Sub.refl _⟩, ?_⟩ | refine ⟨⟨_, rfl, Sub.nilso _ _⟩, ?_⟩ | refine ⟨⟨_, rfl, sl_tail _ _ _ _ _⟩, ?_⟩ | refine ⟨⟨_, rfl, Sub.of_eq (by first | rfl | (congr 1; first | omega | (simp only; omega)) | (simp; done))⟩, ?_⟩ | refine ⟨⟨_, rfl, Sub.view _ _ _ _⟩, ?_⟩))
        · simp only; omega
  · have hge : k = 0 := by simp at hc; omega
    subst hge
    repeat (first | refine awp_seq_k (fun K hK => ?_) | refine awp_region tyok ?_ | refine areg_text mixed tyok (by kernel_rfl) ?_ | refine awp_block ?_ | (((with_reducible refine tr_id ?_); first | refine qp ?_ | refine TR.nil ?_ | (refine tr_guarded rfl ?_; first | refine qon ?_ | refine qoff ?_ | refine qopt ?_ | refine qhopt ?_) | refine qld ?_ | refine qpick ?_ | refine qal tyok (fun bx => ?_) | refine qbox (fun bx => ?_) | refine qboxV (fun bx => ?_) | refine qstV tyok ?_ | refine qst tyok ?_ | refine qbs tyok ?_)) | refine awp_cond_true rfl ?_ | refine awp_cond_false rfl ?_ | refine awp_skip ?_ | refine awp_exit ?_ | refine awp_ret ?_ | refine awp_label ?_ | (with_reducible refine thenQ_normal ?_) | (with_reducible refine blockQ_normal ?_) | (with_reducible refine thenQ_exit ?_) | (with_reducible refine blockQ_hit ?_) | refine blockQ_miss rfl ?_ | (with_reducible refine thenQ_ret ?_) | (with_reducible refine blockQ_ret ?_) | (with_reducible refine thenQ_panic ?_) | (with_reducible refine blockQ_panic ?_) | ((repeat ((fail_if_success (refine hK _ _ ?_)); clear hK)); refine hK _ _ ?_; clear hK))
    refine r1 ?_
    rw [ht.unique (.eq fun u => ?_)]
    · exact Sub.refl _
    · by_cases hu : 0 < u
      · exact hg u hu
      · rw [deg_out hA (by omega), deg_out hB (by omega)]

theorem without_deg (v u : Int) : ∀ m : List Pw, degF u (withoutF v m) = if u = v then 0 else degF u m
  | [] => by simp [withoutF, degF]
  | p :: m => by
    have ih := without_deg v u m
    unfold withoutF at ih ⊢
    by_cases e : p.1 = v
    · rw [List.filter_cons_of_neg (by simp [e]), ih]
      by_cases e2 : u = v
      · rw [if_pos e2, if_pos e2]
      · rw [if_neg e2, if_neg e2, degF, if_neg (by omega)]
    · rw [List.filter_cons_of_pos (by simp [e]), degF, ih, degF]
      by_cases e2 : p.1 = u
      · rw [if_pos e2, if_neg (by omega), if_pos e2]
      · rw [if_neg e2, if_neg e2]

theorem without_srt {m : List Pw} (v : Int) (h : Srt m) : Srt (withoutF v m) :=
  ⟨h.1.sublist List.filter_sublist, fun p hp => h.2 p (List.filter_sublist.subset hp)⟩

theorem cbRWithout : Callable Try.prog 29 := fun _ _ => by kernel_rfl
set_option maxRecDepth 4000 in
theorem rwithout_c (m : List Pw) (v : Int) (hm : m.length ≤ 400000) : PCalls Try.prog 29 [mono m, .int .i64 v] (mono (withoutF v (plainF m))) := by
  refine pcalls_of_awp tyok cbRWithout Try.func29 rfl rfl ?_
  have xa := exps_c m (by omega)
  have hA := may_plain m
  generalize plainF m = A at *
  have hs := may_srt hA
  have fin : ∀ f : Nat → Int, (∀ j : Nat, 1 ≤ j → j ≤ 200 → f j = if (j : Int) = v then 0 else degF j A) → ofN f 200 = withoutF v A := by
    intro f hf
    refine srt_ext (ofN_srt _ _) (without_srt v hs) fun u => ?_
    rw [without_deg, deg_ofN_all (F := fun u => if u = v then 0 else degF u A) (fun u h1 h2 => ⟨?_, (hf u h1 h2).symm⟩) fun u hu => by simp only [deg_out hA hu, ite_self]]
    rw [hf u h1 h2]
    have := (deg_range hA u).1
    split <;> omega
  repeat (first | refine awp_seq_k (fun K hK => ?_) | refine awp_region tyok ?_ | refine areg_text mixed tyok (by kernel_rfl) ?_ | refine awp_block ?_ | (((with_reducible refine tr_id ?_); first | refine qp ?_ | refine TR.nil ?_ | (refine tr_guarded rfl ?_; first | refine qon ?_ | refine qoff ?_ | refine qopt ?_ | refine qhopt ?_) | refine qld ?_ | refine qpick ?_ | refine qal tyok (fun bx => ?_) | refine qbox (fun bx => ?_) | refine qboxV (fun bx => ?_) | refine qstV tyok ?_ | refine qst tyok ?_ | refine qbs tyok ?_ | refine TR.pcall rfl rfl rfl rfl True.intro rfl rfl (xa) ?_ | refine TR.pcallopt rfl rfl rfl rfl rfl rfl (by (first | exact True.intro | exact ⟨id, True.intro⟩ | exact ⟨id, id, True.intro⟩ | exact ⟨id, id, id, True.intro⟩)) rfl rfl (fun _ => xa) ?_)) | refine awp_cond_true rfl ?_ | refine awp_cond_false rfl ?_ | refine awp_skip ?_ | refine awp_exit ?_ | refine awp_ret ?_ | refine awp_label ?_ | (with_reducible refine thenQ_normal ?_) | (with_reducible refine blockQ_normal ?_) | (with_reducible refine thenQ_exit ?_) | (with_reducible refine blockQ_hit ?_) | refine blockQ_miss rfl ?_ | (with_reducible refine thenQ_ret ?_) | (with_reducible refine blockQ_ret ?_) | (with_reducible refine thenQ_panic ?_) | (with_reducible refine blockQ_panic ?_) | ((repeat ((fail_if_success (refine hK _ _ ?_)); clear hK)); refine hK _ _ ?_; clear hK))
  refine awp_cond rfl (fun hc => ?_) (fun hc => ?_)
  · simp only [Bool.and_eq_true, decide_eq_true_eq] at hc
    have oc := of_c (fun j => if j = 0 + v.toNat then 0 else degF j A)
    rw [fin _ fun j h1 h2 => by simp only [Nat.zero_add]; split <;> split <;> first | rfl | omega] at oc
    repeat (first | refine awp_seq_k (fun K hK => ?_) | refine awp_region tyok ?_ | refine areg_text mixed tyok (by kernel_rfl) ?_ | refine awp_block ?_ | (((with_reducible refine tr_id ?_); first | refine qp ?_ | refine TR.nil ?_ | (refine tr_guarded rfl ?_; first | refine qon ?_ | refine qoff ?_ | refine qopt ?_ | refine qhopt ?_) | refine qld ?_ | refine qpick ?_ | refine qal tyok (fun bx => ?_) | refine qbox (fun bx => ?_) | refine qboxV (fun bx => ?_) | refine qstV tyok ?_ | refine qst tyok ?_ | refine qbs tyok ?_ | refine TR.pcall rfl rfl rfl rfl True.intro rfl rfl (oc) ?_ | refine TR.pcallopt rfl rfl rfl rfl rfl rfl (by (first | exact True.intro | exact ⟨id, True.intro⟩ | exact ⟨id, id, True.intro⟩ | exact ⟨id, id, id, True.intro⟩)) rfl rfl (fun _ => oc) ?_)) | refine awp_cond_true rfl ?_ | refine awp_cond_false rfl ?_ | refine awp_skip ?_ | refine awp_exit ?_ | refine awp_ret ?_ | refine awp_label ?_ | (with_reducible refine thenQ_normal ?_) | (with_reducible refine blockQ_normal ?_) | (with_reducible refine thenQ_exit ?_) | (with_reducible refine blockQ_hit ?_) | refine blockQ_miss rfl ?_ | (with_reducible refine thenQ_ret ?_) | (with_reducible refine blockQ_ret ?_) | (with_reducible refine thenQ_panic ?_) | (with_reducible refine blockQ_panic ?_) | ((repeat ((fail_if_success (refine hK _ _ ?_)); clear hK)); refine hK _ _ ?_; clear hK))
    refine r1 ?_
    exact Sub.refl _
  · simp only [Bool.and_eq_false_imp, decide_eq_true_eq, decide_eq_false_iff_not] at hc
    have oc := of_c (fun j => degF j A)
    rw [fin _ fun j h1 h2 => by rw [if_neg]; intro e; exact hc (by omega) (by omega)] at oc
    repeat (first | refine awp_seq_k (fun K hK => ?_) | refine awp_region tyok ?_ | refine areg_text mixed tyok (by kernel_rfl) ?_ | refine awp_block ?_ | (((with_reducible refine tr_id ?_); first | refine qp ?_ | refine TR.nil ?_ | (refine tr_guarded rfl ?_; first | refine qon ?_ | refine qoff ?_ | refine qopt ?_ | refine qhopt ?_) | refine qld ?_ | refine qpick ?_ | refine qal tyok (fun bx => ?_) | refine qbox (fun bx => ?_) | refine qboxV (fun bx => ?_) | refine qstV tyok ?_ | refine qst tyok ?_ | refine qbs tyok ?_ | refine TR.pcall rfl rfl rfl rfl True.intro rfl rfl (oc) ?_ | refine TR.pcallopt rfl rfl rfl rfl rfl rfl (by (first | exact True.intro | exact ⟨id, True.intro⟩ | exact ⟨id, id, True.intro⟩ | exact ⟨id, id, id, True.intro⟩)) rfl rfl (fun _ => oc) ?_)) | refine awp_cond_true rfl ?_ | refine awp_cond_false rfl ?_ | refine awp_skip ?_ | refine awp_exit ?_ | refine awp_ret ?_ | refine awp_label ?_ | (with_reducible refine thenQ_normal ?_) | (with_reducible refine blockQ_normal ?_) | (with_reducible refine thenQ_exit ?_) | (with_reducible refine blockQ_hit ?_) | refine blockQ_miss rfl ?_ | (with_reducible refine thenQ_ret ?_) | (with_reducible refine blockQ_ret ?_) | (with_reducible refine thenQ_panic ?_) | (with_reducible refine blockQ_panic ?_) | ((repeat ((fail_if_success (refine hK _ _ ?_)); clear hK)); refine hK _ _ ?_; clear hK))
    refine r1 ?_
    exact Sub.refl _

end Go.Proofs.Ytmjigepfjcokdaa
