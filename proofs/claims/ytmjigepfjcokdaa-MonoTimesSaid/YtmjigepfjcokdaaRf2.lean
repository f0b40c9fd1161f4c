/-
  The document's answers for monomials: the monomial of exponents, products and quotients.
-/
import Derived.Test.YtmjigepfjcokdaaRf1
namespace Go.Proofs.Ytmjigepfjcokdaa
open Go.Ab

def ofN (f : Nat → Int) (n : Nat) : List Pw := (List.range' 1 n).filterMap fun v => if f v > 0 then some ((v : Int), f v) else none

theorem ofN_succ (f : Nat → Int) (n : Nat) : ofN f (n + 1) = ofN f n ++ (if f (n + 1) > 0 then [(((n + 1 : Nat) : Int), f (n + 1))] else []) := by
  unfold ofN
  rw [List.range'_concat, List.filterMap_append]
  congr 1
  simp only [Nat.one_mul, Nat.add_comm 1 n, List.filterMap_cons, List.filterMap_nil]
  split <;> simp_all

theorem ofN_len (f : Nat → Int) (n : Nat) : (ofN f n).length ≤ n := by
  refine Nat.le_trans (List.length_filterMap_le _ _) ?_
  simp

theorem ofN_mem {f : Nat → Int} {n : Nat} {p : Pw} (h : p ∈ ofN f n) : ∃ v : Nat, 1 ≤ v ∧ v ≤ n ∧ p = ((v : Int), f v) ∧ 0 < f v := by
  obtain ⟨v, hv, e⟩ := List.mem_filterMap.1 h
  rw [List.mem_range'_1] at hv
  split at e
  · rename_i hg
    cases e
    exact ⟨v, hv.1, by omega, rfl, hg⟩
  · cases e

theorem ofN_srt (f : Nat → Int) : ∀ n, Srt (ofN f n)
  | 0 => ⟨.nil, by simp [ofN]⟩
  | n + 1 => by
    obtain ⟨h1, h2⟩ := ofN_srt f n
    rw [ofN_succ]
    split
    · rename_i hg
      refine ⟨List.pairwise_append.2 ⟨h1, List.pairwise_singleton _ _, fun p hp q hq => ?_⟩, fun p hp => ?_⟩
      · simp only [List.mem_singleton] at hq
        subst hq
        obtain ⟨v, _, hv, rfl, _⟩ := ofN_mem hp
        show (v : Int) < ((n + 1 : Nat) : Int)
        omega
      · rcases List.mem_append.1 hp with hp | hp
        · exact h2 p hp
        · simp only [List.mem_singleton] at hp
          subst hp
          exact hg
    · rw [List.append_nil]
      exact ⟨h1, h2⟩

theorem deg_ofN (f : Nat → Int) (v : Nat) : ∀ n, degF (v : Int) (ofN f n) = if 1 ≤ v ∧ v ≤ n ∧ 0 < f v then f v else 0
  | 0 => by rw [if_neg (by omega)]; rfl
  | n + 1 => by
    have ih := deg_ofN f v n
    rw [ofN_succ]
    split
    · rename_i hg
      rw [degF_snoc]
      · by_cases e : n + 1 = v
        · subst e
          rw [if_pos rfl, if_pos ⟨by omega, by omega, hg⟩]
        · rw [if_neg (by simp only; omega), ih]
          by_cases h : 1 ≤ v ∧ v ≤ n ∧ 0 < f v
          · rw [if_pos h, if_pos (by omega)]
          · rw [if_neg h, if_neg (by omega)]
      · intro q hq
        obtain ⟨u, _, hu, rfl, _⟩ := ofN_mem hq
        simp only
        omega
    · rename_i hg
      rw [List.append_nil, ih]
      by_cases h : 1 ≤ v ∧ v ≤ n ∧ 0 < f v
      · rw [if_pos h, if_pos (by omega)]
      · rw [if_neg h, if_neg]
        intro h'
        by_cases e : v = n + 1
        · subst e; omega
        · omega

/-- The monomial of exponents is the one that has them. -/
theorem ofN_eq {f : Nat → Int} {m : List Pw} (hm : may m = true) (h : ∀ v : Nat, 1 ≤ v → v ≤ 200 → f v = degF v m ∨ f v ≤ 0 ∧ degF v m = 0) : ofN f 200 = m := by
  refine srt_ext (ofN_srt f 200) (may_srt hm) fun v => ?_
  have hd := deg_nonneg (may_srt hm) v
  by_cases hv : 1 ≤ v ∧ v ≤ 200
  · obtain ⟨u, rfl⟩ : ∃ u : Nat, v = u := ⟨v.toNat, by omega⟩
    rw [deg_ofN]
    rcases h u (by omega) (by omega) with e | ⟨e, e'⟩
    · by_cases hp : 0 < f u
      · rw [if_pos ⟨by omega, by omega, hp⟩, e]
      · rw [if_neg (by omega)]; omega
    · rw [if_neg (by omega), e']
  · have e1 : degF v m = 0 := Classical.byContradiction fun hne => hv ⟨(deg_bnd hm hne).1, (deg_bnd hm hne).2.1⟩
    have e2 : degF v (ofN f 200) = 0 := Classical.byContradiction fun hne => by
      obtain ⟨p, hp, e⟩ := deg_mem hne
      obtain ⟨u, h1, h2, rfl, _⟩ := ofN_mem hp
      exact hv (by simp only at e; omega)
    rw [e1, e2]

theorem cbOf : Callable Try.prog 34 := fun _ _ => by kernel_rfl
set_option maxRecDepth 4000 in
theorem of_c (f : Nat → Int) : PCalls Try.prog 34 [vecI f] (mono (ofN f 200)) := by
  refine pcalls_of_awp tyok cbOf Try.func34 rfl rfl ?_
  refine awp_tok0 2 48 ?_
  ((repeat (first | refine awp_seq_k (fun K hK => ?_) | refine awp_region tyok ?_ | refine areg_text mixed tyok (by kernel_rfl) ?_ | refine awp_block ?_ | (((with_reducible refine tr_id ?_); first | refine qp ?_ | refine TR.nil ?_ | (refine tr_guarded rfl ?_; first | refine qon ?_ | refine qoff ?_ | refine qopt ?_ | refine qhopt ?_) | refine qld ?_ | refine qpick ?_ | refine qstV tyok ?_ | refine qst tyok ?_ | refine qbs tyok ?_)) | refine awp_cond_true rfl ?_ | refine awp_cond_false rfl ?_ | refine awp_skip ?_ | refine awp_exit ?_ | refine awp_ret ?_ | refine awp_label ?_ | (with_reducible refine thenQ_normal ?_) | (with_reducible refine blockQ_normal ?_) | (with_reducible refine thenQ_exit ?_) | (with_reducible refine blockQ_hit ?_) | refine blockQ_miss rfl ?_ | (with_reducible refine thenQ_ret ?_) | (with_reducible refine blockQ_ret ?_) | (with_reducible refine thenQ_panic ?_) | (with_reducible refine blockQ_panic ?_) | ((repeat ((fail_if_success (refine hK _ _ ?_)); clear hK)); refine hK _ _ ?_; clear hK))); ((first | refine qal tyok (fun b1 => ?_) | refine qbox (fun b1 => ?_) | refine qboxV (fun b1 => ?_))); (repeat (first | refine awp_seq_k (fun K hK => ?_) | refine awp_region tyok ?_ | refine areg_text mixed tyok (by kernel_rfl) ?_ | refine awp_block ?_ | (((with_reducible refine tr_id ?_); first | refine qp ?_ | refine TR.nil ?_ | (refine tr_guarded rfl ?_; first | refine qon ?_ | refine qoff ?_ | refine qopt ?_ | refine qhopt ?_) | refine qld ?_ | refine qpick ?_ | refine qal tyok (fun bx => ?_) | refine qbox (fun bx => ?_) | refine qboxV (fun bx => ?_) | refine qstV tyok ?_ | refine qst tyok ?_ | refine qbs tyok ?_)) | refine awp_cond_true rfl ?_ | refine awp_cond_false rfl ?_ | refine awp_skip ?_ | refine awp_exit ?_ | refine awp_ret ?_ | refine awp_label ?_ | (with_reducible refine thenQ_normal ?_) | (with_reducible refine blockQ_normal ?_) | (with_reducible refine thenQ_exit ?_) | (with_reducible refine blockQ_hit ?_) | refine blockQ_miss rfl ?_ | (with_reducible refine thenQ_ret ?_) | (with_reducible refine blockQ_ret ?_) | (with_reducible refine thenQ_panic ?_) | (with_reducible refine blockQ_panic ?_) | ((repeat ((fail_if_success (refine hK _ _ ?_)); clear hK)); refine hK _ _ ?_; clear hK))))
  refine awp_loopKP [1] rfl (ι := { x : Nat × Option Addr × Nat // x.1 ≤ 200 })
    (fun x => [(4, .int .i64 ((x.1.1 : Int) + 1)), (3, sl encP 2 (ofN f x.1.1) (.own x.1.2.1 x.1.2.2))]) (fun x => [.box b1 44 (vecI f), .tok x.1.2.1 x.1.2.2 (ofN f x.1.1).length 2 48])
    (fun x => 200 - x.1.1) ⟨(0, none, 0), Nat.zero_le _⟩ ?_ ⟨[], List.Perm.refl _⟩ ?_
  · (repeat (first | exact True.intro | refine ⟨⟨_, rfl, Sub.refl _⟩, ?_⟩ | refine ⟨⟨_, rfl, Sub.nilso _ _⟩, ?_⟩ | refine ⟨⟨_, rfl, sl_tail _ _ _ _ _⟩, ?_⟩ | refine ⟨⟨_, rfl, Sub.of_eq (by first | rfl | simp | (congr 1; omega))⟩, ?_⟩ | refine ⟨⟨_, rfl, Sub.view _ _ _ _⟩, ?_⟩))
  rintro ⟨⟨k, ad, cp⟩, hk⟩
  simp only at hk ⊢
  have hl := ofN_len f k
  have e1 : ((k : Int) + 1).toNat = k + 1 := by omega
  repeat (first | refine awp_seq_k (fun K hK => ?_) | refine awp_region tyok ?_ | refine areg_text mixed tyok (by kernel_rfl) ?_ | refine awp_block ?_ | (((with_reducible refine tr_id ?_); first | refine qp ?_ | refine TR.nil ?_ | (refine tr_guarded rfl ?_; first | refine qon ?_ | refine qoff ?_ | refine qopt ?_ | refine qhopt ?_) | refine qld ?_ | refine qpick ?_ | refine qal tyok (fun bx => ?_) | refine qbox (fun bx => ?_) | refine qboxV (fun bx => ?_) | refine qstV tyok ?_ | refine qst tyok ?_ | refine qbs tyok ?_)) | refine awp_cond_true rfl ?_ | refine awp_cond_false rfl ?_ | refine awp_skip ?_ | refine awp_exit ?_ | refine awp_ret ?_ | refine awp_label ?_ | (with_reducible refine thenQ_normal ?_) | (with_reducible refine blockQ_normal ?_) | (with_reducible refine thenQ_exit ?_) | (with_reducible refine blockQ_hit ?_) | refine blockQ_miss rfl ?_ | (with_reducible refine thenQ_ret ?_) | (with_reducible refine blockQ_ret ?_) | (with_reducible refine thenQ_panic ?_) | (with_reducible refine blockQ_panic ?_) | ((repeat ((fail_if_success (refine hK _ _ ?_)); clear hK)); refine hK _ _ ?_; clear hK))
  refine awp_cond rfl (fun hb => ?_) (fun hb => ?_)
  · have hlt : k < 200 := by simp at hb; omega
    repeat (first | refine awp_seq_k (fun K hK => ?_) | refine awp_region tyok ?_ | refine areg_text mixed tyok (by kernel_rfl) ?_ | refine awp_block ?_ | (((with_reducible refine tr_id ?_); first | refine qp ?_ | refine TR.nil ?_ | (refine tr_guarded rfl ?_; first | refine qon ?_ | refine qoff ?_ | refine qopt ?_ | refine qhopt ?_) | refine qld ?_ | refine qpick ?_ | refine qal tyok (fun bx => ?_) | refine qbox (fun bx => ?_) | refine qboxV (fun bx => ?_) | refine qstV tyok ?_ | refine qst tyok ?_ | refine qbs tyok ?_)) | refine awp_cond_true rfl ?_ | refine awp_cond_false rfl ?_ | refine awp_skip ?_ | refine awp_exit ?_ | refine awp_ret ?_ | refine awp_label ?_ | (with_reducible refine thenQ_normal ?_) | (with_reducible refine blockQ_normal ?_) | (with_reducible refine thenQ_exit ?_) | (with_reducible refine blockQ_hit ?_) | refine blockQ_miss rfl ?_ | (with_reducible refine thenQ_ret ?_) | (with_reducible refine blockQ_ret ?_) | (with_reducible refine thenQ_panic ?_) | (with_reducible refine blockQ_panic ?_) | ((repeat ((fail_if_success (refine hK _ _ ?_)); clear hK)); refine hK _ _ ?_; clear hK))
    refine awp_cond rfl (fun hc => ?_) (fun hc => ?_)
    · simp only [e1, Nat.zero_add, decide_eq_true_eq] at hc
      repeat (first | refine awp_seq_k (fun K hK => ?_) | refine awp_region tyok ?_ | refine areg_text mixed tyok (by kernel_rfl) ?_ | refine awp_block ?_ | (((with_reducible refine tr_id ?_); first | refine qp ?_ | refine TR.nil ?_ | (refine tr_guarded rfl ?_; first | refine qon ?_ | refine qoff ?_ | refine qopt ?_ | refine qhopt ?_) | refine qld ?_ | refine qpick ?_ | refine qal tyok (fun bx => ?_) | refine qbox (fun bx => ?_) | refine qboxV (fun bx => ?_) | refine qstV tyok ?_ | refine qst tyok ?_ | refine qbs tyok ?_)) | refine awp_cond_true rfl ?_ | refine awp_cond_false rfl ?_ | refine awp_skip ?_ | refine awp_exit ?_ | refine awp_ret ?_ | refine awp_label ?_ | (with_reducible refine thenQ_normal ?_) | (with_reducible refine blockQ_normal ?_) | (with_reducible refine thenQ_exit ?_) | (with_reducible refine blockQ_hit ?_) | refine blockQ_miss rfl ?_ | (with_reducible refine thenQ_ret ?_) | (with_reducible refine blockQ_ret ?_) | (with_reducible refine thenQ_panic ?_) | (with_reducible refine blockQ_panic ?_) | ((repeat ((fail_if_success (refine hK _ _ ?_)); clear hK)); refine hK _ _ ?_; clear hK))
      refine TR.appendO tyok 1 (fun ad cp => sl encP 2 (ofN f k ++ [((k : Int) + 1, f (k + 1))]) (.own ad cp)) rfl rfl rfl rfl (by first | exact True.intro | exact ⟨id, True.intro⟩ | exact ⟨id, id, True.intro⟩ | exact ⟨id, id, id, True.intro⟩) rfl rfl rfl rfl rfl rfl rfl rfl rfl rfl ?_ (fun ad cp => glue_sl1 encP 2 (ofN f k) ((k : Int) + 1, f (k + 1)) _ (by simp only [chunk, e1, Nat.zero_add]; rfl) _) (fun ad cp => ?_)
      · show (_ + 1) * 16 ≤ _ ∧ _ + 1 ≤ _
        omega
      repeat (first | refine awp_seq_k (fun K hK => ?_) | refine awp_region tyok ?_ | refine areg_text mixed tyok (by kernel_rfl) ?_ | refine awp_block ?_ | (((with_reducible refine tr_id ?_); first | refine qp ?_ | refine TR.nil ?_ | (refine tr_guarded rfl ?_; first | refine qon ?_ | refine qoff ?_ | refine qopt ?_ | refine qhopt ?_) | refine qld ?_ | refine qpick ?_ | refine qal tyok (fun bx => ?_) | refine qbox (fun bx => ?_) | refine qboxV (fun bx => ?_) | refine qstV tyok ?_ | refine qst tyok ?_ | refine qbs tyok ?_)) | refine awp_cond_true rfl ?_ | refine awp_cond_false rfl ?_ | refine awp_skip ?_ | refine awp_exit ?_ | refine awp_ret ?_ | refine awp_label ?_ | (with_reducible refine thenQ_normal ?_) | (with_reducible refine blockQ_normal ?_) | (with_reducible refine thenQ_exit ?_) | (with_reducible refine blockQ_hit ?_) | refine blockQ_miss rfl ?_ | (with_reducible refine thenQ_ret ?_) | (with_reducible refine blockQ_ret ?_) | (with_reducible refine thenQ_panic ?_) | (with_reducible refine blockQ_panic ?_) | ((repeat ((fail_if_success (refine hK _ _ ?_)); clear hK)); refine hK _ _ ?_; clear hK))
      have e2 : ofN f (k + 1) = ofN f k ++ [((k : Int) + 1, f (k + 1))] := by rw [ofN_succ, if_pos hc]; simp
      refine ⟨⟨(k + 1, ad, cp), hlt⟩, ?_, ⟨[], ?_⟩, ?_⟩
      · simp only [e2]
        (repeat (first | exact True.intro | refine ⟨⟨_, rfl, Sub.refl _⟩, ?_⟩ | refine ⟨⟨_, rfl, Sub.nilso _ _⟩, ?_⟩ | refine ⟨⟨_, rfl, sl_tail _ _ _ _ _⟩, ?_⟩ | refine ⟨⟨_, rfl, Sub.of_eq (by first | rfl | simp | (congr 1; omega))⟩, ?_⟩ | refine ⟨⟨_, rfl, Sub.view _ _ _ _⟩, ?_⟩))
      · simp only [e2, List.length_append]
        exact List.Perm.refl _
      · simp only; omega
    · simp only [e1, Nat.zero_add, decide_eq_false_iff_not] at hc
      repeat (first | refine awp_seq_k (fun K hK => ?_) | refine awp_region tyok ?_ | refine areg_text mixed tyok (by kernel_rfl) ?_ | refine awp_block ?_ | (((with_reducible refine tr_id ?_); first | refine qp ?_ | refine TR.nil ?_ | (refine tr_guarded rfl ?_; first | refine qon ?_ | refine qoff ?_ | refine qopt ?_ | refine qhopt ?_) | refine qld ?_ | refine qpick ?_ | refine qal tyok (fun bx => ?_) | refine qbox (fun bx => ?_) | refine qboxV (fun bx => ?_) | refine qstV tyok ?_ | refine qst tyok ?_ | refine qbs tyok ?_)) | refine awp_cond_true rfl ?_ | refine awp_cond_false rfl ?_ | refine awp_skip ?_ | refine awp_exit ?_ | refine awp_ret ?_ | refine awp_label ?_ | (with_reducible refine thenQ_normal ?_) | (with_reducible refine blockQ_normal ?_) | (with_reducible refine thenQ_exit ?_) | (with_reducible refine blockQ_hit ?_) | refine blockQ_miss rfl ?_ | (with_reducible refine thenQ_ret ?_) | (with_reducible refine blockQ_ret ?_) | (with_reducible refine thenQ_panic ?_) | (with_reducible refine blockQ_panic ?_) | ((repeat ((fail_if_success (refine hK _ _ ?_)); clear hK)); refine hK _ _ ?_; clear hK))
      have e2 : ofN f (k + 1) = ofN f k := by rw [ofN_succ, if_neg hc]; simp
      refine ⟨⟨(k + 1, ad, cp), hlt⟩, ?_, ⟨[], ?_⟩, ?_⟩
      · simp only [e2]
        (repeat (first | exact True.intro | refine ⟨⟨_, rfl, Sub.refl _⟩, ?_⟩ | refine ⟨⟨_, rfl, Sub.nilso _ _⟩, ?_⟩ | refine ⟨⟨_, rfl, sl_tail _ _ _ _ _⟩, ?_⟩ | refine ⟨⟨_, rfl, Sub.of_eq (by first | rfl | simp | (congr 1; omega))⟩, ?_⟩ | refine ⟨⟨_, rfl, Sub.view _ _ _ _⟩, ?_⟩))
      · simp only [e2]
        exact List.Perm.refl _
      · simp only; omega
  · have hge : k = 200 := by simp at hb; omega
    subst hge
    repeat (first | refine awp_seq_k (fun K hK => ?_) | refine awp_region tyok ?_ | refine areg_text mixed tyok (by kernel_rfl) ?_ | refine awp_block ?_ | (((with_reducible refine tr_id ?_); first | refine qp ?_ | refine TR.nil ?_ | (refine tr_guarded rfl ?_; first | refine qon ?_ | refine qoff ?_ | refine qopt ?_ | refine qhopt ?_) | refine qld ?_ | refine qpick ?_ | refine qal tyok (fun bx => ?_) | refine qbox (fun bx => ?_) | refine qboxV (fun bx => ?_) | refine qstV tyok ?_ | refine qst tyok ?_ | refine qbs tyok ?_)) | refine awp_cond_true rfl ?_ | refine awp_cond_false rfl ?_ | refine awp_skip ?_ | refine awp_exit ?_ | refine awp_ret ?_ | refine awp_label ?_ | (with_reducible refine thenQ_normal ?_) | (with_reducible refine blockQ_normal ?_) | (with_reducible refine thenQ_exit ?_) | (with_reducible refine blockQ_hit ?_) | refine blockQ_miss rfl ?_ | (with_reducible refine thenQ_ret ?_) | (with_reducible refine blockQ_ret ?_) | (with_reducible refine thenQ_panic ?_) | (with_reducible refine blockQ_panic ?_) | ((repeat ((fail_if_success (refine hK _ _ ?_)); clear hK)); refine hK _ _ ?_; clear hK))
    refine fnQ_p1 2 rfl rfl rfl rfl ?_
    exact Sub.view _ _ _ _

end Go.Proofs.Ytmjigepfjcokdaa
