/-
  What is met first in statements; a script's statements, its points.
-/
import Derived.Test.YtjinaakebjfbiaaGreatDoorSh3
import Derived.Test.YtjinaakebjfbiaaGreatDoorPq
namespace Go.Proofs.YtjinaakebjfbiaaGreatDoor
open Go.Ab

def lk0 : LkR := ⟨0, 0, 0, []⟩
theorem lkH_zero (b m : Nat) : lkH b m none 0 lk0 = [.box b 119 (.agg [.int .i64 0, .int .i64 0, .int .i64 0, .mapv (some m), sl txtE 1 [] (.own none 0)]), .obj m (keyObj []), .tok none 0 0 1 9] := rfl

theorem lookG_cons (n i : Nat) (x : StI) (l : List StI) (s : LkR) : lookG n i (x :: l) s = lookG n (i + 1) l (stmtG x (s.meet (!placeB n i x) 4 x.l1 x.c1)) := rfl

theorem cbLook : Callable Tryz.prog 70 := fun _ _ => by kernel_rfl
set_option maxHeartbeats 6400000 in
set_option maxRecDepth 100000 in
theorem look_c (l : List StI) (hl : l.length ≤ 10000000000000000) (hA : ∀ x ∈ l, x.args.length ≤ 10000000000000000) :
    ACalls Tryz.prog 70 [stmtsI l] [] (fun r H' => ∃ b m a cap, r = .ret (.ptr b 0) ∧ H' = lkH b m a cap (lookF l)) := by
  refine acalls_of_awp tyok cbLook Tryz.func70 rfl rfl ?_
  repeat (first | refine wK ?_ | refine awp_seq_k (fun K hK => ?_) | refine areg_text mixed tyok (by decide +kernel) ?_ | refine qal tyok (fun bx => ?_) | refine qbox (fun bx => ?_) | refine qboxV (fun bx => ?_) | ((repeat ((fail_if_success (refine hK _ _ ?_)); clear hK)); refine hK _ _ ?_; clear hK))
  refine TR.makeMap (fun m => ?_)
  ((repeat (first | refine wK ?_ | refine awp_seq_k (fun K hK => ?_) | refine areg_text mixed tyok (by decide +kernel) ?_ | ((repeat ((fail_if_success (refine hK _ _ ?_)); clear hK)); refine hK _ _ ?_; clear hK))); ((first | refine qal tyok (fun b => ?_) | refine qbox (fun b => ?_) | refine qboxV (fun b => ?_))); (repeat (first | refine wK ?_ | refine awp_seq_k (fun K hK => ?_) | refine areg_text mixed tyok (by decide +kernel) ?_ | refine qal tyok (fun bx => ?_) | refine qbox (fun bx => ?_) | refine qboxV (fun bx => ?_) | ((repeat ((fail_if_success (refine hK _ _ ?_)); clear hK)); refine hK _ _ ?_; clear hK))))
  refine awp_boxSub [] (v' := lkV m none 0 lk0) (subAgg (.cons (Sub.refl _) (.cons (Sub.refl _) (.cons (Sub.refl _) (.cons (Sub.refl _) (.cons (Sub.sl_nil txtE 1) .nil)))))) ?_
  refine awp_tok0 1 9 ?_
  refine awp_permS (H := lkH b m none 0 lk0) (List.perm_append_comm (l₁ := [_]) (l₂ := [_, _])) ?_
  refine (have hr := cutKF (Wk := [(0, stmtsI l), (3, .ptr b 0)]) (H0 := lkH b m none 0 (LkR.meet ⟨0, 0, 0, []⟩ (decide (l.length < 3)) 4 (shortAt l).1 (shortAt l).2)) hK ?_; ?_)
  · generalize hs0 : LkR.meet ⟨0, 0, 0, []⟩ (decide (l.length < 3)) 4 (shortAt l).1 (shortAt l).2 = s0
    have hn0 : s0.ns.length ≤ 40 := by rw [← hs0, meet_ns]; exact Nat.zero_le _
    have hfin : lookF l = lookG l.length 0 l s0 := by unfold lookF; rw [hs0]
    rw [hfin]
    repeat (first | refine wK ?_ | refine awp_seq_k (fun K hK => ?_) | refine areg_text mixed tyok (by decide +kernel) ?_ | refine qal tyok (fun bx => ?_) | refine qbox (fun bx => ?_) | refine qboxV (fun bx => ?_) | ((repeat ((fail_if_success (refine hK _ _ ?_)); clear hK)); refine hK _ _ ?_; clear hK))
    refine awp_loop0 (ι := { y : Nat × LkR × Option Addr × Nat // y.1 ≤ l.length ∧ y.2.1.ns.length ≤ 40 ∧ lookG l.length y.1 (l.drop y.1) y.2.1 = lookG l.length 0 l s0 })
      (fun y => [(0, stmtsI l), (3, .ptr b 0), (30, stmtsI l), (31, .int .i64 l.length), (32, .int .i64 y.1.1)])
      (fun y => lkH b m y.1.2.2.1 y.1.2.2.2 y.1.2.1) (fun y => l.length - y.1.1) ⟨(0, s0, none, 0), Nat.zero_le _, hn0, rfl⟩ (by (repeat (first | exact True.intro | refine ⟨⟨_, rfl, Sub.refl _⟩, ?_⟩ | refine ⟨⟨_, rfl, Sub.nilso _ _⟩, ?_⟩ | refine ⟨⟨_, rfl, sl_tail _ _ _ _ _⟩, ?_⟩ | refine ⟨⟨_, rfl, Sub.of_eq (by first | rfl | (congr 1; first | omega | (simp only; omega)) | (simp; done) | (simp; omega))⟩, ?_⟩ | refine ⟨⟨_, rfl, Sub.view _ _ _ _⟩, ?_⟩))) ⟨0, rfl⟩ ?_
    rintro ⟨⟨i, s1, a1, c1⟩, hi, hn1, hs1⟩
    simp only at hi hn1 hs1 ⊢
    by_cases hlt : i < l.length
    · have hlt' : (i : Int) < l.length := by omega
      have hxa : (l.getD i default).args.length ≤ 10000000000000000 := hA _ (by rw [getD_at hlt]; exact List.getElem_mem hlt)
      rw [List.drop_eq_getElem_cons hlt, ← getD_at hlt, lookG_cons] at hs1
      ((repeat (first | refine wKB ?_ | refine awp_seq_k (fun K hK => ?_) | refine areg_text mixed tyok (by decide +kernel) ?_ | ((repeat ((fail_if_success (refine hK _ _ ?_)); clear hK)); refine hK _ _ ?_; clear hK))); ((first | refine qal tyok (fun b6 => ?_) | refine qbox (fun b6 => ?_) | refine qboxV (fun b6 => ?_))))
      (((repeat (first | refine wT ?_ | refine qal tyok (fun bx => ?_) | refine qbox (fun bx => ?_) | refine qboxV (fun bx => ?_)))); repeat (first | (with_reducible refine pQ_normal ?_) | (with_reducible refine thenQ_normal ?_) | (with_reducible refine blockQ_normal ?_) | (with_reducible refine thenQ_exit ?_) | (with_reducible refine blockQ_hit ?_) | refine blockQ_miss rfl ?_ | (with_reducible refine thenQ_ret ?_) | (with_reducible refine blockQ_ret ?_) | (with_reducible refine pQ_panic ?_) | (with_reducible refine thenQ_panic ?_) | (with_reducible refine blockQ_panic ?_)); ((repeat ((fail_if_success (refine hK _ _ ?_)); clear hK)); refine hK _ _ ?_; clear hK))
      refine awp_boxSub [] (v' := .agg (stmtEI (l.getD i default))) (Sub.of_eq rfl) ?_
      refine awp_freeze [] (s := 6) rfl rfl ?_
      generalize l.getD i default = x at hs1 hxa ⊢
      have gl := limits_c x
      have hmn : ∀ v, (s1.meet v 4 x.l1 x.c1).ns.length ≤ 40 := fun v => by rw [meet_ns]; exact hn1
      by_cases hi0 : i = 0
      · have ep : placeB l.length i x = (decide (x.k = 1) && limB x.args) := by unfold placeB; rw [if_pos hi0]
        rw [ep] at hs1
        repeat (first | refine wKB ?_ | refine awp_seq_k (fun K hK => ?_) | refine areg_text mixed tyok (by decide +kernel) ?_ | refine qal tyok (fun bx => ?_) | refine qbox (fun bx => ?_) | refine qboxV (fun bx => ?_) | refine TR.pcall rfl rfl rfl rfl True.intro rfl rfl (gl) ?_ | refine pco rfl rfl rfl rfl rfl rfl rfl rfl (fun _ => gl) ?_ | ((repeat ((fail_if_success (refine hK _ _ ?_)); clear hK)); refine hK _ _ ?_; clear hK))
        refine qcallH (G := []) (meet_c b m a1 c1 s1 _ 4 x.l1 x.c1) ?_
        repeat (first | refine wKB ?_ | refine awp_seq_k (fun K hK => ?_) | refine areg_text mixed tyok (by decide +kernel) ?_ | refine qal tyok (fun bx => ?_) | refine qbox (fun bx => ?_) | refine qboxV (fun bx => ?_) | ((repeat ((fail_if_success (refine hK _ _ ?_)); clear hK)); refine hK _ _ ?_; clear hK))
        refine qcallX (G := []) (lkstmt_c b m a1 c1 _ x hxa (hmn _)) fun q => ?_
        repeat (first | refine wKB ?_ | refine awp_seq_k (fun K hK => ?_) | refine areg_text mixed tyok (by decide +kernel) ?_ | refine qal tyok (fun bx => ?_) | refine qbox (fun bx => ?_) | refine qboxV (fun bx => ?_) | ((repeat ((fail_if_success (refine hK _ _ ?_)); clear hK)); refine hK _ _ ?_; clear hK))
        exact ⟨⟨(i + 1, _, q.1, q.2), hlt, stmtG_len x (by rw [meet_ns]; exact hn1), hs1⟩, (by (repeat (first | exact True.intro | refine ⟨⟨_, rfl, Sub.refl _⟩, ?_⟩ | refine ⟨⟨_, rfl, Sub.nilso _ _⟩, ?_⟩ | refine ⟨⟨_, rfl, sl_tail _ _ _ _ _⟩, ?_⟩ | refine ⟨⟨_, rfl, Sub.of_eq (by first | rfl | (congr 1; first | omega | (simp only; omega)) | (simp; done) | (simp; omega))⟩, ?_⟩ | refine ⟨⟨_, rfl, Sub.view _ _ _ _⟩, ?_⟩))), ⟨0, rfl⟩, by simp only; omega⟩
      by_cases hi1 : i = 1
      · have ep : placeB l.length i x = (x.k == 2 && (x.word.w == wSimple || x.word.w == wFull)) := by unfold placeB; rw [if_neg hi0, if_pos hi1]; rfl
        rw [ep] at hs1
        repeat (first | refine wKB ?_ | refine awp_seq_k (fun K hK => ?_) | refine areg_text mixed tyok (by decide +kernel) ?_ | refine qal tyok (fun bx => ?_) | refine qbox (fun bx => ?_) | refine qboxV (fun bx => ?_) | refine TR.pcall rfl rfl rfl rfl True.intro rfl rfl (gl) ?_ | refine pco rfl rfl rfl rfl rfl rfl rfl rfl (fun _ => gl) ?_ | ((repeat ((fail_if_success (refine hK _ _ ?_)); clear hK)); refine hK _ _ ?_; clear hK))
        refine qcallH (G := []) (meet_c b m a1 c1 s1 _ 4 x.l1 x.c1) ?_
        repeat (first | refine wKB ?_ | refine awp_seq_k (fun K hK => ?_) | refine areg_text mixed tyok (by decide +kernel) ?_ | refine qal tyok (fun bx => ?_) | refine qbox (fun bx => ?_) | refine qboxV (fun bx => ?_) | ((repeat ((fail_if_success (refine hK _ _ ?_)); clear hK)); refine hK _ _ ?_; clear hK))
        refine qcallX (G := []) (lkstmt_c b m a1 c1 _ x hxa (hmn _)) fun q => ?_
        repeat (first | refine wKB ?_ | refine awp_seq_k (fun K hK => ?_) | refine areg_text mixed tyok (by decide +kernel) ?_ | refine qal tyok (fun bx => ?_) | refine qbox (fun bx => ?_) | refine qboxV (fun bx => ?_) | ((repeat ((fail_if_success (refine hK _ _ ?_)); clear hK)); refine hK _ _ ?_; clear hK))
        exact ⟨⟨(i + 1, _, q.1, q.2), hlt, stmtG_len x (by rw [meet_ns]; exact hn1), hs1⟩, (by (repeat (first | exact True.intro | refine ⟨⟨_, rfl, Sub.refl _⟩, ?_⟩ | refine ⟨⟨_, rfl, Sub.nilso _ _⟩, ?_⟩ | refine ⟨⟨_, rfl, sl_tail _ _ _ _ _⟩, ?_⟩ | refine ⟨⟨_, rfl, Sub.of_eq (by first | rfl | (congr 1; first | omega | (simp only; omega)) | (simp; done) | (simp; omega))⟩, ?_⟩ | refine ⟨⟨_, rfl, Sub.view _ _ _ _⟩, ?_⟩))), ⟨0, rfl⟩, by simp only; omega⟩
      by_cases hin : i + 1 = l.length
      · have ep : placeB l.length i x = (x.k == 5) := by unfold placeB; rw [if_neg hi0, if_neg hi1, if_pos hin]; rfl
        rw [ep] at hs1
        repeat (first | refine wKB ?_ | refine awp_seq_k (fun K hK => ?_) | refine areg_text mixed tyok (by decide +kernel) ?_ | refine qal tyok (fun bx => ?_) | refine qbox (fun bx => ?_) | refine qboxV (fun bx => ?_) | refine TR.pcall rfl rfl rfl rfl True.intro rfl rfl (gl) ?_ | refine pco rfl rfl rfl rfl rfl rfl rfl rfl (fun _ => gl) ?_ | ((repeat ((fail_if_success (refine hK _ _ ?_)); clear hK)); refine hK _ _ ?_; clear hK))
        refine qcallH (G := []) (meet_c b m a1 c1 s1 _ 4 x.l1 x.c1) ?_
        repeat (first | refine wKB ?_ | refine awp_seq_k (fun K hK => ?_) | refine areg_text mixed tyok (by decide +kernel) ?_ | refine qal tyok (fun bx => ?_) | refine qbox (fun bx => ?_) | refine qboxV (fun bx => ?_) | ((repeat ((fail_if_success (refine hK _ _ ?_)); clear hK)); refine hK _ _ ?_; clear hK))
        refine qcallX (G := []) (lkstmt_c b m a1 c1 _ x hxa (hmn _)) fun q => ?_
        repeat (first | refine wKB ?_ | refine awp_seq_k (fun K hK => ?_) | refine areg_text mixed tyok (by decide +kernel) ?_ | refine qal tyok (fun bx => ?_) | refine qbox (fun bx => ?_) | refine qboxV (fun bx => ?_) | ((repeat ((fail_if_success (refine hK _ _ ?_)); clear hK)); refine hK _ _ ?_; clear hK))
        exact ⟨⟨(i + 1, _, q.1, q.2), hlt, stmtG_len x (by rw [meet_ns]; exact hn1), hs1⟩, (by (repeat (first | exact True.intro | refine ⟨⟨_, rfl, Sub.refl _⟩, ?_⟩ | refine ⟨⟨_, rfl, Sub.nilso _ _⟩, ?_⟩ | refine ⟨⟨_, rfl, sl_tail _ _ _ _ _⟩, ?_⟩ | refine ⟨⟨_, rfl, Sub.of_eq (by first | rfl | (congr 1; first | omega | (simp only; omega)) | (simp; done) | (simp; omega))⟩, ?_⟩ | refine ⟨⟨_, rfl, Sub.view _ _ _ _⟩, ?_⟩))), ⟨0, rfl⟩, by simp only; omega⟩
      · have ep : placeB l.length i x = (x.k == 3 || x.k == 4) := by unfold placeB; rw [if_neg hi0, if_neg hi1, if_neg hin]; rfl
        rw [ep] at hs1
        repeat (first | refine wKB ?_ | refine awp_seq_k (fun K hK => ?_) | refine areg_text mixed tyok (by decide +kernel) ?_ | refine qal tyok (fun bx => ?_) | refine qbox (fun bx => ?_) | refine qboxV (fun bx => ?_) | refine TR.pcall rfl rfl rfl rfl True.intro rfl rfl (gl) ?_ | refine pco rfl rfl rfl rfl rfl rfl rfl rfl (fun _ => gl) ?_ | ((repeat ((fail_if_success (refine hK _ _ ?_)); clear hK)); refine hK _ _ ?_; clear hK))
        refine qcallH (G := []) (meet_c b m a1 c1 s1 _ 4 x.l1 x.c1) ?_
        repeat (first | refine wKB ?_ | refine awp_seq_k (fun K hK => ?_) | refine areg_text mixed tyok (by decide +kernel) ?_ | refine qal tyok (fun bx => ?_) | refine qbox (fun bx => ?_) | refine qboxV (fun bx => ?_) | ((repeat ((fail_if_success (refine hK _ _ ?_)); clear hK)); refine hK _ _ ?_; clear hK))
        refine qcallX (G := []) (lkstmt_c b m a1 c1 _ x hxa (hmn _)) fun q => ?_
        repeat (first | refine wKB ?_ | refine awp_seq_k (fun K hK => ?_) | refine areg_text mixed tyok (by decide +kernel) ?_ | refine qal tyok (fun bx => ?_) | refine qbox (fun bx => ?_) | refine qboxV (fun bx => ?_) | ((repeat ((fail_if_success (refine hK _ _ ?_)); clear hK)); refine hK _ _ ?_; clear hK))
        exact ⟨⟨(i + 1, _, q.1, q.2), hlt, stmtG_len x (by rw [meet_ns]; exact hn1), hs1⟩, (by (repeat (first | exact True.intro | refine ⟨⟨_, rfl, Sub.refl _⟩, ?_⟩ | refine ⟨⟨_, rfl, Sub.nilso _ _⟩, ?_⟩ | refine ⟨⟨_, rfl, sl_tail _ _ _ _ _⟩, ?_⟩ | refine ⟨⟨_, rfl, Sub.of_eq (by first | rfl | (congr 1; first | omega | (simp only; omega)) | (simp; done) | (simp; omega))⟩, ?_⟩ | refine ⟨⟨_, rfl, Sub.view _ _ _ _⟩, ?_⟩))), ⟨0, rfl⟩, by simp only; omega⟩
    · have hge : ¬ (i : Int) < l.length := by omega
      obtain rfl : i = l.length := by omega
      rw [List.drop_length] at hs1
      repeat (first | refine wKB ?_ | refine awp_seq_k (fun K hK => ?_) | refine areg_text mixed tyok (by decide +kernel) ?_ | refine qal tyok (fun bx => ?_) | refine qbox (fun bx => ?_) | refine qboxV (fun bx => ?_) | ((repeat ((fail_if_success (refine hK _ _ ?_)); clear hK)); refine hK _ _ ?_; clear hK))
      exact fnQ_ret 0 rfl (.tmp rfl .nil) (Sub.refl _) ⟨b, m, a1, c1, rfl, by rw [← hs1]; rfl⟩
  · clear hK
    by_cases h3 : l.length < 3
    · have h3' : (l.length : Int) < 3 := by omega
      rw [decide_eq_true h3, meet_true rfl] at hr
      by_cases h0 : l.length = 0
      · obtain rfl := List.eq_nil_of_length_eq_zero h0
        have hz : (([] : List StI).length : Int) = 0 := rfl
        ((repeat (first | refine wKB ?_ | refine awp_seq_k (fun K hK => ?_) | refine areg_text mixed tyok (by decide +kernel) ?_ | ((repeat ((fail_if_success (refine hK _ _ ?_)); clear hK)); refine hK _ _ ?_; clear hK))); ((first | refine qal tyok (fun b4 => ?_) | refine qbox (fun b4 => ?_) | refine qboxV (fun b4 => ?_))); (repeat (first | refine wKB ?_ | refine awp_seq_k (fun K hK => ?_) | refine areg_text mixed tyok (by decide +kernel) ?_ | refine qal tyok (fun bx => ?_) | refine qbox (fun bx => ?_) | refine qboxV (fun bx => ?_) | ((repeat ((fail_if_success (refine hK _ _ ?_)); clear hK)); refine hK _ _ ?_; clear hK))))
        refine qcallH (G := [_]) (meet_c b m none 0 lk0 true 4 1 1) ?_
        repeat (first | refine wKB ?_ | refine awp_seq_k (fun K hK => ?_) | refine areg_text mixed tyok (by decide +kernel) ?_ | refine qal tyok (fun bx => ?_) | refine qbox (fun bx => ?_) | refine qboxV (fun bx => ?_) | ((repeat ((fail_if_success (refine hK _ _ ?_)); clear hK)); refine hK _ _ ?_; clear hK))
        refine hr _ [_] ?_
        (repeat (first | exact True.intro | refine ⟨⟨_, rfl, Sub.refl _⟩, ?_⟩ | refine ⟨⟨_, rfl, Sub.nilso _ _⟩, ?_⟩ | refine ⟨⟨_, rfl, sl_tail _ _ _ _ _⟩, ?_⟩ | refine ⟨⟨_, rfl, Sub.of_eq (by first | rfl | (congr 1; first | omega | (simp only; omega)) | (simp; done) | (simp; omega))⟩, ?_⟩ | refine ⟨⟨_, rfl, Sub.view _ _ _ _⟩, ?_⟩))
      · have hg : l.getLast? = some (l.getD (l.length - 1) default) := by
          rw [List.getLast?_eq_getElem?, getD_at (by omega), List.getElem?_eq_getElem (by omega)]
        have es : shortAt l = ((l.getD (l.length - 1) default).l2, (l.getD (l.length - 1) default).c2) := by
          unfold shortAt
          rw [hg]
        rw [es] at hr
        have ei : ((l.length : Int) - 1).toNat = l.length - 1 := by omega
        refine awp_cond rfl (fun _ => ?_) (fun hb => absurd h3' (of_decide_eq_false hb))
        ((repeat (first | refine wKB ?_ | refine awp_seq_k (fun K hK => ?_) | ((repeat ((fail_if_success (refine hK _ _ ?_)); clear hK)); refine hK _ _ ?_; clear hK))); ((first | refine qal tyok (fun b4 => ?_) | refine qbox (fun b4 => ?_) | refine qboxV (fun b4 => ?_))); (repeat (first | refine wKB ?_ | refine awp_seq_k (fun K hK => ?_) | refine qal tyok (fun bx => ?_) | refine qbox (fun bx => ?_) | refine qboxV (fun bx => ?_) | ((repeat ((fail_if_success (refine hK _ _ ?_)); clear hK)); refine hK _ _ ?_; clear hK))))
        refine awp_boxSub [] (v' := placeV (l.getD (l.length - 1) default).l2 (l.getD (l.length - 1) default).c2) (Sub.of_eq ?_) ?_
        · rw [ei]; rfl
        repeat (first | refine wKB ?_ | refine awp_seq_k (fun K hK => ?_) | refine areg_text mixed tyok (by decide +kernel) ?_ | refine qal tyok (fun bx => ?_) | refine qbox (fun bx => ?_) | refine qboxV (fun bx => ?_) | ((repeat ((fail_if_success (refine hK _ _ ?_)); clear hK)); refine hK _ _ ?_; clear hK))
        refine qcallH (G := [_]) (meet_c b m none 0 lk0 true 4 (l.getD (l.length - 1) default).l2 (l.getD (l.length - 1) default).c2) ?_
        repeat (first | refine wKB ?_ | refine awp_seq_k (fun K hK => ?_) | refine areg_text mixed tyok (by decide +kernel) ?_ | refine qal tyok (fun bx => ?_) | refine qbox (fun bx => ?_) | refine qboxV (fun bx => ?_) | ((repeat ((fail_if_success (refine hK _ _ ?_)); clear hK)); refine hK _ _ ?_; clear hK))
        refine hr _ [_] ?_
        (repeat (first | exact True.intro | refine ⟨⟨_, rfl, Sub.refl _⟩, ?_⟩ | refine ⟨⟨_, rfl, Sub.nilso _ _⟩, ?_⟩ | refine ⟨⟨_, rfl, sl_tail _ _ _ _ _⟩, ?_⟩ | refine ⟨⟨_, rfl, Sub.of_eq (by first | rfl | (congr 1; first | omega | (simp only; omega)) | (simp; done) | (simp; omega))⟩, ?_⟩ | refine ⟨⟨_, rfl, Sub.view _ _ _ _⟩, ?_⟩))
    · have hge : ¬ (l.length : Int) < 3 := by omega
      rw [decide_eq_false h3] at hr
      refine awp_cond rfl (fun hb => absurd (of_decide_eq_true hb) hge) (fun _ => ?_)
      repeat (first | refine wKB ?_ | refine awp_seq_k (fun K hK => ?_) | refine areg_text mixed tyok (by decide +kernel) ?_ | refine qal tyok (fun bx => ?_) | refine qbox (fun bx => ?_) | refine qboxV (fun bx => ?_) | ((repeat ((fail_if_success (refine hK _ _ ?_)); clear hK)); refine hK _ _ ?_; clear hK))
      refine hr _ [] ?_
      (repeat (first | exact True.intro | refine ⟨⟨_, rfl, Sub.refl _⟩, ?_⟩ | refine ⟨⟨_, rfl, Sub.nilso _ _⟩, ?_⟩ | refine ⟨⟨_, rfl, sl_tail _ _ _ _ _⟩, ?_⟩ | refine ⟨⟨_, rfl, Sub.of_eq (by first | rfl | (congr 1; first | omega | (simp only; omega)) | (simp; done) | (simp; omega))⟩, ?_⟩ | refine ⟨⟨_, rfl, Sub.view _ _ _ _⟩, ?_⟩))

def placeL (s : LkR) : AV := placeV s.ln s.co

theorem cbChk : Callable Tryz.prog 39 := fun _ _ => by kernel_rfl
set_option maxHeartbeats 1600000 in
set_option maxRecDepth 100000 in
theorem check_c (l : List StI) (hl : l.length ≤ 10000000000000000) (hA : ∀ x ∈ l, x.args.length ≤ 10000000000000000) :
    PCalls Tryz.prog 39 [stmtsI l] (.tuple [placeV (lookF l).ln (lookF l).co, .int .i64 (lookF l).e]) := by
  refine pcalls_of_awp tyok cbChk Tryz.func39 rfl rfl ?_
  ((repeat (first | refine wK ?_ | refine awp_seq_k (fun K hK => ?_) | refine areg_text mixed tyok (by decide +kernel) ?_ | ((repeat ((fail_if_success (refine hK _ _ ?_)); clear hK)); refine hK _ _ ?_; clear hK))); ((first | refine qal tyok (fun b2 => ?_) | refine qbox (fun b2 => ?_) | refine qboxV (fun b2 => ?_))); (repeat (first | refine wK ?_ | refine awp_seq_k (fun K hK => ?_) | refine areg_text mixed tyok (by decide +kernel) ?_ | refine qal tyok (fun bx => ?_) | refine qbox (fun bx => ?_) | refine qboxV (fun bx => ?_) | ((repeat ((fail_if_success (refine hK _ _ ?_)); clear hK)); refine hK _ _ ?_; clear hK))))
  refine TR.hcall (Hc := []) rfl rfl rfl True.intro rfl rfl (List.Perm.refl _) (look_c l hl hA) (fun v H' hK => ?_) (fun v H' hK => ?_)
  rotate_left
  · obtain ⟨b, m, a, cap, e, _⟩ := hK
    cases e
  obtain ⟨b, m, a, cap, e, rfl⟩ := hK
  cases e
  repeat (first | refine wK ?_ | refine awp_seq_k (fun K hK => ?_) | refine qal tyok (fun bx => ?_) | refine qbox (fun bx => ?_) | refine qboxV (fun bx => ?_) | ((repeat ((fail_if_success (refine hK _ _ ?_)); clear hK)); refine hK _ _ ?_; clear hK))
  refine areg_kept mixed tyok [(10, [39])] [0, 1, 2, 3, 4, 5, 6, 7, 8, 9, 10, 11] (by decide +kernel) ?_
  repeat (first | refine wK ?_ | refine awp_seq_k (fun K hK => ?_) | refine areg_text mixed tyok (by decide +kernel) ?_ | refine qal tyok (fun bx => ?_) | refine qbox (fun bx => ?_) | refine qboxV (fun bx => ?_) | ((repeat ((fail_if_success (refine hK _ _ ?_)); clear hK)); refine hK _ _ ?_; clear hK))
  exact fnQ_ret 4 rfl (.cell rfl rfl (List.mem_of_getElem? (i := 3) rfl) rfl trivial (.tmp rfl .nil)) (Sub.refl _) ⟨rfl, rfl⟩

theorem cbPts : Callable Tryz.prog 38 := fun _ _ => by kernel_rfl
set_option maxHeartbeats 1600000 in
set_option maxRecDepth 100000 in
theorem shpoints_c (l : List StI) (hl : l.length ≤ 10000000000000000) (hA : ∀ x ∈ l, x.args.length ≤ 10000000000000000) :
    PCalls Tryz.prog 38 [stmtsI l] (sl txtE 1 (if (lookF l).e = 0 then (lookF l).ns else []) .view) := by
  refine pcalls_of_awp tyok cbPts Tryz.func38 rfl rfl ?_
  repeat (first | refine wK ?_ | refine awp_seq_k (fun K hK => ?_) | refine areg_text mixed tyok (by decide +kernel) ?_ | refine qal tyok (fun bx => ?_) | refine qbox (fun bx => ?_) | refine qboxV (fun bx => ?_) | ((repeat ((fail_if_success (refine hK _ _ ?_)); clear hK)); refine hK _ _ ?_; clear hK))
  refine TR.hcall (Hc := []) rfl rfl rfl True.intro rfl rfl (List.Perm.refl _) (look_c l hl hA) (fun v H' hK => ?_) (fun v H' hK => ?_)
  rotate_left
  · obtain ⟨b, m, a, cap, e, _⟩ := hK
    cases e
  obtain ⟨b, m, a, cap, e, rfl⟩ := hK
  cases e
  by_cases h : (lookF l).e = 0
  · repeat (first | refine wKB ?_ | refine awp_seq_k (fun K hK => ?_) | refine areg_text mixed tyok (by decide +kernel) ?_ | refine qal tyok (fun bx => ?_) | refine qbox (fun bx => ?_) | refine qboxV (fun bx => ?_) | ((repeat ((fail_if_success (refine hK _ _ ?_)); clear hK)); refine hK _ _ ?_; clear hK))
    refine fnQ_ret 3 rfl (.tmp rfl .nil) ?_ ⟨rfl, rfl⟩
    rw [if_pos h]
    exact Sub.view _ _ _ _
  · repeat (first | refine wKB ?_ | refine awp_seq_k (fun K hK => ?_) | refine areg_text mixed tyok (by decide +kernel) ?_ | refine qal tyok (fun bx => ?_) | refine qbox (fun bx => ?_) | refine qboxV (fun bx => ?_) | ((repeat ((fail_if_success (refine hK _ _ ?_)); clear hK)); refine hK _ _ ?_; clear hK))
    refine fnQ_ret 3 rfl (.tmp rfl .nil) ?_ ⟨rfl, rfl⟩
    rw [if_neg h]
    exact Sub.nilsv _ _

/-- A script's statements, if they are well formed; or what is met first. -/
noncomputable def scriptF (s : List UInt8) : (Int × Int × Int) ⊕ List StR :=
  if s.length > 65536 then .inl (0, 0, 3) else match parseF s with
    | .inl (l, c) => .inl (l, c, 4)
    | .inr r => if (lookF (r.map StR.up)).e = 0 then .inr r else .inl ((lookF (r.map StR.up)).ln, (lookF (r.map StR.up)).co, (lookF (r.map StR.up)).e)
def scriptV (x : (Int × Int × Int) ⊕ List StR) : AV := match x with
  | .inl (l, c, e) => .tuple [stmtsV [], placeV l c, .int .i64 e]
  | .inr r => .tuple [stmtsV r, placeV 0 0, .int .i64 0]

theorem checkR_c (r : List StR) (hl : r.length ≤ 1000000001) (hA : ∀ x ∈ r, x.args.length ≤ 1000000001) :
    PCalls Tryz.prog 39 [stmtsV r] (.tuple [placeV (lookF (r.map StR.up)).ln (lookF (r.map StR.up)).co, .int .i64 (lookF (r.map StR.up)).e]) := by
  refine PCalls.sub (check_c (r.map StR.up) (by rw [List.length_map]; omega) fun x hx => ?_) (.cons (stmts_up r) .nil)
  obtain ⟨y, hy, rfl⟩ := List.mem_map.1 hx
  have := hA y hy
  show (y.args.map TokR.up).length ≤ _
  rw [List.length_map]
  omega

theorem cbScr : Callable Tryz.prog 37 := fun _ _ => by kernel_rfl
set_option maxHeartbeats 1600000 in
set_option maxRecDepth 100000 in
theorem script_c (s : List UInt8) (hs : s.length ≤ 1000000000) : PCalls Tryz.prog 37 [.str s] (scriptV (scriptF s)) := by
  refine pcalls_of_awp tyok cbScr Tryz.func37 rfl rfl ?_
  have g := parse_c s hs
  by_cases hlong : s.length > 65536
  · have e : scriptF s = .inl (0, 0, 3) := by unfold scriptF; rw [if_pos hlong]
    have e2 : parseR s = .tuple [stmtsV [], placeV 0 0, .int .i64 3] := by unfold parseR; rw [if_pos hlong]
    rw [e2] at g
    rw [e]
    ((repeat (first | refine wKB ?_ | refine awp_seq_k (fun K hK => ?_) | refine areg_text mixed tyok (by decide +kernel) ?_ | refine TR.pcall rfl rfl rfl rfl True.intro rfl rfl (g) ?_ | refine pco rfl rfl rfl rfl rfl rfl rfl rfl (fun _ => g) ?_ | ((repeat ((fail_if_success (refine hK _ _ ?_)); clear hK)); refine hK _ _ ?_; clear hK))); ((first | refine qal tyok (fun b3 => ?_) | refine qbox (fun b3 => ?_) | refine qboxV (fun b3 => ?_))); (repeat (first | refine wKB ?_ | refine awp_seq_k (fun K hK => ?_) | refine areg_text mixed tyok (by decide +kernel) ?_ | refine TR.pcall rfl rfl rfl rfl True.intro rfl rfl (g) ?_ | refine pco rfl rfl rfl rfl rfl rfl rfl rfl (fun _ => g) ?_ | ((repeat ((fail_if_success (refine hK _ _ ?_)); clear hK)); refine hK _ _ ?_; clear hK))); ((first | refine qal tyok (fun b6 => ?_) | refine qbox (fun b6 => ?_) | refine qboxV (fun b6 => ?_))); (repeat (first | refine wKB ?_ | refine awp_seq_k (fun K hK => ?_) | refine areg_text mixed tyok (by decide +kernel) ?_ | refine qal tyok (fun bx => ?_) | refine qbox (fun bx => ?_) | refine qboxV (fun bx => ?_) | refine TR.pcall rfl rfl rfl rfl True.intro rfl rfl (g) ?_ | refine pco rfl rfl rfl rfl rfl rfl rfl rfl (fun _ => g) ?_ | ((repeat ((fail_if_success (refine hK _ _ ?_)); clear hK)); refine hK _ _ ?_; clear hK))))
    exact fnQ_ret 2 rfl (.tmp rfl (.cell rfl rfl (List.mem_of_getElem? (i := 1) rfl) rfl trivial (.tmp rfl .nil))) (Sub.tuple3 (Sub.nilsv _ _) (Sub.refl _) (Sub.refl _)) ⟨rfl, rfl⟩
  cases hp : parseF s with
  | inl p =>
    obtain ⟨l, c⟩ := p
    have e : scriptF s = .inl (l, c, 4) := by unfold scriptF; rw [if_neg hlong, hp]
    have e2 : parseR s = .tuple [stmtsV [], placeV l c, .int .i64 4] := by unfold parseR; rw [if_neg hlong, hp]
    rw [e2] at g
    rw [e]
    ((repeat (first | refine wKB ?_ | refine awp_seq_k (fun K hK => ?_) | refine areg_text mixed tyok (by decide +kernel) ?_ | refine TR.pcall rfl rfl rfl rfl True.intro rfl rfl (g) ?_ | refine pco rfl rfl rfl rfl rfl rfl rfl rfl (fun _ => g) ?_ | ((repeat ((fail_if_success (refine hK _ _ ?_)); clear hK)); refine hK _ _ ?_; clear hK))); ((first | refine qal tyok (fun b3 => ?_) | refine qbox (fun b3 => ?_) | refine qboxV (fun b3 => ?_))); (repeat (first | refine wKB ?_ | refine awp_seq_k (fun K hK => ?_) | refine areg_text mixed tyok (by decide +kernel) ?_ | refine TR.pcall rfl rfl rfl rfl True.intro rfl rfl (g) ?_ | refine pco rfl rfl rfl rfl rfl rfl rfl rfl (fun _ => g) ?_ | ((repeat ((fail_if_success (refine hK _ _ ?_)); clear hK)); refine hK _ _ ?_; clear hK))); ((first | refine qal tyok (fun b6 => ?_) | refine qbox (fun b6 => ?_) | refine qboxV (fun b6 => ?_))); (repeat (first | refine wKB ?_ | refine awp_seq_k (fun K hK => ?_) | refine areg_text mixed tyok (by decide +kernel) ?_ | refine qal tyok (fun bx => ?_) | refine qbox (fun bx => ?_) | refine qboxV (fun bx => ?_) | refine TR.pcall rfl rfl rfl rfl True.intro rfl rfl (g) ?_ | refine pco rfl rfl rfl rfl rfl rfl rfl rfl (fun _ => g) ?_ | ((repeat ((fail_if_success (refine hK _ _ ?_)); clear hK)); refine hK _ _ ?_; clear hK))))
    exact fnQ_ret 2 rfl (.tmp rfl (.cell rfl rfl (List.mem_of_getElem? (i := 1) rfl) rfl trivial (.tmp rfl .nil))) (Sub.tuple3 (Sub.nilsv _ _) (Sub.refl _) (Sub.refl _)) ⟨rfl, rfl⟩
  | inr r =>
    obtain ⟨b1, b2⟩ := parseG_bound hp
    have e2 : parseR s = .tuple [stmtsV r, placeV 0 0, .int .i64 0] := by unfold parseR; rw [if_neg hlong, hp]
    rw [e2] at g
    have g2 := checkR_c r (by omega) (fun x hx => by have := b2 x hx; omega)
    by_cases h : (lookF (r.map StR.up)).e = 0
    · have e : scriptF s = .inr r := by unfold scriptF; rw [if_neg hlong, hp]; simp only; rw [if_pos h]
      have e3 := (lookF_id h).2.1
      rw [e3] at g2
      rw [e]
      ((repeat (first | refine wKB ?_ | refine awp_seq_k (fun K hK => ?_) | refine areg_text mixed tyok (by decide +kernel) ?_ | refine TR.pcall rfl rfl rfl rfl True.intro rfl rfl (g) ?_ | refine TR.pcall rfl rfl rfl rfl True.intro rfl rfl (g2) ?_ | refine pco rfl rfl rfl rfl rfl rfl rfl rfl (fun _ => g) ?_ | refine pco rfl rfl rfl rfl rfl rfl rfl rfl (fun _ => g2) ?_ | ((repeat ((fail_if_success (refine hK _ _ ?_)); clear hK)); refine hK _ _ ?_; clear hK))); ((first | refine qal tyok (fun b3 => ?_) | refine qbox (fun b3 => ?_) | refine qboxV (fun b3 => ?_))); (repeat (first | refine wKB ?_ | refine awp_seq_k (fun K hK => ?_) | refine areg_text mixed tyok (by decide +kernel) ?_ | refine TR.pcall rfl rfl rfl rfl True.intro rfl rfl (g) ?_ | refine TR.pcall rfl rfl rfl rfl True.intro rfl rfl (g2) ?_ | refine pco rfl rfl rfl rfl rfl rfl rfl rfl (fun _ => g) ?_ | refine pco rfl rfl rfl rfl rfl rfl rfl rfl (fun _ => g2) ?_ | ((repeat ((fail_if_success (refine hK _ _ ?_)); clear hK)); refine hK _ _ ?_; clear hK))); ((first | refine qal tyok (fun b6 => ?_) | refine qbox (fun b6 => ?_) | refine qboxV (fun b6 => ?_))); (repeat (first | refine wKB ?_ | refine awp_seq_k (fun K hK => ?_) | refine areg_text mixed tyok (by decide +kernel) ?_ | refine qal tyok (fun bx => ?_) | refine qbox (fun bx => ?_) | refine qboxV (fun bx => ?_) | refine TR.pcall rfl rfl rfl rfl True.intro rfl rfl (g) ?_ | refine TR.pcall rfl rfl rfl rfl True.intro rfl rfl (g2) ?_ | refine pco rfl rfl rfl rfl rfl rfl rfl rfl (fun _ => g) ?_ | refine pco rfl rfl rfl rfl rfl rfl rfl rfl (fun _ => g2) ?_ | ((repeat ((fail_if_success (refine hK _ _ ?_)); clear hK)); refine hK _ _ ?_; clear hK))))
      exact fnQ_ret 2 rfl (.tmp rfl (.cell rfl rfl (List.mem_of_getElem? (i := 1) rfl) rfl trivial (.tmp rfl .nil))) (Sub.refl _) ⟨rfl, rfl⟩
    · have e : scriptF s = .inl ((lookF (r.map StR.up)).ln, (lookF (r.map StR.up)).co, (lookF (r.map StR.up)).e) := by unfold scriptF; rw [if_neg hlong, hp]; simp only; rw [if_neg h]
      rw [e]
      ((repeat (first | refine wKB ?_ | refine awp_seq_k (fun K hK => ?_) | refine areg_text mixed tyok (by decide +kernel) ?_ | refine TR.pcall rfl rfl rfl rfl True.intro rfl rfl (g) ?_ | refine TR.pcall rfl rfl rfl rfl True.intro rfl rfl (g2) ?_ | refine pco rfl rfl rfl rfl rfl rfl rfl rfl (fun _ => g) ?_ | refine pco rfl rfl rfl rfl rfl rfl rfl rfl (fun _ => g2) ?_ | ((repeat ((fail_if_success (refine hK _ _ ?_)); clear hK)); refine hK _ _ ?_; clear hK))); ((first | refine qal tyok (fun b3 => ?_) | refine qbox (fun b3 => ?_) | refine qboxV (fun b3 => ?_))); (repeat (first | refine wKB ?_ | refine awp_seq_k (fun K hK => ?_) | refine areg_text mixed tyok (by decide +kernel) ?_ | refine TR.pcall rfl rfl rfl rfl True.intro rfl rfl (g) ?_ | refine TR.pcall rfl rfl rfl rfl True.intro rfl rfl (g2) ?_ | refine pco rfl rfl rfl rfl rfl rfl rfl rfl (fun _ => g) ?_ | refine pco rfl rfl rfl rfl rfl rfl rfl rfl (fun _ => g2) ?_ | ((repeat ((fail_if_success (refine hK _ _ ?_)); clear hK)); refine hK _ _ ?_; clear hK))); ((first | refine qal tyok (fun b6 => ?_) | refine qbox (fun b6 => ?_) | refine qboxV (fun b6 => ?_))); (repeat (first | refine wKB ?_ | refine awp_seq_k (fun K hK => ?_) | refine areg_text mixed tyok (by decide +kernel) ?_ | refine qal tyok (fun bx => ?_) | refine qbox (fun bx => ?_) | refine qboxV (fun bx => ?_) | refine TR.pcall rfl rfl rfl rfl True.intro rfl rfl (g) ?_ | refine TR.pcall rfl rfl rfl rfl True.intro rfl rfl (g2) ?_ | refine pco rfl rfl rfl rfl rfl rfl rfl rfl (fun _ => g) ?_ | refine pco rfl rfl rfl rfl rfl rfl rfl rfl (fun _ => g2) ?_ | ((repeat ((fail_if_success (refine hK _ _ ?_)); clear hK)); refine hK _ _ ?_; clear hK))))
      exact fnQ_ret 2 rfl (.tmp rfl (.cell rfl rfl (List.mem_of_getElem? (i := 1) rfl) rfl trivial (.tmp rfl .nil))) (Sub.tuple3 (Sub.nilsv _ _) (Sub.refl _) (Sub.refl _)) ⟨rfl, rfl⟩

end Go.Proofs.YtjinaakebjfbiaaGreatDoor
