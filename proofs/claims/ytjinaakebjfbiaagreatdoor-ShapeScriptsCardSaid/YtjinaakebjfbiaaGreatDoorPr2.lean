/-
  A line's statement.
-/
import Derived.Test.YtjinaakebjfbiaaGreatDoorPr1
namespace Go.Proofs.YtjinaakebjfbiaaGreatDoor
open Go.Ab

theorem getLastD_getD (t : TokR) (l : List TokR) : (t :: l).getD l.length default = (t :: l).getLastD tok0 := by
  rw [List.getD_eq_getElem?_getD, List.getLastD_eq_getLast?, List.getLast?_eq_getElem?]
  simp

theorem Sub.aggL {vs vs' : List AV} (h : SubL vs vs') : Sub (.agg vs) (.agg vs') := by
  intro st w c hr
  cases hr with
  | agg _ cs hl hh =>
    exact .agg vs' cs (by rw [hl, h.length]) fun j v' x hv hx => by
      obtain ⟨v, h1, h2⟩ := h.get j v' hv
      exact h2 _ _ _ (hh j v x h1 hx)

theorem kins1 (a : Int) : Sub (.slice 1 1 (chunk [.int .u8 a] 1) .full) (kinsV [a]) :=
  (Sub.view _ _ _ _).trans (Sub.els fun i hi => match i, hi with
    | 0, _ => SubL.refl _)

theorem kins2 (a b : Int) : Sub (.slice 1 2 (chunk [.int .u8 a, .int .u8 b] 1) .full) (kinsV [a, b]) :=
  (Sub.view _ _ _ _).trans (Sub.els fun i hi => match i, hi with
    | 0, _ => SubL.refl _
    | 1, _ => SubL.refl _)

theorem take_okK {b : Nat} {t : TokR} {l : List TokR} {e : Nat × Nat} {k : Int} (hk : t.k = k) : ACalls Tryz.prog 123 [.ptr b 0, .int .u8 k, .str []] [rdB b (t :: l) e]
    (fun r H' => r = .ret (.agg (tokE t)) ∧ H' = [rdB b l e]) := hk ▸ take_ok b t l e

theorem needK_ok {k : Int} {t : TokR} {r : List TokR} {e : Nat × Nat} {f : TokR → List TokR → (Nat × Nat) ⊕ StR} (hk : t.k = k) : needK k (t :: r) e f = f t r := by
  simp only [needK, if_pos hk]

theorem needK_no {k : Int} {r : List TokR} {e : Nat × Nat} {f : TokR → List TokR → (Nat × Nat) ⊕ StR} (h : ∀ t l', r = t :: l' → t.k ≠ k) : needK k r e f = .inl (atP e r) := by
  cases r with
  | nil => rfl
  | cons t r => simp only [needK, if_neg (h t r rfl), atP]

def stmtB (b : Nat) (v : List AV) : Ent := .box b 47 (.agg v)

theorem cbStmt : Callable Tryz.prog 97 := fun _ _ => by kernel_rfl
set_option maxHeartbeats 6400000 in
set_option maxRecDepth 100000 in
theorem stmt_c (t0 : TokR) (r0 : List TokR) (hlen : (t0 :: r0).length ≤ 1000000) (he : (endOf (t0 :: r0)).2 ≤ 1000000000000) :
    ACalls Tryz.prog 97 [toksV (t0 :: r0)] [] (fun r H' => match stmtF (t0 :: r0) with
      | .inr s => r = .ret (.agg (stmtE s)) ∧ H' = []
      | .inl p => r = .panic (misV p)) := by
  refine acalls_of_awp tyok cbStmt Tryz.func97 rfl rfl ?_
  have hl0 : (t0 :: r0).length = r0.length + 1 := rfl
  have hlast : (((t0 :: r0).length : Int) - 1).toNat = r0.length := by omega
  generalize hL : (t0 :: r0).getLastD tok0 = L at he
  have hX : (t0 :: r0).getD (((t0 :: r0).length : Int) - 1).toNat default = L := by rw [hlast, getLastD_getD, hL]
  have hE : endOf (t0 :: r0) = (L.ln, L.co + L.w.length) := by unfold endOf; rw [hL]
  rw [hE] at he
  refine awp_seq_k (fun K hK => ?_)
  refine awp_region tyok ?_
  ((repeat (first | refine wTB ?_)); ((first | refine qal tyok (fun b2 => ?_) | refine qbox (fun b2 => ?_) | refine qboxV (fun b2 => ?_))); (repeat (first | refine wTB ?_ | refine qal tyok (fun bx => ?_) | refine qbox (fun bx => ?_) | refine qboxV (fun bx => ?_))))
  refine thenQ_normal (hK _ _ ?_)
  refine awp_seq_k (fun K hK => ?_)
  refine awp_region tyok ?_
  ((repeat (first | refine wTB ?_)); ((first | refine qal tyok (fun b3 => ?_) | refine qbox (fun b3 => ?_) | refine qboxV (fun b3 => ?_))); (repeat (first | refine wTB ?_ | refine qal tyok (fun bx => ?_) | refine qbox (fun bx => ?_) | refine qboxV (fun bx => ?_))))
  refine thenQ_normal (hK _ _ ?_)
  refine awp_boxSub [] (v' := .agg (tokE L)) (Sub.of_eq (by rw [← hX]; rfl)) ?_
  ((repeat (first | refine wKB ?_ | refine awp_seq_k (fun K hK => ?_) | ((repeat ((fail_if_success (refine hK _ _ ?_)); clear hK)); refine hK _ _ ?_; clear hK))); ((first | refine qal tyok (fun b4 => ?_) | refine qbox (fun b4 => ?_) | refine qboxV (fun b4 => ?_))); (repeat (first | refine wKB ?_ | refine awp_seq_k (fun K hK => ?_) | refine qal tyok (fun bx => ?_) | refine qbox (fun bx => ?_) | refine qboxV (fun bx => ?_) | ((repeat ((fail_if_success (refine hK _ _ ?_)); clear hK)); refine hK _ _ ?_; clear hK))))
  refine areg_kept mixed tyok [(9, [47]), (11, [47])] [0, 1, 2, 3, 4, 5, 6, 7, 8, 9, 10, 11] (by decide +kernel) ?_
  repeat (first | refine wKB ?_ | refine awp_seq_k (fun K hK => ?_) | refine areg_text mixed tyok (by decide +kernel) ?_ | refine qal tyok (fun bx => ?_) | refine qbox (fun bx => ?_) | refine qboxV (fun bx => ?_) | ((repeat ((fail_if_success (refine hK _ _ ?_)); clear hK)); refine hK _ _ ?_; clear hK))
  refine awp_boxSub [] (v' := rdV (t0 :: r0) (L.ln, L.co + L.w.length)) (Sub.of_eq rfl) ?_
  refine awp_boxSub [_, _] (v' := .agg (stmtE ⟨0, tok0, tok0, [], (t0.ln, t0.co), (L.ln, L.co + L.w.length)⟩)) (Sub.aggL (by
    repeat (first | exact SubL.nil | refine SubL.cons (by first | exact Sub.refl _ | exact Sub.nilsv _ _) ?_))) ?_
  generalize hS : stmtF (t0 :: r0) = X
  refine awp_cond rfl (fun hb => ?_) (fun hb => ?_)
  · have hk : t0.k = 1 := by simpa using hb
    have hM : stmtF (t0 :: r0) = needK 4 r0 (L.ln, L.co + L.w.length) fun _ r1 => needK 2 r1 (L.ln, L.co + L.w.length) fun t2 r2 => allK [1, 3] r2 ⟨4, t0, t2, r2, (t0.ln, t0.co), (L.ln, L.co + L.w.length)⟩ := by
      simp only [stmtF, if_pos hk, hE]
    repeat (first | refine wK ?_ | refine awp_seq_k (fun K hK => ?_) | refine areg_text mixed tyok (by decide +kernel) ?_ | refine qal tyok (fun bx => ?_) | refine qbox (fun bx => ?_) | refine qboxV (fun bx => ?_) | ((repeat ((fail_if_success (refine hK _ _ ?_)); clear hK)); refine hK _ _ ?_; clear hK))
    refine qcallR (take_okK hk) ?_
    (((repeat (first | refine wT ?_ | refine qal tyok (fun bx => ?_) | refine qbox (fun bx => ?_) | refine qboxV (fun bx => ?_)))); repeat (first | (with_reducible refine pQ_normal ?_) | (with_reducible refine thenQ_normal ?_) | (with_reducible refine blockQ_normal ?_) | (with_reducible refine thenQ_exit ?_) | (with_reducible refine blockQ_hit ?_) | refine blockQ_miss rfl ?_ | (with_reducible refine thenQ_ret ?_) | (with_reducible refine blockQ_ret ?_) | (with_reducible refine pQ_panic ?_) | (with_reducible refine thenQ_panic ?_) | (with_reducible refine blockQ_panic ?_)); ((repeat ((fail_if_success (refine hK _ _ ?_)); clear hK)); refine hK _ _ ?_; clear hK))
    refine awp_boxSub [_, _] (v' := .agg (stmtE ⟨4, t0, tok0, [], (t0.ln, t0.co), (L.ln, L.co + L.w.length)⟩)) (Sub.of_eq rfl) ?_
    repeat (first | refine wK ?_ | refine awp_seq_k (fun K hK => ?_) | refine areg_text mixed tyok (by decide +kernel) ?_ | refine qal tyok (fun bx => ?_) | refine qbox (fun bx => ?_) | refine qboxV (fun bx => ?_) | ((repeat ((fail_if_success (refine hK _ _ ?_)); clear hK)); refine hK _ _ ?_; clear hK))
    by_cases hqt1 : ∃ t1 r1, r0 = t1 :: r1 ∧ t1.k = 4
    rotate_left
    · have hn : ∀ t l', r0 = t :: l' → t.k ≠ 4 := fun t l' e1 e2 => hqt1 ⟨t, l', e1, e2⟩
      have hF : X = .inl (atP (L.ln, L.co + L.w.length) r0) := by rw [← hS, hM]; exact needK_no hn
      refine qcallP (take_no b4 4 r0 (L.ln, L.co + L.w.length) hn) fun H' => ?_
      repeat (first | refine wK ?_ | refine awp_seq_k (fun K hK => ?_) | refine areg_text mixed tyok (by decide +kernel) ?_ | refine qal tyok (fun bx => ?_) | refine qbox (fun bx => ?_) | refine qboxV (fun bx => ?_) | ((repeat ((fail_if_success (refine hK _ _ ?_)); clear hK)); refine hK _ _ ?_; clear hK))
      exact ⟨0, by first | (rw [hF]; done) | (rw [hS, hF]; done) | (rw [hF]; exact rfl) | (rw [hS, hF]; exact rfl)⟩
    obtain ⟨t1, r1, rfl, hkt1⟩ := hqt1
    refine qcallR (take_okK hkt1) ?_
    repeat (first | refine wK ?_ | refine awp_seq_k (fun K hK => ?_) | refine areg_text mixed tyok (by decide +kernel) ?_ | refine qal tyok (fun bx => ?_) | refine qbox (fun bx => ?_) | refine qboxV (fun bx => ?_) | ((repeat ((fail_if_success (refine hK _ _ ?_)); clear hK)); refine hK _ _ ?_; clear hK))
    by_cases hqt2 : ∃ t2 r2, r1 = t2 :: r2 ∧ t2.k = 2
    rotate_left
    · have hn : ∀ t l', r1 = t :: l' → t.k ≠ 2 := fun t l' e1 e2 => hqt2 ⟨t, l', e1, e2⟩
      have hF : X = .inl (atP (L.ln, L.co + L.w.length) r1) := by rw [← hS, hM, needK_ok hkt1]; exact needK_no hn
      refine qcallP (take_no b4 2 r1 (L.ln, L.co + L.w.length) hn) fun H' => ?_
      repeat (first | refine wK ?_ | refine awp_seq_k (fun K hK => ?_) | refine areg_text mixed tyok (by decide +kernel) ?_ | refine qal tyok (fun bx => ?_) | refine qbox (fun bx => ?_) | refine qboxV (fun bx => ?_) | ((repeat ((fail_if_success (refine hK _ _ ?_)); clear hK)); refine hK _ _ ?_; clear hK))
      exact ⟨0, by first | (rw [hF]; done) | (rw [hS, hF]; done) | (rw [hF]; exact rfl) | (rw [hS, hF]; exact rfl)⟩
    obtain ⟨t2, r2, rfl, hkt2⟩ := hqt2
    refine qcallR (take_okK hkt2) ?_
    (((repeat (first | refine wT ?_ | refine qal tyok (fun bx => ?_) | refine qbox (fun bx => ?_) | refine qboxV (fun bx => ?_)))); repeat (first | (with_reducible refine pQ_normal ?_) | (with_reducible refine thenQ_normal ?_) | (with_reducible refine blockQ_normal ?_) | (with_reducible refine thenQ_exit ?_) | (with_reducible refine blockQ_hit ?_) | refine blockQ_miss rfl ?_ | (with_reducible refine thenQ_ret ?_) | (with_reducible refine blockQ_ret ?_) | (with_reducible refine pQ_panic ?_) | (with_reducible refine thenQ_panic ?_) | (with_reducible refine blockQ_panic ?_)); ((repeat ((fail_if_success (refine hK _ _ ?_)); clear hK)); refine hK _ _ ?_; clear hK))
    refine awp_boxSub [_, _] (v' := .agg (stmtE ⟨4, t0, t2, [], (t0.ln, t0.co), (L.ln, L.co + L.w.length)⟩)) (Sub.of_eq rfl) ?_
    repeat (first | refine wK ?_ | refine awp_seq_k (fun K hK => ?_) | refine areg_text mixed tyok (by decide +kernel) ?_ | refine qal tyok (fun bx => ?_) | refine qbox (fun bx => ?_) | refine qboxV (fun bx => ?_) | ((repeat ((fail_if_success (refine hK _ _ ?_)); clear hK)); refine hK _ _ ?_; clear hK))
    cases ho : oddT [1, 3] r2 with
    | some t =>
      have hF : X = .inl (t.ln, t.co) := by rw [← hS, hM, needK_ok hkt1, needK_ok hkt2]; simp only [allK, ho]
      refine TR.hcall (Hc := [_]) rfl rfl rfl True.intro rfl rfl (List.Perm.refl _) (ACalls.sub (rest_c b4 r2 (L.ln, L.co + L.w.length) [1, 3] (by decide) (by simp at hlen; omega)) (.cons (Sub.refl _) (.cons (kins2 1 3) .nil))) (fun v H' hK => ?_) (fun v H' hK => ?_)
      · rw [ho] at hK
        cases hK
      · rw [ho] at hK
        cases hK
        repeat (first | refine wK ?_ | refine awp_seq_k (fun K hK => ?_) | refine areg_text mixed tyok (by decide +kernel) ?_ | refine qal tyok (fun bx => ?_) | refine qbox (fun bx => ?_) | refine qboxV (fun bx => ?_) | ((repeat ((fail_if_success (refine hK _ _ ?_)); clear hK)); refine hK _ _ ?_; clear hK))
        exact ⟨0, by first | (rw [hF]; done) | (rw [hS, hF]; done) | (rw [hF]; exact rfl) | (rw [hS, hF]; exact rfl)⟩
    | none =>
      have hF : X = .inr ⟨4, t0, t2, r2, (t0.ln, t0.co), (L.ln, L.co + L.w.length)⟩ := by rw [← hS, hM, needK_ok hkt1, needK_ok hkt2]; simp only [allK, ho]
      refine TR.hcall (Hc := [_]) rfl rfl rfl True.intro rfl rfl (List.Perm.refl _) (ACalls.sub (rest_c b4 r2 (L.ln, L.co + L.w.length) [1, 3] (by decide) (by simp at hlen; omega)) (.cons (Sub.refl _) (.cons (kins2 1 3) .nil))) (fun v H' hK => ?_) (fun v H' hK => ?_)
      rotate_left
      · rw [ho] at hK
        cases hK.1
      rw [ho] at hK
      obtain ⟨e1, rfl⟩ := hK
      cases e1
      (((repeat (first | refine wT ?_ | refine qal tyok (fun bx => ?_) | refine qbox (fun bx => ?_) | refine qboxV (fun bx => ?_)))); repeat (first | (with_reducible refine pQ_normal ?_) | (with_reducible refine thenQ_normal ?_) | (with_reducible refine blockQ_normal ?_) | (with_reducible refine thenQ_exit ?_) | (with_reducible refine blockQ_hit ?_) | refine blockQ_miss rfl ?_ | (with_reducible refine thenQ_ret ?_) | (with_reducible refine blockQ_ret ?_) | (with_reducible refine pQ_panic ?_) | (with_reducible refine thenQ_panic ?_) | (with_reducible refine blockQ_panic ?_)); ((repeat ((fail_if_success (refine hK _ _ ?_)); clear hK)); refine hK _ _ ?_; clear hK))
      refine awp_boxSub [_, _] (v' := .agg (stmtE ⟨4, t0, t2, r2, (t0.ln, t0.co), (L.ln, L.co + L.w.length)⟩)) (Sub.of_eq rfl) ?_
      (refine awp_seq_k (fun K hK => ?_); refine awp_region tyok ?_; ((repeat (first | refine wT ?_ | refine qal tyok (fun bx => ?_) | refine qbox (fun bx => ?_) | refine qboxV (fun bx => ?_)))); repeat (first | (with_reducible refine pQ_normal ?_) | (with_reducible refine thenQ_normal ?_) | (with_reducible refine blockQ_normal ?_) | (with_reducible refine thenQ_exit ?_) | (with_reducible refine blockQ_hit ?_) | refine blockQ_miss rfl ?_ | (with_reducible refine thenQ_ret ?_) | (with_reducible refine blockQ_ret ?_) | (with_reducible refine pQ_panic ?_) | (with_reducible refine thenQ_panic ?_) | (with_reducible refine blockQ_panic ?_)); ((repeat ((fail_if_success (refine hK _ _ ?_)); clear hK)); refine hK _ _ ?_; clear hK))
      refine awp_boxSub [_, _] (v' := .agg (stmtE ⟨4, t0, t2, r2, (t0.ln, t0.co), (L.ln, L.co + L.w.length)⟩)) (Sub.of_eq rfl) ?_
      repeat (first | refine wK ?_ | refine awp_seq_k (fun K hK => ?_) | refine areg_text mixed tyok (by decide +kernel) ?_ | refine qal tyok (fun bx => ?_) | refine qbox (fun bx => ?_) | refine qboxV (fun bx => ?_) | ((repeat ((fail_if_success (refine hK _ _ ?_)); clear hK)); refine hK _ _ ?_; clear hK))
      exact fnQ_ret (v := .agg (stmtE ⟨4, t0, t2, r2, (t0.ln, t0.co), (L.ln, L.co + L.w.length)⟩)) 3 rfl (.cell rfl rfl (List.Mem.tail _ (List.Mem.tail _ (List.Mem.head _))) rfl trivial .nil) (Sub.refl _) (by first | (rw [hF]; exact ⟨rfl, rfl⟩) | (rw [hS, hF]; exact ⟨rfl, rfl⟩))
  · have hk : t0.k ≠ 1 := by simpa using hb
    repeat (first | refine wK ?_ | refine awp_seq_k (fun K hK => ?_) | refine areg_text mixed tyok (by decide +kernel) ?_ | refine qal tyok (fun bx => ?_) | refine qbox (fun bx => ?_) | refine qboxV (fun bx => ?_) | ((repeat ((fail_if_success (refine hK _ _ ?_)); clear hK)); refine hK _ _ ?_; clear hK))
    by_cases hk2 : t0.k = 2
    rotate_left
    · have hF : X = .inl (t0.ln, t0.co) := by
        rw [← hS]
        simp only [stmtF, if_neg hk, if_pos (show t0.k ≠ 2 from hk2)]
      refine qcallP (take_no b4 2 (t0 :: r0) (L.ln, L.co + L.w.length) (fun t l' e1 e2 => by cases e1; exact hk2 e2)) fun H' => ?_
      repeat (first | refine wK ?_ | refine awp_seq_k (fun K hK => ?_) | refine areg_text mixed tyok (by decide +kernel) ?_ | refine qal tyok (fun bx => ?_) | refine qbox (fun bx => ?_) | refine qboxV (fun bx => ?_) | ((repeat ((fail_if_success (refine hK _ _ ?_)); clear hK)); refine hK _ _ ?_; clear hK))
      exact ⟨0, by first | (rw [hF]; done) | (rw [hS, hF]; done) | (rw [hF]; exact rfl) | (rw [hS, hF]; exact rfl)⟩
    refine qcallR (take_okK hk2) ?_
    have hM : stmtF (t0 :: r0) = if t0.w = wLimits then allK [3] r0 ⟨1, tok0, tok0, r0, (t0.ln, t0.co), (L.ln, L.co + L.w.length)⟩
        else if t0.w = wMode then needK 2 r0 (L.ln, L.co + L.w.length) fun t1 r1 => allK [] r1 ⟨2, tok0, t1, [], (t0.ln, t0.co), (L.ln, L.co + L.w.length)⟩
        else if t0.w = wPoint then allK [1] r0 ⟨3, tok0, tok0, r0, (t0.ln, t0.co), (L.ln, L.co + L.w.length)⟩
        else if t0.w = wShow then needK 2 r0 (L.ln, L.co + L.w.length) fun t1 r1 => allK [1, 3] r1 ⟨5, tok0, t1, r1, (t0.ln, t0.co), (L.ln, L.co + L.w.length)⟩
        else .inl (t0.ln, t0.co) := by
      simp only [stmtF, if_neg hk, if_neg (show ¬ t0.k ≠ 2 from fun h => h hk2), hE]
    repeat (first | refine wK ?_ | refine awp_seq_k (fun K hK => ?_) | refine areg_text mixed tyok (by decide +kernel) ?_ | refine qal tyok (fun bx => ?_) | refine qbox (fun bx => ?_) | refine qboxV (fun bx => ?_) | ((repeat ((fail_if_success (refine hK _ _ ?_)); clear hK)); refine hK _ _ ?_; clear hK))
    refine awp_cond rfl (fun hb => ?_) (fun hb => ?_)
    · have hw : t0.w = wLimits := eq_of_beq hb
      rw [if_pos hw] at hM
      repeat (first | refine wK ?_ | refine awp_seq_k (fun K hK => ?_) | refine areg_text mixed tyok (by decide +kernel) ?_ | refine qal tyok (fun bx => ?_) | refine qbox (fun bx => ?_) | refine qboxV (fun bx => ?_) | ((repeat ((fail_if_success (refine hK _ _ ?_)); clear hK)); refine hK _ _ ?_; clear hK))
      cases ho : oddT [3] r0 with
      | some t =>
        have hF : X = .inl (t.ln, t.co) := by rw [← hS, hM]; simp only [allK, ho]
        refine TR.hcall (Hc := [_]) rfl rfl rfl True.intro rfl rfl (List.Perm.refl _) (ACalls.sub (rest_c b4 r0 (L.ln, L.co + L.w.length) [3] (by decide) (by simp at hlen; omega)) (.cons (Sub.refl _) (.cons (kins1 3) .nil))) (fun v H' hK => ?_) (fun v H' hK => ?_)
        · rw [ho] at hK
          cases hK
        · rw [ho] at hK
          cases hK
          repeat (first | refine wK ?_ | refine awp_seq_k (fun K hK => ?_) | refine areg_text mixed tyok (by decide +kernel) ?_ | refine qal tyok (fun bx => ?_) | refine qbox (fun bx => ?_) | refine qboxV (fun bx => ?_) | ((repeat ((fail_if_success (refine hK _ _ ?_)); clear hK)); refine hK _ _ ?_; clear hK))
          exact ⟨0, by first | (rw [hF]; done) | (rw [hS, hF]; done) | (rw [hF]; exact rfl) | (rw [hS, hF]; exact rfl)⟩
      | none =>
        have hF : X = .inr ⟨1, tok0, tok0, r0, (t0.ln, t0.co), (L.ln, L.co + L.w.length)⟩ := by rw [← hS, hM]; simp only [allK, ho]
        refine TR.hcall (Hc := [_]) rfl rfl rfl True.intro rfl rfl (List.Perm.refl _) (ACalls.sub (rest_c b4 r0 (L.ln, L.co + L.w.length) [3] (by decide) (by simp at hlen; omega)) (.cons (Sub.refl _) (.cons (kins1 3) .nil))) (fun v H' hK => ?_) (fun v H' hK => ?_)
        rotate_left
        · rw [ho] at hK
          cases hK.1
        rw [ho] at hK
        obtain ⟨e1, rfl⟩ := hK
        cases e1
        (((repeat (first | refine wT ?_ | refine qal tyok (fun bx => ?_) | refine qbox (fun bx => ?_) | refine qboxV (fun bx => ?_)))); repeat (first | (with_reducible refine pQ_normal ?_) | (with_reducible refine thenQ_normal ?_) | (with_reducible refine blockQ_normal ?_) | (with_reducible refine thenQ_exit ?_) | (with_reducible refine blockQ_hit ?_) | refine blockQ_miss rfl ?_ | (with_reducible refine thenQ_ret ?_) | (with_reducible refine blockQ_ret ?_) | (with_reducible refine pQ_panic ?_) | (with_reducible refine thenQ_panic ?_) | (with_reducible refine blockQ_panic ?_)); ((repeat ((fail_if_success (refine hK _ _ ?_)); clear hK)); refine hK _ _ ?_; clear hK))
        refine awp_boxSub [_, _] (v' := .agg (stmtE ⟨1, tok0, tok0, r0, (t0.ln, t0.co), (L.ln, L.co + L.w.length)⟩)) (Sub.of_eq rfl) ?_
        (refine awp_seq_k (fun K hK => ?_); refine awp_region tyok ?_; ((repeat (first | refine wT ?_ | refine qal tyok (fun bx => ?_) | refine qbox (fun bx => ?_) | refine qboxV (fun bx => ?_)))); repeat (first | (with_reducible refine pQ_normal ?_) | (with_reducible refine thenQ_normal ?_) | (with_reducible refine blockQ_normal ?_) | (with_reducible refine thenQ_exit ?_) | (with_reducible refine blockQ_hit ?_) | refine blockQ_miss rfl ?_ | (with_reducible refine thenQ_ret ?_) | (with_reducible refine blockQ_ret ?_) | (with_reducible refine pQ_panic ?_) | (with_reducible refine thenQ_panic ?_) | (with_reducible refine blockQ_panic ?_)); ((repeat ((fail_if_success (refine hK _ _ ?_)); clear hK)); refine hK _ _ ?_; clear hK))
        refine awp_boxSub [_, _] (v' := .agg (stmtE ⟨1, tok0, tok0, r0, (t0.ln, t0.co), (L.ln, L.co + L.w.length)⟩)) (Sub.of_eq rfl) ?_
        repeat (first | refine wK ?_ | refine awp_seq_k (fun K hK => ?_) | refine areg_text mixed tyok (by decide +kernel) ?_ | refine qal tyok (fun bx => ?_) | refine qbox (fun bx => ?_) | refine qboxV (fun bx => ?_) | ((repeat ((fail_if_success (refine hK _ _ ?_)); clear hK)); refine hK _ _ ?_; clear hK))
        exact fnQ_ret (v := .agg (stmtE ⟨1, tok0, tok0, r0, (t0.ln, t0.co), (L.ln, L.co + L.w.length)⟩)) 3 rfl (.cell rfl rfl (List.Mem.tail _ (List.Mem.tail _ (List.Mem.head _))) rfl trivial .nil) (Sub.refl _) (by first | (rw [hF]; exact ⟨rfl, rfl⟩) | (rw [hS, hF]; exact ⟨rfl, rfl⟩))
    have hw : t0.w ≠ wLimits := fun h => by rw [h] at hb; exact absurd hb (by decide)
    rw [if_neg hw] at hM
    repeat (first | refine wK ?_ | refine awp_seq_k (fun K hK => ?_) | refine areg_text mixed tyok (by decide +kernel) ?_ | refine qal tyok (fun bx => ?_) | refine qbox (fun bx => ?_) | refine qboxV (fun bx => ?_) | ((repeat ((fail_if_success (refine hK _ _ ?_)); clear hK)); refine hK _ _ ?_; clear hK))
    refine awp_cond rfl (fun hb => ?_) (fun hb => ?_)
    · have hw : t0.w = wMode := eq_of_beq hb
      rw [if_pos hw] at hM
      repeat (first | refine wK ?_ | refine awp_seq_k (fun K hK => ?_) | refine areg_text mixed tyok (by decide +kernel) ?_ | refine qal tyok (fun bx => ?_) | refine qbox (fun bx => ?_) | refine qboxV (fun bx => ?_) | ((repeat ((fail_if_success (refine hK _ _ ?_)); clear hK)); refine hK _ _ ?_; clear hK))
      by_cases hqt1 : ∃ t1 r1, r0 = t1 :: r1 ∧ t1.k = 2
      rotate_left
      · have hn : ∀ t l', r0 = t :: l' → t.k ≠ 2 := fun t l' e1 e2 => hqt1 ⟨t, l', e1, e2⟩
        have hF : X = .inl (atP (L.ln, L.co + L.w.length) r0) := by rw [← hS, hM]; exact needK_no hn
        refine qcallP (take_no b4 2 r0 (L.ln, L.co + L.w.length) hn) fun H' => ?_
        repeat (first | refine wK ?_ | refine awp_seq_k (fun K hK => ?_) | refine areg_text mixed tyok (by decide +kernel) ?_ | refine qal tyok (fun bx => ?_) | refine qbox (fun bx => ?_) | refine qboxV (fun bx => ?_) | ((repeat ((fail_if_success (refine hK _ _ ?_)); clear hK)); refine hK _ _ ?_; clear hK))
        exact ⟨0, by first | (rw [hF]; done) | (rw [hS, hF]; done) | (rw [hF]; exact rfl) | (rw [hS, hF]; exact rfl)⟩
      obtain ⟨t1, r1, rfl, hkt1⟩ := hqt1
      refine qcallR (take_okK hkt1) ?_
      (((repeat (first | refine wT ?_ | refine qal tyok (fun bx => ?_) | refine qbox (fun bx => ?_) | refine qboxV (fun bx => ?_)))); repeat (first | (with_reducible refine pQ_normal ?_) | (with_reducible refine thenQ_normal ?_) | (with_reducible refine blockQ_normal ?_) | (with_reducible refine thenQ_exit ?_) | (with_reducible refine blockQ_hit ?_) | refine blockQ_miss rfl ?_ | (with_reducible refine thenQ_ret ?_) | (with_reducible refine blockQ_ret ?_) | (with_reducible refine pQ_panic ?_) | (with_reducible refine thenQ_panic ?_) | (with_reducible refine blockQ_panic ?_)); ((repeat ((fail_if_success (refine hK _ _ ?_)); clear hK)); refine hK _ _ ?_; clear hK))
      refine awp_boxSub [_, _] (v' := .agg (stmtE ⟨2, tok0, t1, [], (t0.ln, t0.co), (L.ln, L.co + L.w.length)⟩)) (Sub.of_eq rfl) ?_
      repeat (first | refine wK ?_ | refine awp_seq_k (fun K hK => ?_) | refine areg_text mixed tyok (by decide +kernel) ?_ | refine qal tyok (fun bx => ?_) | refine qbox (fun bx => ?_) | refine qboxV (fun bx => ?_) | ((repeat ((fail_if_success (refine hK _ _ ?_)); clear hK)); refine hK _ _ ?_; clear hK))
      cases ho : oddT [] r1 with
      | some t =>
        have hF : X = .inl (t.ln, t.co) := by rw [← hS, hM, needK_ok hkt1]; simp only [allK, ho]
        refine TR.hcall (Hc := [_]) rfl rfl rfl True.intro rfl rfl (List.Perm.refl _) (ACalls.sub (rest_c b4 r1 (L.ln, L.co + L.w.length) [] (by decide) (by simp at hlen; omega)) (.cons (Sub.refl _) (.cons (Sub.nilsv _ _) .nil))) (fun v H' hK => ?_) (fun v H' hK => ?_)
        · rw [ho] at hK
          cases hK
        · rw [ho] at hK
          cases hK
          repeat (first | refine wK ?_ | refine awp_seq_k (fun K hK => ?_) | refine areg_text mixed tyok (by decide +kernel) ?_ | refine qal tyok (fun bx => ?_) | refine qbox (fun bx => ?_) | refine qboxV (fun bx => ?_) | ((repeat ((fail_if_success (refine hK _ _ ?_)); clear hK)); refine hK _ _ ?_; clear hK))
          exact ⟨0, by first | (rw [hF]; done) | (rw [hS, hF]; done) | (rw [hF]; exact rfl) | (rw [hS, hF]; exact rfl)⟩
      | none =>
        have hF : X = .inr ⟨2, tok0, t1, [], (t0.ln, t0.co), (L.ln, L.co + L.w.length)⟩ := by rw [← hS, hM, needK_ok hkt1]; simp only [allK, ho]
        refine TR.hcall (Hc := [_]) rfl rfl rfl True.intro rfl rfl (List.Perm.refl _) (ACalls.sub (rest_c b4 r1 (L.ln, L.co + L.w.length) [] (by decide) (by simp at hlen; omega)) (.cons (Sub.refl _) (.cons (Sub.nilsv _ _) .nil))) (fun v H' hK => ?_) (fun v H' hK => ?_)
        rotate_left
        · rw [ho] at hK
          cases hK.1
        rw [ho] at hK
        obtain ⟨e1, rfl⟩ := hK
        cases e1
        (((repeat (first | refine wT ?_ | refine qal tyok (fun bx => ?_) | refine qbox (fun bx => ?_) | refine qboxV (fun bx => ?_)))); repeat (first | (with_reducible refine pQ_normal ?_) | (with_reducible refine thenQ_normal ?_) | (with_reducible refine blockQ_normal ?_) | (with_reducible refine thenQ_exit ?_) | (with_reducible refine blockQ_hit ?_) | refine blockQ_miss rfl ?_ | (with_reducible refine thenQ_ret ?_) | (with_reducible refine blockQ_ret ?_) | (with_reducible refine pQ_panic ?_) | (with_reducible refine thenQ_panic ?_) | (with_reducible refine blockQ_panic ?_)); ((repeat ((fail_if_success (refine hK _ _ ?_)); clear hK)); refine hK _ _ ?_; clear hK))
        refine awp_boxSub [_, _] (v' := .agg (stmtE ⟨2, tok0, t1, [], (t0.ln, t0.co), (L.ln, L.co + L.w.length)⟩)) (Sub.of_eq rfl) ?_
        (refine awp_seq_k (fun K hK => ?_); refine awp_region tyok ?_; ((repeat (first | refine wT ?_ | refine qal tyok (fun bx => ?_) | refine qbox (fun bx => ?_) | refine qboxV (fun bx => ?_)))); repeat (first | (with_reducible refine pQ_normal ?_) | (with_reducible refine thenQ_normal ?_) | (with_reducible refine blockQ_normal ?_) | (with_reducible refine thenQ_exit ?_) | (with_reducible refine blockQ_hit ?_) | refine blockQ_miss rfl ?_ | (with_reducible refine thenQ_ret ?_) | (with_reducible refine blockQ_ret ?_) | (with_reducible refine pQ_panic ?_) | (with_reducible refine thenQ_panic ?_) | (with_reducible refine blockQ_panic ?_)); ((repeat ((fail_if_success (refine hK _ _ ?_)); clear hK)); refine hK _ _ ?_; clear hK))
        refine awp_boxSub [_, _] (v' := .agg (stmtE ⟨2, tok0, t1, [], (t0.ln, t0.co), (L.ln, L.co + L.w.length)⟩)) (Sub.of_eq rfl) ?_
        repeat (first | refine wK ?_ | refine awp_seq_k (fun K hK => ?_) | refine areg_text mixed tyok (by decide +kernel) ?_ | refine qal tyok (fun bx => ?_) | refine qbox (fun bx => ?_) | refine qboxV (fun bx => ?_) | ((repeat ((fail_if_success (refine hK _ _ ?_)); clear hK)); refine hK _ _ ?_; clear hK))
        exact fnQ_ret (v := .agg (stmtE ⟨2, tok0, t1, [], (t0.ln, t0.co), (L.ln, L.co + L.w.length)⟩)) 3 rfl (.cell rfl rfl (List.Mem.tail _ (List.Mem.tail _ (List.Mem.head _))) rfl trivial .nil) (Sub.refl _) (by first | (rw [hF]; exact ⟨rfl, rfl⟩) | (rw [hS, hF]; exact ⟨rfl, rfl⟩))
    have hw : t0.w ≠ wMode := fun h => by rw [h] at hb; exact absurd hb (by decide)
    rw [if_neg hw] at hM
    repeat (first | refine wK ?_ | refine awp_seq_k (fun K hK => ?_) | refine areg_text mixed tyok (by decide +kernel) ?_ | refine qal tyok (fun bx => ?_) | refine qbox (fun bx => ?_) | refine qboxV (fun bx => ?_) | ((repeat ((fail_if_success (refine hK _ _ ?_)); clear hK)); refine hK _ _ ?_; clear hK))
    refine awp_cond rfl (fun hb => ?_) (fun hb => ?_)
    · have hw : t0.w = wPoint := eq_of_beq hb
      rw [if_pos hw] at hM
      repeat (first | refine wK ?_ | refine awp_seq_k (fun K hK => ?_) | refine areg_text mixed tyok (by decide +kernel) ?_ | refine qal tyok (fun bx => ?_) | refine qbox (fun bx => ?_) | refine qboxV (fun bx => ?_) | ((repeat ((fail_if_success (refine hK _ _ ?_)); clear hK)); refine hK _ _ ?_; clear hK))
      cases ho : oddT [1] r0 with
      | some t =>
        have hF : X = .inl (t.ln, t.co) := by rw [← hS, hM]; simp only [allK, ho]
        refine TR.hcall (Hc := [_]) rfl rfl rfl True.intro rfl rfl (List.Perm.refl _) (ACalls.sub (rest_c b4 r0 (L.ln, L.co + L.w.length) [1] (by decide) (by simp at hlen; omega)) (.cons (Sub.refl _) (.cons (kins1 1) .nil))) (fun v H' hK => ?_) (fun v H' hK => ?_)
        · rw [ho] at hK
          cases hK
        · rw [ho] at hK
          cases hK
          repeat (first | refine wK ?_ | refine awp_seq_k (fun K hK => ?_) | refine areg_text mixed tyok (by decide +kernel) ?_ | refine qal tyok (fun bx => ?_) | refine qbox (fun bx => ?_) | refine qboxV (fun bx => ?_) | ((repeat ((fail_if_success (refine hK _ _ ?_)); clear hK)); refine hK _ _ ?_; clear hK))
          exact ⟨0, by first | (rw [hF]; done) | (rw [hS, hF]; done) | (rw [hF]; exact rfl) | (rw [hS, hF]; exact rfl)⟩
      | none =>
        have hF : X = .inr ⟨3, tok0, tok0, r0, (t0.ln, t0.co), (L.ln, L.co + L.w.length)⟩ := by rw [← hS, hM]; simp only [allK, ho]
        refine TR.hcall (Hc := [_]) rfl rfl rfl True.intro rfl rfl (List.Perm.refl _) (ACalls.sub (rest_c b4 r0 (L.ln, L.co + L.w.length) [1] (by decide) (by simp at hlen; omega)) (.cons (Sub.refl _) (.cons (kins1 1) .nil))) (fun v H' hK => ?_) (fun v H' hK => ?_)
        rotate_left
        · rw [ho] at hK
          cases hK.1
        rw [ho] at hK
        obtain ⟨e1, rfl⟩ := hK
        cases e1
        (((repeat (first | refine wT ?_ | refine qal tyok (fun bx => ?_) | refine qbox (fun bx => ?_) | refine qboxV (fun bx => ?_)))); repeat (first | (with_reducible refine pQ_normal ?_) | (with_reducible refine thenQ_normal ?_) | (with_reducible refine blockQ_normal ?_) | (with_reducible refine thenQ_exit ?_) | (with_reducible refine blockQ_hit ?_) | refine blockQ_miss rfl ?_ | (with_reducible refine thenQ_ret ?_) | (with_reducible refine blockQ_ret ?_) | (with_reducible refine pQ_panic ?_) | (with_reducible refine thenQ_panic ?_) | (with_reducible refine blockQ_panic ?_)); ((repeat ((fail_if_success (refine hK _ _ ?_)); clear hK)); refine hK _ _ ?_; clear hK))
        refine awp_boxSub [_, _] (v' := .agg (stmtE ⟨3, tok0, tok0, r0, (t0.ln, t0.co), (L.ln, L.co + L.w.length)⟩)) (Sub.of_eq rfl) ?_
        (refine awp_seq_k (fun K hK => ?_); refine awp_region tyok ?_; ((repeat (first | refine wT ?_ | refine qal tyok (fun bx => ?_) | refine qbox (fun bx => ?_) | refine qboxV (fun bx => ?_)))); repeat (first | (with_reducible refine pQ_normal ?_) | (with_reducible refine thenQ_normal ?_) | (with_reducible refine blockQ_normal ?_) | (with_reducible refine thenQ_exit ?_) | (with_reducible refine blockQ_hit ?_) | refine blockQ_miss rfl ?_ | (with_reducible refine thenQ_ret ?_) | (with_reducible refine blockQ_ret ?_) | (with_reducible refine pQ_panic ?_) | (with_reducible refine thenQ_panic ?_) | (with_reducible refine blockQ_panic ?_)); ((repeat ((fail_if_success (refine hK _ _ ?_)); clear hK)); refine hK _ _ ?_; clear hK))
        refine awp_boxSub [_, _] (v' := .agg (stmtE ⟨3, tok0, tok0, r0, (t0.ln, t0.co), (L.ln, L.co + L.w.length)⟩)) (Sub.of_eq rfl) ?_
        repeat (first | refine wK ?_ | refine awp_seq_k (fun K hK => ?_) | refine areg_text mixed tyok (by decide +kernel) ?_ | refine qal tyok (fun bx => ?_) | refine qbox (fun bx => ?_) | refine qboxV (fun bx => ?_) | ((repeat ((fail_if_success (refine hK _ _ ?_)); clear hK)); refine hK _ _ ?_; clear hK))
        exact fnQ_ret (v := .agg (stmtE ⟨3, tok0, tok0, r0, (t0.ln, t0.co), (L.ln, L.co + L.w.length)⟩)) 3 rfl (.cell rfl rfl (List.Mem.tail _ (List.Mem.tail _ (List.Mem.head _))) rfl trivial .nil) (Sub.refl _) (by first | (rw [hF]; exact ⟨rfl, rfl⟩) | (rw [hS, hF]; exact ⟨rfl, rfl⟩))
    have hw : t0.w ≠ wPoint := fun h => by rw [h] at hb; exact absurd hb (by decide)
    rw [if_neg hw] at hM
    repeat (first | refine wK ?_ | refine awp_seq_k (fun K hK => ?_) | refine areg_text mixed tyok (by decide +kernel) ?_ | refine qal tyok (fun bx => ?_) | refine qbox (fun bx => ?_) | refine qboxV (fun bx => ?_) | ((repeat ((fail_if_success (refine hK _ _ ?_)); clear hK)); refine hK _ _ ?_; clear hK))
    refine awp_cond rfl (fun hb => ?_) (fun hb => ?_)
    · have hw : t0.w = wShow := eq_of_beq hb
      rw [if_pos hw] at hM
      repeat (first | refine wK ?_ | refine awp_seq_k (fun K hK => ?_) | refine areg_text mixed tyok (by decide +kernel) ?_ | refine qal tyok (fun bx => ?_) | refine qbox (fun bx => ?_) | refine qboxV (fun bx => ?_) | ((repeat ((fail_if_success (refine hK _ _ ?_)); clear hK)); refine hK _ _ ?_; clear hK))
      by_cases hqt1 : ∃ t1 r1, r0 = t1 :: r1 ∧ t1.k = 2
      rotate_left
      · have hn : ∀ t l', r0 = t :: l' → t.k ≠ 2 := fun t l' e1 e2 => hqt1 ⟨t, l', e1, e2⟩
        have hF : X = .inl (atP (L.ln, L.co + L.w.length) r0) := by rw [← hS, hM]; exact needK_no hn
        refine qcallP (take_no b4 2 r0 (L.ln, L.co + L.w.length) hn) fun H' => ?_
        repeat (first | refine wK ?_ | refine awp_seq_k (fun K hK => ?_) | refine areg_text mixed tyok (by decide +kernel) ?_ | refine qal tyok (fun bx => ?_) | refine qbox (fun bx => ?_) | refine qboxV (fun bx => ?_) | ((repeat ((fail_if_success (refine hK _ _ ?_)); clear hK)); refine hK _ _ ?_; clear hK))
        exact ⟨0, by first | (rw [hF]; done) | (rw [hS, hF]; done) | (rw [hF]; exact rfl) | (rw [hS, hF]; exact rfl)⟩
      obtain ⟨t1, r1, rfl, hkt1⟩ := hqt1
      refine qcallR (take_okK hkt1) ?_
      (((repeat (first | refine wT ?_ | refine qal tyok (fun bx => ?_) | refine qbox (fun bx => ?_) | refine qboxV (fun bx => ?_)))); repeat (first | (with_reducible refine pQ_normal ?_) | (with_reducible refine thenQ_normal ?_) | (with_reducible refine blockQ_normal ?_) | (with_reducible refine thenQ_exit ?_) | (with_reducible refine blockQ_hit ?_) | refine blockQ_miss rfl ?_ | (with_reducible refine thenQ_ret ?_) | (with_reducible refine blockQ_ret ?_) | (with_reducible refine pQ_panic ?_) | (with_reducible refine thenQ_panic ?_) | (with_reducible refine blockQ_panic ?_)); ((repeat ((fail_if_success (refine hK _ _ ?_)); clear hK)); refine hK _ _ ?_; clear hK))
      refine awp_boxSub [_, _] (v' := .agg (stmtE ⟨5, tok0, t1, [], (t0.ln, t0.co), (L.ln, L.co + L.w.length)⟩)) (Sub.of_eq rfl) ?_
      repeat (first | refine wK ?_ | refine awp_seq_k (fun K hK => ?_) | refine areg_text mixed tyok (by decide +kernel) ?_ | refine qal tyok (fun bx => ?_) | refine qbox (fun bx => ?_) | refine qboxV (fun bx => ?_) | ((repeat ((fail_if_success (refine hK _ _ ?_)); clear hK)); refine hK _ _ ?_; clear hK))
      cases ho : oddT [1, 3] r1 with
      | some t =>
        have hF : X = .inl (t.ln, t.co) := by rw [← hS, hM, needK_ok hkt1]; simp only [allK, ho]
        refine TR.hcall (Hc := [_]) rfl rfl rfl True.intro rfl rfl (List.Perm.refl _) (ACalls.sub (rest_c b4 r1 (L.ln, L.co + L.w.length) [1, 3] (by decide) (by simp at hlen; omega)) (.cons (Sub.refl _) (.cons (kins2 1 3) .nil))) (fun v H' hK => ?_) (fun v H' hK => ?_)
        · rw [ho] at hK
          cases hK
        · rw [ho] at hK
          cases hK
          repeat (first | refine wK ?_ | refine awp_seq_k (fun K hK => ?_) | refine areg_text mixed tyok (by decide +kernel) ?_ | refine qal tyok (fun bx => ?_) | refine qbox (fun bx => ?_) | refine qboxV (fun bx => ?_) | ((repeat ((fail_if_success (refine hK _ _ ?_)); clear hK)); refine hK _ _ ?_; clear hK))
          exact ⟨0, by first | (rw [hF]; done) | (rw [hS, hF]; done) | (rw [hF]; exact rfl) | (rw [hS, hF]; exact rfl)⟩
      | none =>
        have hF : X = .inr ⟨5, tok0, t1, r1, (t0.ln, t0.co), (L.ln, L.co + L.w.length)⟩ := by rw [← hS, hM, needK_ok hkt1]; simp only [allK, ho]
        refine TR.hcall (Hc := [_]) rfl rfl rfl True.intro rfl rfl (List.Perm.refl _) (ACalls.sub (rest_c b4 r1 (L.ln, L.co + L.w.length) [1, 3] (by decide) (by simp at hlen; omega)) (.cons (Sub.refl _) (.cons (kins2 1 3) .nil))) (fun v H' hK => ?_) (fun v H' hK => ?_)
        rotate_left
        · rw [ho] at hK
          cases hK.1
        rw [ho] at hK
        obtain ⟨e1, rfl⟩ := hK
        cases e1
        (((repeat (first | refine wT ?_ | refine qal tyok (fun bx => ?_) | refine qbox (fun bx => ?_) | refine qboxV (fun bx => ?_)))); repeat (first | (with_reducible refine pQ_normal ?_) | (with_reducible refine thenQ_normal ?_) | (with_reducible refine blockQ_normal ?_) | (with_reducible refine thenQ_exit ?_) | (with_reducible refine blockQ_hit ?_) | refine blockQ_miss rfl ?_ | (with_reducible refine thenQ_ret ?_) | (with_reducible refine blockQ_ret ?_) | (with_reducible refine pQ_panic ?_) | (with_reducible refine thenQ_panic ?_) | (with_reducible refine blockQ_panic ?_)); ((repeat ((fail_if_success (refine hK _ _ ?_)); clear hK)); refine hK _ _ ?_; clear hK))
        refine awp_boxSub [_, _] (v' := .agg (stmtE ⟨5, tok0, t1, r1, (t0.ln, t0.co), (L.ln, L.co + L.w.length)⟩)) (Sub.of_eq rfl) ?_
        (refine awp_seq_k (fun K hK => ?_); refine awp_region tyok ?_; ((repeat (first | refine wT ?_ | refine qal tyok (fun bx => ?_) | refine qbox (fun bx => ?_) | refine qboxV (fun bx => ?_)))); repeat (first | (with_reducible refine pQ_normal ?_) | (with_reducible refine thenQ_normal ?_) | (with_reducible refine blockQ_normal ?_) | (with_reducible refine thenQ_exit ?_) | (with_reducible refine blockQ_hit ?_) | refine blockQ_miss rfl ?_ | (with_reducible refine thenQ_ret ?_) | (with_reducible refine blockQ_ret ?_) | (with_reducible refine pQ_panic ?_) | (with_reducible refine thenQ_panic ?_) | (with_reducible refine blockQ_panic ?_)); ((repeat ((fail_if_success (refine hK _ _ ?_)); clear hK)); refine hK _ _ ?_; clear hK))
        refine awp_boxSub [_, _] (v' := .agg (stmtE ⟨5, tok0, t1, r1, (t0.ln, t0.co), (L.ln, L.co + L.w.length)⟩)) (Sub.of_eq rfl) ?_
        repeat (first | refine wK ?_ | refine awp_seq_k (fun K hK => ?_) | refine areg_text mixed tyok (by decide +kernel) ?_ | refine qal tyok (fun bx => ?_) | refine qbox (fun bx => ?_) | refine qboxV (fun bx => ?_) | ((repeat ((fail_if_success (refine hK _ _ ?_)); clear hK)); refine hK _ _ ?_; clear hK))
        exact fnQ_ret (v := .agg (stmtE ⟨5, tok0, t1, r1, (t0.ln, t0.co), (L.ln, L.co + L.w.length)⟩)) 3 rfl (.cell rfl rfl (List.Mem.tail _ (List.Mem.tail _ (List.Mem.head _))) rfl trivial .nil) (Sub.refl _) (by first | (rw [hF]; exact ⟨rfl, rfl⟩) | (rw [hS, hF]; exact ⟨rfl, rfl⟩))
    have hw : t0.w ≠ wShow := fun h => by rw [h] at hb; exact absurd hb (by decide)
    rw [if_neg hw] at hM
    have hF : X = .inl (t0.ln, t0.co) := by rw [← hS, hM]
    repeat (first | refine wK ?_ | refine awp_seq_k (fun K hK => ?_) | refine areg_text mixed tyok (by decide +kernel) ?_ | refine qal tyok (fun bx => ?_) | refine qbox (fun bx => ?_) | refine qboxV (fun bx => ?_) | ((repeat ((fail_if_success (refine hK _ _ ?_)); clear hK)); refine hK _ _ ?_; clear hK))
    refine TR.panic rfl rfl rfl True.intro rfl ?_
    repeat (first | refine wK ?_ | refine awp_seq_k (fun K hK => ?_) | refine areg_text mixed tyok (by decide +kernel) ?_ | refine qal tyok (fun bx => ?_) | refine qbox (fun bx => ?_) | refine qboxV (fun bx => ?_) | ((repeat ((fail_if_success (refine hK _ _ ?_)); clear hK)); refine hK _ _ ?_; clear hK))
    exact ⟨0, by first | (rw [hF]; done) | (rw [hS, hF]; done) | (rw [hF]; exact rfl) | (rw [hS, hF]; exact rfl)⟩

end Go.Proofs.YtjinaakebjfbiaaGreatDoor
