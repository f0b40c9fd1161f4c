/-
  The document's parser: a line's statement.
-/
import Derived.Test.YtjinaakebjfbiaaGreatDoorRp1
namespace Go.Proofs.YtjinaakebjfbiaaGreatDoor
open Go.Ab

def stmtN (s : StR) : List AV := .int .u8 s.k :: (tokE s.new ++ (tokE s.word ++ [.nils, .int .i64 s.at'.1, .int .i64 s.at'.2, .int .i64 s.en.1, .int .i64 s.en.2]))

def finI (s : StR) (n : Nat) (a b : Int) (l : List TokR) : Nat ⊕ StR :=
  match oddN a b n (l.drop n) with
  | some i => .inl i
  | none => .inr ⟨s.k, s.new, s.word, l.drop n, s.at', s.en⟩

def stmtI : List TokR → Nat ⊕ StR
  | [] => .inl 0
  | t0 :: r0 =>
    if t0.k = 1 then if kindF (t0 :: r0) 1 ≠ 4 then .inl 1 else if kindF (t0 :: r0) 2 ≠ 2 then .inl 2
      else finI ⟨4, t0, (t0 :: r0).getD 2 default, [], (t0.ln, t0.co), endOf (t0 :: r0)⟩ 3 1 3 (t0 :: r0)
    else if t0.k ≠ 2 then .inl 0
    else if t0.w = wLimits then finI ⟨1, tok0, tok0, [], (t0.ln, t0.co), endOf (t0 :: r0)⟩ 1 3 3 (t0 :: r0)
    else if t0.w = wPoint then finI ⟨3, tok0, tok0, [], (t0.ln, t0.co), endOf (t0 :: r0)⟩ 1 1 1 (t0 :: r0)
    else if t0.w = wMode ∨ t0.w = wShow then if kindF (t0 :: r0) 1 ≠ 2 then .inl 1
      else if t0.w = wShow then finI ⟨5, tok0, (t0 :: r0).getD 1 default, [], (t0.ln, t0.co), endOf (t0 :: r0)⟩ 2 1 3 (t0 :: r0)
      else finI ⟨2, tok0, (t0 :: r0).getD 1 default, [], (t0.ln, t0.co), endOf (t0 :: r0)⟩ 2 0 0 (t0 :: r0)
    else .inl 0

def stmtK : Nat ⊕ StR → ARes → Prop
  | .inl i, r => ∃ s, r = .ret (.tuple [.agg (stmtN s), .int .i64 i])
  | .inr s, r => r = .ret (.tuple [.agg (stmtE s), .int .i64 (-1)])

theorem app_sub (l : List TokR) (n : Nat) (el : Nat → List AV) (o : Go.Ab.Own) : Sub (.slice 5 (0 + (l.length - n)) (glue 0 el (fun i => tokE (l.getD (n + i) default))) o) (toksV (l.drop n)) := by
  unfold toksV sl
  refine (Sub.view _ _ _ _).trans ?_
  rw [List.length_drop, Nat.zero_add]
  refine Sub.el fun i hi => ?_
  unfold glue
  rw [if_neg (by omega), Nat.sub_zero, List.getD_eq_getElem?_getD, List.getElem?_drop]
  simp only [List.getD_eq_getElem?_getD]

theorem cbRst : Callable Tryz.prog 75 := fun _ _ => by kernel_rfl
set_option maxHeartbeats 6400000 in
set_option maxRecDepth 100000 in
theorem rstmt_c (t0 : TokR) (r0 : List TokR) (hlen : (t0 :: r0).length ≤ 1000000) (he : ∀ t ∈ t0 :: r0, t.co + t.w.length ≤ 1000000000000) :
    ACalls Tryz.prog 75 [toksV (t0 :: r0)] [] (fun r H' => stmtK (stmtI (t0 :: r0)) r ∧ H' = []) := by
  refine acalls_of_awp tyok cbRst Tryz.func75 rfl rfl ?_
  have hl0 : (t0 :: r0).length = r0.length + 1 := rfl
  have hlast : (((t0 :: r0).length : Int) - 1).toNat = r0.length := by omega
  have hne : t0 :: r0 ≠ [] := by simp
  have hX : (t0 :: r0).getD (((t0 :: r0).length : Int) - 1).toNat default = (t0 :: r0).getLastD tok0 := by rw [hlast, getLastD_getD]
  have gb := behind_c ((t0 :: r0).getLastD tok0) (he _ (getLastD_mem hne))
  rw [← hX] at gb
  have gk1 := kind_c (t0 :: r0) 1
  have gk2 := kind_c (t0 :: r0) 2
  refine awp_seq_k (fun K hK => ?_)
  refine awp_region tyok ?_
  ((repeat (first | refine wT ?_)); ((first | refine qal tyok (fun b2 => ?_) | refine qbox (fun b2 => ?_) | refine qboxV (fun b2 => ?_))); (repeat (first | refine wT ?_ | refine qal tyok (fun bx => ?_) | refine qbox (fun bx => ?_) | refine qboxV (fun bx => ?_))))
  (((repeat (first | refine wT ?_ | refine qal tyok (fun bx => ?_) | refine qbox (fun bx => ?_) | refine qboxV (fun bx => ?_)))); repeat (first | (with_reducible refine pQ_normal ?_) | (with_reducible refine thenQ_normal ?_) | (with_reducible refine blockQ_normal ?_) | (with_reducible refine thenQ_exit ?_) | (with_reducible refine blockQ_hit ?_) | refine blockQ_miss rfl ?_ | (with_reducible refine thenQ_ret ?_) | (with_reducible refine blockQ_ret ?_) | (with_reducible refine pQ_panic ?_) | (with_reducible refine thenQ_panic ?_) | (with_reducible refine blockQ_panic ?_)); ((repeat ((fail_if_success (refine hK _ _ ?_)); clear hK)); refine hK _ _ ?_; clear hK))
  refine awp_seq_k (fun K hK => ?_)
  refine areg_soft mixed tyok [10] [] [0, 1, 2, 3, 4, 5, 6, 7, 8, 9, 10, 11, 12, 13] (by decide +kernel) ?_
  ((repeat (first | refine wTB ?_ | refine TR.pcall rfl rfl rfl rfl True.intro rfl rfl (gb) ?_ | refine pco rfl rfl rfl rfl rfl rfl rfl rfl (fun _ => gb) ?_)); ((first | refine qal tyok (fun b4 => ?_) | refine qbox (fun b4 => ?_) | refine qboxV (fun b4 => ?_))); (repeat (first | refine wTB ?_ | refine qal tyok (fun bx => ?_) | refine qbox (fun bx => ?_) | refine qboxV (fun bx => ?_) | refine TR.pcall rfl rfl rfl rfl True.intro rfl rfl (gb) ?_ | refine pco rfl rfl rfl rfl rfl rfl rfl rfl (fun _ => gb) ?_)))
  (((repeat (first | refine wT ?_ | refine qal tyok (fun bx => ?_) | refine qbox (fun bx => ?_) | refine qboxV (fun bx => ?_)))); repeat (first | (with_reducible refine pQ_normal ?_) | (with_reducible refine thenQ_normal ?_) | (with_reducible refine blockQ_normal ?_) | (with_reducible refine thenQ_exit ?_) | (with_reducible refine blockQ_hit ?_) | refine blockQ_miss rfl ?_ | (with_reducible refine thenQ_ret ?_) | (with_reducible refine blockQ_ret ?_) | (with_reducible refine pQ_panic ?_) | (with_reducible refine thenQ_panic ?_) | (with_reducible refine blockQ_panic ?_)); ((repeat ((fail_if_success (refine hK _ _ ?_)); clear hK)); refine hK _ _ ?_; clear hK))
  refine awp_boxSub [] (v' := .agg (stmtN ⟨0, tok0, tok0, [], (t0.ln, t0.co), endOf (t0 :: r0)⟩)) (Sub.of_eq (by unfold endOf; rw [← hX]; rfl)) ?_
  (refine awp_seq_k (fun K hK => ?_); refine awp_region tyok ?_; ((repeat (first | refine wT ?_ | refine qal tyok (fun bx => ?_) | refine qbox (fun bx => ?_) | refine qboxV (fun bx => ?_)))); repeat (first | (with_reducible refine pQ_normal ?_) | (with_reducible refine thenQ_normal ?_) | (with_reducible refine blockQ_normal ?_) | (with_reducible refine thenQ_exit ?_) | (with_reducible refine blockQ_hit ?_) | refine blockQ_miss rfl ?_ | (with_reducible refine thenQ_ret ?_) | (with_reducible refine blockQ_ret ?_) | (with_reducible refine pQ_panic ?_) | (with_reducible refine thenQ_panic ?_) | (with_reducible refine blockQ_panic ?_)); ((repeat ((fail_if_success (refine hK _ _ ?_)); clear hK)); refine hK _ _ ?_; clear hK))
  generalize hS : stmtI (t0 :: r0) = X
  refine awp_seq_k (fun K hK => ?_)
  have hr : ∀ (s : StR) (n : Nat) (a b : Int) (T' : Tmps), n ≤ (t0 :: r0).length → X = finI s n a b (t0 :: r0) → Weak T' [(0, toksV (t0 :: r0)), (2, .ptr b2 0), (4, .ptr b4 0), (5, .int .i64 n), (6, .int .u8 a), (7, .int .u8 b)] →
      K T' [.box b4 47 (.agg (stmtN s)), .box b2 47 (.agg (stmtN ⟨0, tok0, tok0, [], (0, 0), (0, 0)⟩))] := by
    intro s n a b T' hn hF hw
    refine cutK hK ?_ T' hw
    clear hw hK
    have go := odd_c (t0 :: r0) n a b (by omega) (by omega)
    cases ho : oddN a b n ((t0 :: r0).drop n) with
    | some i =>
      have hX2 : X = .inl i := by rw [hF]; simp only [finI, ho]
      rw [ho] at go
      repeat (first | refine wKB ?_ | refine awp_seq_k (fun K hK => ?_) | refine areg_text mixed tyok (by decide +kernel) ?_ | refine qal tyok (fun bx => ?_) | refine qbox (fun bx => ?_) | refine qboxV (fun bx => ?_) | refine TR.pcall rfl rfl rfl rfl True.intro rfl rfl (go) ?_ | refine pco rfl rfl rfl rfl rfl rfl rfl rfl (fun _ => go) ?_ | ((repeat ((fail_if_success (refine hK _ _ ?_)); clear hK)); refine hK _ _ ?_; clear hK))
      exact fnQ_ret (v := .tuple [.agg (stmtN s), .int .i64 i]) 2 rfl (.cell rfl rfl (List.Mem.tail _ (List.Mem.head _)) rfl trivial (.tmp rfl .nil)) (Sub.refl _) ⟨by rw [hX2]; exact ⟨s, rfl⟩, rfl⟩
    | none =>
      have hX2 : X = .inr ⟨s.k, s.new, s.word, (t0 :: r0).drop n, s.at', s.en⟩ := by rw [hF]; simp only [finI, ho]
      rw [ho] at go
      repeat (first | refine wKB ?_ | refine awp_seq_k (fun K hK => ?_) | refine areg_text mixed tyok (by decide +kernel) ?_ | refine qal tyok (fun bx => ?_) | refine qbox (fun bx => ?_) | refine qboxV (fun bx => ?_) | refine TR.pcall rfl rfl rfl rfl True.intro rfl rfl (go) ?_ | refine pco rfl rfl rfl rfl rfl rfl rfl rfl (fun _ => go) ?_ | ((repeat ((fail_if_success (refine hK _ _ ?_)); clear hK)); refine hK _ _ ?_; clear hK))
      refine TR.appendF tyok (el := fun _ => []) (fun a cap => toksV ((t0 :: r0).drop n)) rfl rfl rfl rfl True.intro rfl rfl rfl rfl rfl rfl rfl rfl rfl ?_ (fun a cap => app_sub _ _ _ _) (fun a cap => ?_)
      · simp only
        omega
      ((repeat (first | refine wT ?_ | refine qal tyok (fun bx => ?_) | refine qbox (fun bx => ?_) | refine qboxV (fun bx => ?_))))
      (((repeat (first | refine wT ?_ | refine qal tyok (fun bx => ?_) | refine qbox (fun bx => ?_) | refine qboxV (fun bx => ?_)))); repeat (first | (with_reducible refine pQ_normal ?_) | (with_reducible refine thenQ_normal ?_) | (with_reducible refine blockQ_normal ?_) | (with_reducible refine thenQ_exit ?_) | (with_reducible refine blockQ_hit ?_) | refine blockQ_miss rfl ?_ | (with_reducible refine thenQ_ret ?_) | (with_reducible refine blockQ_ret ?_) | (with_reducible refine pQ_panic ?_) | (with_reducible refine thenQ_panic ?_) | (with_reducible refine blockQ_panic ?_)); ((repeat ((fail_if_success (refine hK _ _ ?_)); clear hK)); refine hK _ _ ?_; clear hK))
      refine awp_boxSub [_] (v' := .agg (stmtE ⟨s.k, s.new, s.word, (t0 :: r0).drop n, s.at', s.en⟩)) (Sub.of_eq rfl) ?_
      repeat (first | refine wK ?_ | refine awp_seq_k (fun K hK => ?_) | refine areg_text mixed tyok (by decide +kernel) ?_ | refine qal tyok (fun bx => ?_) | refine qbox (fun bx => ?_) | refine qboxV (fun bx => ?_) | ((repeat ((fail_if_success (refine hK _ _ ?_)); clear hK)); refine hK _ _ ?_; clear hK))
      exact fnQ_ret (v := .tuple [.agg (stmtE ⟨s.k, s.new, s.word, (t0 :: r0).drop n, s.at', s.en⟩), .int .i64 (-1)]) 3 rfl (.cell rfl rfl (List.Mem.tail _ (List.Mem.tail _ (List.Mem.head _))) rfl trivial (.tmp rfl .nil)) (Sub.refl _) ⟨by rw [hX2]; rfl, rfl⟩
  clear hK
  have hk1 : ∀ {k : Int}, k ≠ 0 → kindF (t0 :: r0) 1 = k → 1 < (t0 :: r0).length := fun {k} h e => by
    unfold kindF at e
    split at e
    · assumption
    · exact absurd e.symm h
  have hk2 : ∀ {k : Int}, k ≠ 0 → kindF (t0 :: r0) 2 = k → 2 < (t0 :: r0).length := fun {k} h e => by
    unfold kindF at e
    split at e
    · assumption
    · exact absurd e.symm h
  repeat (first | refine wK ?_ | refine awp_seq_k (fun K hK => ?_) | refine areg_text mixed tyok (by decide +kernel) ?_ | refine qal tyok (fun bx => ?_) | refine qbox (fun bx => ?_) | refine qboxV (fun bx => ?_) | ((repeat ((fail_if_success (refine hK _ _ ?_)); clear hK)); refine hK _ _ ?_; clear hK))
  refine awp_cond rfl (fun hb => ?_) (fun hb => ?_)
  · have hk : t0.k = 1 := by simpa using hb
    have hM : stmtI (t0 :: r0) = if kindF (t0 :: r0) 1 ≠ 4 then .inl 1 else if kindF (t0 :: r0) 2 ≠ 2 then .inl 2
      else finI ⟨4, t0, (t0 :: r0).getD 2 default, [], (t0.ln, t0.co), endOf (t0 :: r0)⟩ 3 1 3 (t0 :: r0) := by simp only [stmtI, if_pos hk]
    repeat (first | refine wK ?_ | refine awp_seq_k (fun K hK => ?_) | refine areg_text mixed tyok (by decide +kernel) ?_ | refine qal tyok (fun bx => ?_) | refine qbox (fun bx => ?_) | refine qboxV (fun bx => ?_) | refine TR.pcall rfl rfl rfl rfl True.intro rfl rfl (gk1) ?_ | refine pco rfl rfl rfl rfl rfl rfl rfl rfl (fun _ => gk1) ?_ | ((repeat ((fail_if_success (refine hK _ _ ?_)); clear hK)); refine hK _ _ ?_; clear hK))
    refine awp_cond rfl (fun hb => ?_) (fun hb => ?_)
    · rw [if_pos (by simpa using hb)] at hM
      repeat (first | refine wK ?_ | refine awp_seq_k (fun K hK => ?_) | refine areg_text mixed tyok (by decide +kernel) ?_ | refine qal tyok (fun bx => ?_) | refine qbox (fun bx => ?_) | refine qboxV (fun bx => ?_) | ((repeat ((fail_if_success (refine hK _ _ ?_)); clear hK)); refine hK _ _ ?_; clear hK))
      exact fnQ_ret (v := .tuple [.agg (stmtN ⟨0, tok0, tok0, [], (t0.ln, t0.co), endOf (t0 :: r0)⟩), .int .i64 1]) 2 rfl (.cell rfl rfl (List.Mem.tail _ (List.Mem.head _)) rfl trivial (.tmp rfl .nil)) (Sub.refl _) ⟨by rw [show X = .inl 1 by rw [← hS, hM]]; exact ⟨_, rfl⟩, rfl⟩
    have hb4 : kindF (t0 :: r0) 1 = 4 := by simpa using hb
    rw [if_neg (by simp [hb4])] at hM
    repeat (first | refine wK ?_ | refine awp_seq_k (fun K hK => ?_) | refine areg_text mixed tyok (by decide +kernel) ?_ | refine qal tyok (fun bx => ?_) | refine qbox (fun bx => ?_) | refine qboxV (fun bx => ?_) | refine TR.pcall rfl rfl rfl rfl True.intro rfl rfl (gk2) ?_ | refine pco rfl rfl rfl rfl rfl rfl rfl rfl (fun _ => gk2) ?_ | ((repeat ((fail_if_success (refine hK _ _ ?_)); clear hK)); refine hK _ _ ?_; clear hK))
    refine awp_cond rfl (fun hb => ?_) (fun hb => ?_)
    · rw [if_pos (by simpa using hb)] at hM
      repeat (first | refine wK ?_ | refine awp_seq_k (fun K hK => ?_) | refine areg_text mixed tyok (by decide +kernel) ?_ | refine qal tyok (fun bx => ?_) | refine qbox (fun bx => ?_) | refine qboxV (fun bx => ?_) | ((repeat ((fail_if_success (refine hK _ _ ?_)); clear hK)); refine hK _ _ ?_; clear hK))
      exact fnQ_ret (v := .tuple [.agg (stmtN ⟨0, tok0, tok0, [], (t0.ln, t0.co), endOf (t0 :: r0)⟩), .int .i64 2]) 2 rfl (.cell rfl rfl (List.Mem.tail _ (List.Mem.head _)) rfl trivial (.tmp rfl .nil)) (Sub.refl _) ⟨by rw [show X = .inl 2 by rw [← hS, hM]]; exact ⟨_, rfl⟩, rfl⟩
    have hb2 : kindF (t0 :: r0) 2 = 2 := by simpa using hb
    rw [if_neg (by simp [hb2])] at hM
    have hl2 := hk2 (by decide) hb2
    repeat (first | refine wK ?_ | refine awp_seq_k (fun K hK => ?_) | refine areg_text mixed tyok (by decide +kernel) ?_ | refine qal tyok (fun bx => ?_) | refine qbox (fun bx => ?_) | refine qboxV (fun bx => ?_) | ((repeat ((fail_if_success (refine hK _ _ ?_)); clear hK)); refine hK _ _ ?_; clear hK))
    exact hr ⟨4, t0, (t0 :: r0).getD 2 default, [], (t0.ln, t0.co), endOf (t0 :: r0)⟩ 3 1 3 _ hl2 (by rw [← hS, hM]) (by (repeat (first | exact True.intro | refine ⟨⟨_, rfl, Sub.refl _⟩, ?_⟩ | refine ⟨⟨_, rfl, Sub.nilso _ _⟩, ?_⟩ | refine ⟨⟨_, rfl, sl_tail _ _ _ _ _⟩, ?_⟩ | refine ⟨⟨_, rfl, Sub.of_eq (by first | rfl | (congr 1; first | omega | (simp only; omega)) | (simp; done) | (simp; omega))⟩, ?_⟩ | refine ⟨⟨_, rfl, Sub.view _ _ _ _⟩, ?_⟩)))
  · have hk : t0.k ≠ 1 := by simpa using hb
    repeat (first | refine wK ?_ | refine awp_seq_k (fun K hK => ?_) | refine areg_text mixed tyok (by decide +kernel) ?_ | refine qal tyok (fun bx => ?_) | refine qbox (fun bx => ?_) | refine qboxV (fun bx => ?_) | ((repeat ((fail_if_success (refine hK _ _ ?_)); clear hK)); refine hK _ _ ?_; clear hK))
    refine awp_cond rfl (fun hb => ?_) (fun hb => ?_)
    · have hkk : t0.k ≠ 2 := by simpa using hb
      have hM : stmtI (t0 :: r0) = .inl 0 := by simp only [stmtI, if_neg hk, if_pos hkk]
      repeat (first | refine wK ?_ | refine awp_seq_k (fun K hK => ?_) | refine areg_text mixed tyok (by decide +kernel) ?_ | refine qal tyok (fun bx => ?_) | refine qbox (fun bx => ?_) | refine qboxV (fun bx => ?_) | ((repeat ((fail_if_success (refine hK _ _ ?_)); clear hK)); refine hK _ _ ?_; clear hK))
      exact fnQ_ret (v := .tuple [.agg (stmtN ⟨0, tok0, tok0, [], (t0.ln, t0.co), endOf (t0 :: r0)⟩), .int .i64 0]) 2 rfl (.cell rfl rfl (List.Mem.tail _ (List.Mem.head _)) rfl trivial (.tmp rfl .nil)) (Sub.refl _) ⟨by rw [show X = .inl 0 by rw [← hS, hM]]; exact ⟨_, rfl⟩, rfl⟩
    have hkk : t0.k = 2 := by simpa using hb
    have hM : stmtI (t0 :: r0) = if t0.w = wLimits then finI ⟨1, tok0, tok0, [], (t0.ln, t0.co), endOf (t0 :: r0)⟩ 1 3 3 (t0 :: r0)
      else if t0.w = wPoint then finI ⟨3, tok0, tok0, [], (t0.ln, t0.co), endOf (t0 :: r0)⟩ 1 1 1 (t0 :: r0)
      else if t0.w = wMode ∨ t0.w = wShow then if kindF (t0 :: r0) 1 ≠ 2 then .inl 1
        else if t0.w = wShow then finI ⟨5, tok0, (t0 :: r0).getD 1 default, [], (t0.ln, t0.co), endOf (t0 :: r0)⟩ 2 1 3 (t0 :: r0)
        else finI ⟨2, tok0, (t0 :: r0).getD 1 default, [], (t0.ln, t0.co), endOf (t0 :: r0)⟩ 2 0 0 (t0 :: r0)
      else .inl 0 := by simp only [stmtI, if_neg hk, if_neg (show ¬ t0.k ≠ 2 from fun h => h hkk)]
    repeat (first | refine wK ?_ | refine awp_seq_k (fun K hK => ?_) | refine areg_text mixed tyok (by decide +kernel) ?_ | refine qal tyok (fun bx => ?_) | refine qbox (fun bx => ?_) | refine qboxV (fun bx => ?_) | ((repeat ((fail_if_success (refine hK _ _ ?_)); clear hK)); refine hK _ _ ?_; clear hK))
    refine awp_cond rfl (fun hb => ?_) (fun hb => ?_)
    · have hw : t0.w = wLimits := eq_of_beq hb
      rw [if_pos hw] at hM
      repeat (first | refine wK ?_ | refine awp_seq_k (fun K hK => ?_) | refine areg_text mixed tyok (by decide +kernel) ?_ | refine qal tyok (fun bx => ?_) | refine qbox (fun bx => ?_) | refine qboxV (fun bx => ?_) | ((repeat ((fail_if_success (refine hK _ _ ?_)); clear hK)); refine hK _ _ ?_; clear hK))
      exact hr ⟨1, tok0, tok0, [], (t0.ln, t0.co), endOf (t0 :: r0)⟩ 1 3 3 _ (by omega) (by rw [← hS, hM]) (by (repeat (first | exact True.intro | refine ⟨⟨_, rfl, Sub.refl _⟩, ?_⟩ | refine ⟨⟨_, rfl, Sub.nilso _ _⟩, ?_⟩ | refine ⟨⟨_, rfl, sl_tail _ _ _ _ _⟩, ?_⟩ | refine ⟨⟨_, rfl, Sub.of_eq (by first | rfl | (congr 1; first | omega | (simp only; omega)) | (simp; done) | (simp; omega))⟩, ?_⟩ | refine ⟨⟨_, rfl, Sub.view _ _ _ _⟩, ?_⟩)))
    have hw : t0.w ≠ wLimits := fun h => absurd (beq_iff_eq.2 h) (by rw [show (t0.w == wLimits) = false from hb]; decide)
    rw [if_neg hw] at hM
    repeat (first | refine wK ?_ | refine awp_seq_k (fun K hK => ?_) | refine areg_text mixed tyok (by decide +kernel) ?_ | refine qal tyok (fun bx => ?_) | refine qbox (fun bx => ?_) | refine qboxV (fun bx => ?_) | ((repeat ((fail_if_success (refine hK _ _ ?_)); clear hK)); refine hK _ _ ?_; clear hK))
    refine awp_cond rfl (fun hb2 => ?_) (fun hb2 => ?_)
    · have hw2 : t0.w = wPoint := eq_of_beq hb2
      rw [if_pos hw2] at hM
      repeat (first | refine wK ?_ | refine awp_seq_k (fun K hK => ?_) | refine areg_text mixed tyok (by decide +kernel) ?_ | refine qal tyok (fun bx => ?_) | refine qbox (fun bx => ?_) | refine qboxV (fun bx => ?_) | ((repeat ((fail_if_success (refine hK _ _ ?_)); clear hK)); refine hK _ _ ?_; clear hK))
      exact hr ⟨3, tok0, tok0, [], (t0.ln, t0.co), endOf (t0 :: r0)⟩ 1 1 1 _ (by omega) (by rw [← hS, hM]) (by (repeat (first | exact True.intro | refine ⟨⟨_, rfl, Sub.refl _⟩, ?_⟩ | refine ⟨⟨_, rfl, Sub.nilso _ _⟩, ?_⟩ | refine ⟨⟨_, rfl, sl_tail _ _ _ _ _⟩, ?_⟩ | refine ⟨⟨_, rfl, Sub.of_eq (by first | rfl | (congr 1; first | omega | (simp only; omega)) | (simp; done) | (simp; omega))⟩, ?_⟩ | refine ⟨⟨_, rfl, Sub.view _ _ _ _⟩, ?_⟩)))
    have hw2 : t0.w ≠ wPoint := fun h => absurd (beq_iff_eq.2 h) (by rw [show (t0.w == wPoint) = false from hb2]; decide)
    rw [if_neg hw2] at hM
    repeat (first | refine wK ?_ | refine awp_seq_k (fun K hK => ?_) | refine areg_text mixed tyok (by decide +kernel) ?_ | refine qal tyok (fun bx => ?_) | refine qbox (fun bx => ?_) | refine qboxV (fun bx => ?_) | ((repeat ((fail_if_success (refine hK _ _ ?_)); clear hK)); refine hK _ _ ?_; clear hK))
    refine awp_cond rfl (fun hb3 => ?_) (fun hb3 => ?_)
    · have hw3 : t0.w = wMode ∨ t0.w = wShow := by
        have : (t0.w == wMode || t0.w == wShow) = true := hb3
        simpa only [Bool.or_eq_true, beq_iff_eq] using this
      rw [if_pos hw3] at hM
      repeat (first | refine wK ?_ | refine awp_seq_k (fun K hK => ?_) | refine areg_text mixed tyok (by decide +kernel) ?_ | refine qal tyok (fun bx => ?_) | refine qbox (fun bx => ?_) | refine qboxV (fun bx => ?_) | refine TR.pcall rfl rfl rfl rfl True.intro rfl rfl (gk1) ?_ | refine pco rfl rfl rfl rfl rfl rfl rfl rfl (fun _ => gk1) ?_ | ((repeat ((fail_if_success (refine hK _ _ ?_)); clear hK)); refine hK _ _ ?_; clear hK))
      refine awp_cond rfl (fun hb => ?_) (fun hb => ?_)
      · rw [if_pos (by simpa using hb)] at hM
        repeat (first | refine wK ?_ | refine awp_seq_k (fun K hK => ?_) | refine areg_text mixed tyok (by decide +kernel) ?_ | refine qal tyok (fun bx => ?_) | refine qbox (fun bx => ?_) | refine qboxV (fun bx => ?_) | ((repeat ((fail_if_success (refine hK _ _ ?_)); clear hK)); refine hK _ _ ?_; clear hK))
        exact fnQ_ret (v := .tuple [.agg (stmtN ⟨0, tok0, tok0, [], (t0.ln, t0.co), endOf (t0 :: r0)⟩), .int .i64 1]) 2 rfl (.cell rfl rfl (List.Mem.tail _ (List.Mem.head _)) rfl trivial (.tmp rfl .nil)) (Sub.refl _) ⟨by rw [show X = .inl 1 by rw [← hS, hM]]; exact ⟨_, rfl⟩, rfl⟩
      have hb4 : kindF (t0 :: r0) 1 = 2 := by simpa using hb
      rw [if_neg (by simp [hb4])] at hM
      have hl1 := hk1 (by decide) hb4
      repeat (first | refine wK ?_ | refine awp_seq_k (fun K hK => ?_) | refine areg_text mixed tyok (by decide +kernel) ?_ | refine qal tyok (fun bx => ?_) | refine qbox (fun bx => ?_) | refine qboxV (fun bx => ?_) | ((repeat ((fail_if_success (refine hK _ _ ?_)); clear hK)); refine hK _ _ ?_; clear hK))
      refine awp_cond rfl (fun hb5 => ?_) (fun hb5 => ?_)
      · have hw5 : t0.w = wShow := eq_of_beq hb5
        rw [if_pos hw5] at hM
        repeat (first | refine wK ?_ | refine awp_seq_k (fun K hK => ?_) | refine areg_text mixed tyok (by decide +kernel) ?_ | refine qal tyok (fun bx => ?_) | refine qbox (fun bx => ?_) | refine qboxV (fun bx => ?_) | ((repeat ((fail_if_success (refine hK _ _ ?_)); clear hK)); refine hK _ _ ?_; clear hK))
        exact hr ⟨5, tok0, (t0 :: r0).getD 1 default, [], (t0.ln, t0.co), endOf (t0 :: r0)⟩ 2 1 3 _ hl1 (by rw [← hS, hM]) (by (repeat (first | exact True.intro | refine ⟨⟨_, rfl, Sub.refl _⟩, ?_⟩ | refine ⟨⟨_, rfl, Sub.nilso _ _⟩, ?_⟩ | refine ⟨⟨_, rfl, sl_tail _ _ _ _ _⟩, ?_⟩ | refine ⟨⟨_, rfl, Sub.of_eq (by first | rfl | (congr 1; first | omega | (simp only; omega)) | (simp; done) | (simp; omega))⟩, ?_⟩ | refine ⟨⟨_, rfl, Sub.view _ _ _ _⟩, ?_⟩)))
      · have hw5 : t0.w ≠ wShow := fun h => absurd (beq_iff_eq.2 h) (by rw [show (t0.w == wShow) = false from hb5]; decide)
        rw [if_neg hw5] at hM
        repeat (first | refine wK ?_ | refine awp_seq_k (fun K hK => ?_) | refine areg_text mixed tyok (by decide +kernel) ?_ | refine qal tyok (fun bx => ?_) | refine qbox (fun bx => ?_) | refine qboxV (fun bx => ?_) | ((repeat ((fail_if_success (refine hK _ _ ?_)); clear hK)); refine hK _ _ ?_; clear hK))
        exact hr ⟨2, tok0, (t0 :: r0).getD 1 default, [], (t0.ln, t0.co), endOf (t0 :: r0)⟩ 2 0 0 _ hl1 (by rw [← hS, hM]) (by (repeat (first | exact True.intro | refine ⟨⟨_, rfl, Sub.refl _⟩, ?_⟩ | refine ⟨⟨_, rfl, Sub.nilso _ _⟩, ?_⟩ | refine ⟨⟨_, rfl, sl_tail _ _ _ _ _⟩, ?_⟩ | refine ⟨⟨_, rfl, Sub.of_eq (by first | rfl | (congr 1; first | omega | (simp only; omega)) | (simp; done) | (simp; omega))⟩, ?_⟩ | refine ⟨⟨_, rfl, Sub.view _ _ _ _⟩, ?_⟩)))
    · have hw3 : ¬ (t0.w = wMode ∨ t0.w = wShow) := fun h => by
        have h1 : (t0.w == wMode || t0.w == wShow) = false := hb3
        have h2 : (t0.w == wMode || t0.w == wShow) = true := by simpa only [Bool.or_eq_true, beq_iff_eq] using h
        rw [h1] at h2
        cases h2
      rw [if_neg hw3] at hM
      repeat (first | refine wK ?_ | refine awp_seq_k (fun K hK => ?_) | refine areg_text mixed tyok (by decide +kernel) ?_ | refine qal tyok (fun bx => ?_) | refine qbox (fun bx => ?_) | refine qboxV (fun bx => ?_) | ((repeat ((fail_if_success (refine hK _ _ ?_)); clear hK)); refine hK _ _ ?_; clear hK))
      exact fnQ_ret (v := .tuple [.agg (stmtN ⟨0, tok0, tok0, [], (t0.ln, t0.co), endOf (t0 :: r0)⟩), .int .i64 0]) 2 rfl (.cell rfl rfl (List.Mem.tail _ (List.Mem.head _)) rfl trivial (.tmp rfl .nil)) (Sub.refl _) ⟨by rw [show X = .inl 0 by rw [← hS, hM]]; exact ⟨_, rfl⟩, rfl⟩

end Go.Proofs.YtjinaakebjfbiaaGreatDoor
