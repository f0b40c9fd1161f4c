/-
  The figures' reader: a product.
-/
import Derived.Test.YtjinaakebjfbiaaGreatDoorFg2
namespace Go.Proofs.YtjinaakebjfbiaaGreatDoor
open Go.Ab

theorem trim_no {s p : List UInt8} (h : Lib.hasPrefix s p = false) : Lib.trimPrefix s p = s := by
  unfold Lib.trimPrefix
  rw [h]
  rfl
theorem trim_len (s p : List UInt8) : (Lib.trimPrefix s p).length ≤ s.length := by
  unfold Lib.trimPrefix
  split
  · simp only [List.length_drop]; omega
  · exact Nat.le_refl _
theorem hasF_t {s p : List UInt8} (h : Lib.hasPrefix s p = true) : hasF p s = some (Lib.trimPrefix s p) := by unfold hasF; rw [h]
theorem hasF_f {s p : List UInt8} (h : Lib.hasPrefix s p = false) : hasF p s = none := by unfold hasF; rw [h]

theorem sign_eq (s : List UInt8) : signF s = (if Lib.hasPrefix s [45] then -1 else 1, Lib.trimPrefix s [45]) := by
  unfold signF
  cases h : Lib.hasPrefix s [45] with
  | true => rw [hasF_t h]; rfl
  | false => rw [hasF_f h, trim_no h]; rfl
theorem plus_eq (s : List UInt8) : plusF s = Lib.trimPrefix s [43] := by
  unfold plusF
  cases h : Lib.hasPrefix s [43] with
  | true => rw [hasF_t h]
  | false => rw [hasF_f h, trim_no h]
theorem by_2 {s : List UInt8} (h : Lib.hasPrefix s [50, 42] = true) : byF s = (2, 0, Lib.trimPrefix s [50, 42]) := by
  unfold byF
  rw [hasF_t h]
theorem by_m {s : List UInt8} (h : Lib.hasPrefix s [50, 42] = false) (h1 : Lib.hasPrefix s [109, 42] = true) : byF s = (1, 1, Lib.trimPrefix s [109, 42]) := by
  unfold byF
  rw [hasF_f h, hasF_t h1]
theorem by_n {s : List UInt8} (h : Lib.hasPrefix s [50, 42] = false) (h1 : Lib.hasPrefix s [109, 42] = false) (h2 : Lib.hasPrefix s [110, 42] = true) : byF s = (1, 2, Lib.trimPrefix s [110, 42]) := by
  unfold byF
  rw [hasF_f h, hasF_f h1, hasF_t h2]
theorem by_no {s : List UInt8} (h : Lib.hasPrefix s [50, 42] = false) (h1 : Lib.hasPrefix s [109, 42] = false) (h2 : Lib.hasPrefix s [110, 42] = false) : byF s = (1, 0, s) := by
  unfold byF
  rw [hasF_f h, hasF_f h1, hasF_f h2]
theorem by_len (s : List UInt8) : (byF s).2.2.length ≤ s.length := by
  cases h : Lib.hasPrefix s [50, 42] with
  | true => rw [by_2 h]; exact trim_len _ _
  | false => cases h1 : Lib.hasPrefix s [109, 42] with
    | true => rw [by_m h h1]; exact trim_len _ _
    | false => cases h2 : Lib.hasPrefix s [110, 42] with
      | true => rw [by_n h h1 h2]; exact trim_len _ _
      | false => rw [by_no h h1 h2]; exact Nat.le_refl _

theorem formF_len {base : Int} {s rest : List UInt8} {f : FormR} (h : formF base s = some (f, rest)) : rest.length ≤ s.length := by
  unfold formF at h
  have l1 := cut_len s [40]
  cases hc1 : Lib.cut s [40] with
  | mk word r1 =>
  obtain ⟨r1, ok1⟩ := r1
  rw [hc1] at h l1
  simp only at h l1
  have l2 := cut_len r1 [41]
  cases hc2 : Lib.cut r1 [41] with
  | mk inner r2 =>
  obtain ⟨behind, ok2⟩ := r2
  rw [hc2] at h l2
  simp only at h l2
  split at h
  · cases h
  · split at h
    · cases h; omega
    · cases h; omega
    · cases h

theorem facsF_len {base : Int} : ∀ {n : Nat} {s rest : List UInt8} {l : List FormR}, facsF base n s = some (l, rest) → l.length ≤ n
  | 0, s, rest, l, h => by cases h
  | n + 1, s, rest, l, h => by
    simp only [facsF] at h
    split at h
    · cases h
      exact Nat.zero_le _
    · split at h
      · cases h
      · split at h
        · cases h
        · rename_i h1
          cases h
          have := facsF_len h1
          simp only [List.length_cons]
          omega

theorem facsF_rest {base : Int} : ∀ {n : Nat} {s rest : List UInt8} {l : List FormR}, facsF base n s = some (l, rest) → rest.length ≤ s.length
  | 0, s, rest, l, h => by cases h
  | n + 1, s, rest, l, h => by
    have t := trim_len s [42]
    simp only [facsF] at h
    cases hp : Lib.hasPrefix s [42] with
    | false =>
      rw [hasF_f hp] at h
      cases h
      exact Nat.le_refl _
    | true =>
      rw [hasF_t hp] at h
      simp only at h
      split at h
      · cases h
      · rename_i h0
        have t1 := formF_len h0
        split at h
        · cases h
        · rename_i h1
          cases h
          have := facsF_rest h1
          omega

theorem cbPiece : Callable Tryz.prog 79 := fun _ _ => by kernel_rfl
set_option maxHeartbeats 3200000 in
set_option maxRecDepth 100000 in
theorem piece_c (b : Nat) (s rest : List UInt8) (base : Int) (n : Nat) (p : PieceR) (hs : s.length ≤ 1000000) (hn : n ≤ 1000) (h3 : 0 ≤ base) (h4 : base ≤ 1) (h : pieceF base n s = some (p, rest)) :
    ACalls Tryz.prog 79 [.ptr b 0] [rdrB b s base] (fun r H' => r = .ret (.agg (pieceE p)) ∧ H' = [rdrB b rest base]) := by
  refine acalls_of_awp tyok cbPiece Tryz.func79 rfl rfl ?_
  unfold rdrB
  unfold pieceF at h
  rw [sign_eq s] at h
  simp only [plus_eq] at h
  have t1 := trim_len s [45]
  have t2 := trim_len (Lib.trimPrefix s [45]) [43]
  have t3 := by_len (Lib.trimPrefix (Lib.trimPrefix s [45]) [43])
  ((repeat (first | refine wK ?_ | refine awp_seq_k (fun K hK => ?_) | refine areg_text mixed tyok (by decide +kernel) ?_ | ((repeat ((fail_if_success (refine hK _ _ ?_)); clear hK)); refine hK _ _ ?_; clear hK))); ((first | refine qal tyok (fun b2 => ?_) | refine qbox (fun b2 => ?_) | refine qboxV (fun b2 => ?_))); (repeat (first | refine wK ?_ | refine awp_seq_k (fun K hK => ?_) | refine areg_text mixed tyok (by decide +kernel) ?_ | refine qal tyok (fun bx => ?_) | refine qbox (fun bx => ?_) | refine qboxV (fun bx => ?_) | ((repeat ((fail_if_success (refine hK _ _ ?_)); clear hK)); refine hK _ _ ?_; clear hK))))
  (first | refine qcallE .here (has_c b s [45] base) ?_ | refine qcallE (.there .here) (has_c b s [45] base) ?_ | refine qcallE (.there (.there .here)) (has_c b s [45] base) ?_ | refine qcallE (.there (.there (.there .here))) (has_c b s [45] base) ?_ | refine qcallE (.there (.there (.there (.there .here)))) (has_c b s [45] base) ?_)
  repeat (first | refine wK ?_ | refine awp_seq_k (fun K hK => ?_) | refine areg_text mixed tyok (by decide +kernel) ?_ | refine qal tyok (fun bx => ?_) | refine qbox (fun bx => ?_) | refine qboxV (fun bx => ?_) | ((repeat ((fail_if_success (refine hK _ _ ?_)); clear hK)); refine hK _ _ ?_; clear hK))
  generalize hg : (if Lib.hasPrefix s [45] = true then (-1 : Int) else 1) = g at h
  generalize hs1 : Lib.trimPrefix s [45] = s1 at h t1 t2 t3 ⊢
  refine (have hr := cutKP (Wk := [(0, .ptr b 0), (2, .ptr b2 0)]) (H0 := [.box b 137 (.agg [.str s1, .int .i64 base]), .box b2 141 (.agg [.int .i64 g, .int .i64 0, .nils])]) hK ?_; ?_)
  rotate_left
  · clear hK
    refine awp_cond rfl (fun hb => ?_) (fun hb => ?_)
    · obtain rfl : g = -1 := by rw [← hg, hb]; rfl
      repeat (first | refine wK ?_ | refine awp_seq_k (fun K hK => ?_) | refine areg_text mixed tyok (by decide +kernel) ?_ | refine qal tyok (fun bx => ?_) | refine qbox (fun bx => ?_) | refine qboxV (fun bx => ?_) | ((repeat ((fail_if_success (refine hK _ _ ?_)); clear hK)); refine hK _ _ ?_; clear hK))
      exact hr _ _ (by (repeat (first | exact True.intro | refine ⟨⟨_, rfl, Sub.refl _⟩, ?_⟩ | refine ⟨⟨_, rfl, Sub.nilso _ _⟩, ?_⟩ | refine ⟨⟨_, rfl, sl_tail _ _ _ _ _⟩, ?_⟩ | refine ⟨⟨_, rfl, Sub.of_eq (by first | rfl | (congr 1; first | omega | (simp only; omega)) | (simp; done) | (simp; omega))⟩, ?_⟩ | refine ⟨⟨_, rfl, Sub.view _ _ _ _⟩, ?_⟩))) (List.Perm.refl _)
    · obtain rfl : g = 1 := by rw [← hg, hb]; rfl
      repeat (first | refine wK ?_ | refine awp_seq_k (fun K hK => ?_) | refine areg_text mixed tyok (by decide +kernel) ?_ | refine qal tyok (fun bx => ?_) | refine qbox (fun bx => ?_) | refine qboxV (fun bx => ?_) | ((repeat ((fail_if_success (refine hK _ _ ?_)); clear hK)); refine hK _ _ ?_; clear hK))
      exact hr _ _ (by (repeat (first | exact True.intro | refine ⟨⟨_, rfl, Sub.refl _⟩, ?_⟩ | refine ⟨⟨_, rfl, Sub.nilso _ _⟩, ?_⟩ | refine ⟨⟨_, rfl, sl_tail _ _ _ _ _⟩, ?_⟩ | refine ⟨⟨_, rfl, Sub.of_eq (by first | rfl | (congr 1; first | omega | (simp only; omega)) | (simp; done) | (simp; omega))⟩, ?_⟩ | refine ⟨⟨_, rfl, Sub.view _ _ _ _⟩, ?_⟩))) (List.Perm.refl _)
  clear hK
  repeat (first | refine wK ?_ | refine awp_seq_k (fun K hK => ?_) | refine areg_text mixed tyok (by decide +kernel) ?_ | refine qal tyok (fun bx => ?_) | refine qbox (fun bx => ?_) | refine qboxV (fun bx => ?_) | ((repeat ((fail_if_success (refine hK _ _ ?_)); clear hK)); refine hK _ _ ?_; clear hK))
  (first | refine qcallE .here (has_c b s1 [43] base) ?_ | refine qcallE (.there .here) (has_c b s1 [43] base) ?_ | refine qcallE (.there (.there .here)) (has_c b s1 [43] base) ?_ | refine qcallE (.there (.there (.there .here))) (has_c b s1 [43] base) ?_ | refine qcallE (.there (.there (.there (.there .here)))) (has_c b s1 [43] base) ?_)
  repeat (first | refine wK ?_ | refine awp_seq_k (fun K hK => ?_) | refine areg_text mixed tyok (by decide +kernel) ?_ | refine qal tyok (fun bx => ?_) | refine qbox (fun bx => ?_) | refine qboxV (fun bx => ?_) | ((repeat ((fail_if_success (refine hK _ _ ?_)); clear hK)); refine hK _ _ ?_; clear hK))
  generalize hs2 : Lib.trimPrefix s1 [43] = s2 at h t2 t3 ⊢
  (first | refine qcallE .here (has_c b s2 [50, 42] base) ?_ | refine qcallE (.there .here) (has_c b s2 [50, 42] base) ?_ | refine qcallE (.there (.there .here)) (has_c b s2 [50, 42] base) ?_ | refine qcallE (.there (.there (.there .here))) (has_c b s2 [50, 42] base) ?_ | refine qcallE (.there (.there (.there (.there .here)))) (has_c b s2 [50, 42] base) ?_)
  repeat (first | refine wK ?_ | refine awp_seq_k (fun K hK => ?_) | refine areg_text mixed tyok (by decide +kernel) ?_ | refine qal tyok (fun bx => ?_) | refine qbox (fun bx => ?_) | refine qboxV (fun bx => ?_) | ((repeat ((fail_if_success (refine hK _ _ ?_)); clear hK)); refine hK _ _ ?_; clear hK))
  have hgb : -1 ≤ g ∧ g ≤ 1 := by
    rw [← hg]
    split <;> omega
  cases hby : byF s2 with
  | mk m q =>
  obtain ⟨fb, s3⟩ := q
  rw [hby] at h t3
  simp only at h t3
  generalize hn1 : g * m = n1 at h
  refine (have hr := cutKP (Wk := [(0, .ptr b 0), (2, .ptr b2 0)]) (H0 := [.box b 137 (.agg [.str s3, .int .i64 base]), .box b2 141 (.agg [.int .i64 n1, .int .i64 fb, .nils])]) hK ?_; ?_)
  rotate_left
  · clear hK
    refine awp_cond rfl (fun hb => ?_) (fun hb => ?_)
    · rw [by_2 hb] at hby
      cases hby
      subst hn1
      repeat (first | refine wK ?_ | refine awp_seq_k (fun K hK => ?_) | refine areg_text mixed tyok (by decide +kernel) ?_ | refine qal tyok (fun bx => ?_) | refine qbox (fun bx => ?_) | refine qboxV (fun bx => ?_) | ((repeat ((fail_if_success (refine hK _ _ ?_)); clear hK)); refine hK _ _ ?_; clear hK))
      exact hr _ _ (by (repeat (first | exact True.intro | refine ⟨⟨_, rfl, Sub.refl _⟩, ?_⟩ | refine ⟨⟨_, rfl, Sub.nilso _ _⟩, ?_⟩ | refine ⟨⟨_, rfl, sl_tail _ _ _ _ _⟩, ?_⟩ | refine ⟨⟨_, rfl, Sub.of_eq (by first | rfl | (congr 1; first | omega | (simp only; omega)) | (simp; done) | (simp; omega))⟩, ?_⟩ | refine ⟨⟨_, rfl, Sub.view _ _ _ _⟩, ?_⟩))) (List.Perm.refl _)
    rw [trim_no hb]
    repeat (first | refine wK ?_ | refine awp_seq_k (fun K hK => ?_) | refine areg_text mixed tyok (by decide +kernel) ?_ | refine qal tyok (fun bx => ?_) | refine qbox (fun bx => ?_) | refine qboxV (fun bx => ?_) | ((repeat ((fail_if_success (refine hK _ _ ?_)); clear hK)); refine hK _ _ ?_; clear hK))
    (first | refine qcallE .here (has_c b s2 [109, 42] base) ?_ | refine qcallE (.there .here) (has_c b s2 [109, 42] base) ?_ | refine qcallE (.there (.there .here)) (has_c b s2 [109, 42] base) ?_ | refine qcallE (.there (.there (.there .here))) (has_c b s2 [109, 42] base) ?_ | refine qcallE (.there (.there (.there (.there .here)))) (has_c b s2 [109, 42] base) ?_)
    repeat (first | refine wK ?_ | refine awp_seq_k (fun K hK => ?_) | refine areg_text mixed tyok (by decide +kernel) ?_ | refine qal tyok (fun bx => ?_) | refine qbox (fun bx => ?_) | refine qboxV (fun bx => ?_) | ((repeat ((fail_if_success (refine hK _ _ ?_)); clear hK)); refine hK _ _ ?_; clear hK))
    refine awp_cond rfl (fun hb1 => ?_) (fun hb1 => ?_)
    · rw [by_m hb hb1] at hby
      cases hby
      obtain rfl : n1 = g := by omega
      repeat (first | refine wK ?_ | refine awp_seq_k (fun K hK => ?_) | refine areg_text mixed tyok (by decide +kernel) ?_ | refine qal tyok (fun bx => ?_) | refine qbox (fun bx => ?_) | refine qboxV (fun bx => ?_) | ((repeat ((fail_if_success (refine hK _ _ ?_)); clear hK)); refine hK _ _ ?_; clear hK))
      exact hr _ _ (by (repeat (first | exact True.intro | refine ⟨⟨_, rfl, Sub.refl _⟩, ?_⟩ | refine ⟨⟨_, rfl, Sub.nilso _ _⟩, ?_⟩ | refine ⟨⟨_, rfl, sl_tail _ _ _ _ _⟩, ?_⟩ | refine ⟨⟨_, rfl, Sub.of_eq (by first | rfl | (congr 1; first | omega | (simp only; omega)) | (simp; done) | (simp; omega))⟩, ?_⟩ | refine ⟨⟨_, rfl, Sub.view _ _ _ _⟩, ?_⟩))) (List.Perm.refl _)
    rw [trim_no hb1]
    repeat (first | refine wK ?_ | refine awp_seq_k (fun K hK => ?_) | refine areg_text mixed tyok (by decide +kernel) ?_ | refine qal tyok (fun bx => ?_) | refine qbox (fun bx => ?_) | refine qboxV (fun bx => ?_) | ((repeat ((fail_if_success (refine hK _ _ ?_)); clear hK)); refine hK _ _ ?_; clear hK))
    (first | refine qcallE .here (has_c b s2 [110, 42] base) ?_ | refine qcallE (.there .here) (has_c b s2 [110, 42] base) ?_ | refine qcallE (.there (.there .here)) (has_c b s2 [110, 42] base) ?_ | refine qcallE (.there (.there (.there .here))) (has_c b s2 [110, 42] base) ?_ | refine qcallE (.there (.there (.there (.there .here)))) (has_c b s2 [110, 42] base) ?_)
    repeat (first | refine wK ?_ | refine awp_seq_k (fun K hK => ?_) | refine areg_text mixed tyok (by decide +kernel) ?_ | refine qal tyok (fun bx => ?_) | refine qbox (fun bx => ?_) | refine qboxV (fun bx => ?_) | ((repeat ((fail_if_success (refine hK _ _ ?_)); clear hK)); refine hK _ _ ?_; clear hK))
    refine awp_cond rfl (fun hb2 => ?_) (fun hb2 => ?_)
    · rw [by_n hb hb1 hb2] at hby
      cases hby
      obtain rfl : n1 = g := by omega
      repeat (first | refine wK ?_ | refine awp_seq_k (fun K hK => ?_) | refine areg_text mixed tyok (by decide +kernel) ?_ | refine qal tyok (fun bx => ?_) | refine qbox (fun bx => ?_) | refine qboxV (fun bx => ?_) | ((repeat ((fail_if_success (refine hK _ _ ?_)); clear hK)); refine hK _ _ ?_; clear hK))
      exact hr _ _ (by (repeat (first | exact True.intro | refine ⟨⟨_, rfl, Sub.refl _⟩, ?_⟩ | refine ⟨⟨_, rfl, Sub.nilso _ _⟩, ?_⟩ | refine ⟨⟨_, rfl, sl_tail _ _ _ _ _⟩, ?_⟩ | refine ⟨⟨_, rfl, Sub.of_eq (by first | rfl | (congr 1; first | omega | (simp only; omega)) | (simp; done) | (simp; omega))⟩, ?_⟩ | refine ⟨⟨_, rfl, Sub.view _ _ _ _⟩, ?_⟩))) (List.Perm.refl _)
    · rw [trim_no hb2]
      rw [by_no hb hb1 hb2] at hby
      cases hby
      obtain rfl : n1 = g := by omega
      repeat (first | refine wK ?_ | refine awp_seq_k (fun K hK => ?_) | refine areg_text mixed tyok (by decide +kernel) ?_ | refine qal tyok (fun bx => ?_) | refine qbox (fun bx => ?_) | refine qboxV (fun bx => ?_) | ((repeat ((fail_if_success (refine hK _ _ ?_)); clear hK)); refine hK _ _ ?_; clear hK))
      exact hr _ _ (by (repeat (first | exact True.intro | refine ⟨⟨_, rfl, Sub.refl _⟩, ?_⟩ | refine ⟨⟨_, rfl, Sub.nilso _ _⟩, ?_⟩ | refine ⟨⟨_, rfl, sl_tail _ _ _ _ _⟩, ?_⟩ | refine ⟨⟨_, rfl, Sub.of_eq (by first | rfl | (congr 1; first | omega | (simp only; omega)) | (simp; done) | (simp; omega))⟩, ?_⟩ | refine ⟨⟨_, rfl, Sub.view _ _ _ _⟩, ?_⟩))) (List.Perm.refl _)
  clear hK
  cases hf : formF base s3 with
  | none => rw [hf] at h; cases h
  | some q =>
  obtain ⟨x, s4⟩ := q
  rw [hf] at h
  simp only at h
  cases hfs : facsF base n s4 with
  | none => rw [hfs] at h; cases h
  | some q =>
  obtain ⟨l, s5⟩ := q
  rw [hfs] at h
  simp only [Option.some.injEq, Prod.mk.injEq] at h
  obtain ⟨rfl, rfl⟩ := h
  have t4 := formF_len hf
  have t5 := facsF_len hfs
  refine awp_boxSub [_] (v' := .agg [.int .i64 n1, .int .i64 fb, sl formE 5 [] (.own none 0)]) (subAgg (.cons (Sub.refl _) (.cons (Sub.refl _) (.cons (Sub.sl_nil formE 5) .nil)))) ?_
  refine awp_tok0 5 162 ?_
  repeat (first | refine wK ?_ | refine awp_seq_k (fun K hK => ?_) | refine qal tyok (fun bx => ?_) | refine qbox (fun bx => ?_) | refine qboxV (fun bx => ?_) | ((repeat ((fail_if_success (refine hK _ _ ?_)); clear hK)); refine hK _ _ ?_; clear hK))
  refine areg_kept mixed tyok [(3, [137]), (4, [])] [0, 1, 2, 3, 4, 5, 6, 7] (by decide +kernel) ?_
  repeat (first | refine wK ?_ | refine awp_seq_k (fun K hK => ?_) | refine areg_text mixed tyok (by decide +kernel) ?_ | refine qal tyok (fun bx => ?_) | refine qbox (fun bx => ?_) | refine qboxV (fun bx => ?_) | ((repeat ((fail_if_success (refine hK _ _ ?_)); clear hK)); refine hK _ _ ?_; clear hK))
  (first | refine qcallE .here (form_c b s3 s4 base x (by omega) h3 h4 hf) ?_ | refine qcallE (.there .here) (form_c b s3 s4 base x (by omega) h3 h4 hf) ?_ | refine qcallE (.there (.there .here)) (form_c b s3 s4 base x (by omega) h3 h4 hf) ?_ | refine qcallE (.there (.there (.there .here))) (form_c b s3 s4 base x (by omega) h3 h4 hf) ?_ | refine qcallE (.there (.there (.there (.there .here)))) (form_c b s3 s4 base x (by omega) h3 h4 hf) ?_)
  repeat (first | refine wK ?_ | refine awp_seq_k (fun K hK => ?_) | refine areg_text mixed tyok (by decide +kernel) ?_ | refine qal tyok (fun bx => ?_) | refine qbox (fun bx => ?_) | refine qboxV (fun bx => ?_) | ((repeat ((fail_if_success (refine hK _ _ ?_)); clear hK)); refine hK _ _ ?_; clear hK))
  refine qapp tyok formE [] x (SubL.refl _) ?_ fun ad cp => ?_
  · simp
  repeat (first | refine wK ?_ | refine awp_seq_k (fun K hK => ?_) | refine areg_text mixed tyok (by decide +kernel) ?_ | refine qal tyok (fun bx => ?_) | refine qbox (fun bx => ?_) | refine qboxV (fun bx => ?_) | ((repeat ((fail_if_success (refine hK _ _ ?_)); clear hK)); refine hK _ _ ?_; clear hK))
  refine awp_loop0 (ι := { y : Nat × List FormR × List FormR × List UInt8 × Option Addr × Nat // facsF base y.1 y.2.2.2.1 = some (y.2.2.1, s5) ∧ y.2.1 ++ y.2.2.1 = x :: l ∧ y.2.2.2.1.length ≤ 1000000 })
    (fun _ => [(0, .ptr b 0), (2, .ptr b2 0)])
    (fun y => [.box b 137 (.agg [.str y.1.2.2.2.1, .int .i64 base]), .tok y.1.2.2.2.2.1 y.1.2.2.2.2.2 y.1.2.1.length 5 162, .box b2 141 (.agg [.int .i64 n1, .int .i64 fb, sl formE 5 y.1.2.1 (.own y.1.2.2.2.2.1 y.1.2.2.2.2.2)])])
    (fun y => y.1.1) ⟨(n, [x], l, s4, ad, cp), hfs, rfl, by show s4.length ≤ 1000000; omega⟩ (by (repeat (first | exact True.intro | refine ⟨⟨_, rfl, Sub.refl _⟩, ?_⟩ | refine ⟨⟨_, rfl, Sub.nilso _ _⟩, ?_⟩ | refine ⟨⟨_, rfl, sl_tail _ _ _ _ _⟩, ?_⟩ | refine ⟨⟨_, rfl, Sub.of_eq (by first | rfl | (congr 1; first | omega | (simp only; omega)) | (simp; done) | (simp; omega))⟩, ?_⟩ | refine ⟨⟨_, rfl, Sub.view _ _ _ _⟩, ?_⟩))) ⟨0, rfl⟩ ?_
  rintro ⟨⟨k, acc, l2, cur, a2, c2⟩, hk, hacc, hcur⟩
  simp only at hk hacc hcur ⊢
  have hal : acc.length + l2.length = l.length + 1 := by rw [← List.length_append, hacc, List.length_cons]
  cases k with
  | zero => cases hk
  | succ k =>
  simp only [facsF] at hk
  repeat (first | refine wK ?_ | refine awp_seq_k (fun K hK => ?_) | refine areg_text mixed tyok (by decide +kernel) ?_ | refine qal tyok (fun bx => ?_) | refine qbox (fun bx => ?_) | refine qboxV (fun bx => ?_) | ((repeat ((fail_if_success (refine hK _ _ ?_)); clear hK)); refine hK _ _ ?_; clear hK))
  (first | refine qcallE .here (has_c b cur [42] base) ?_ | refine qcallE (.there .here) (has_c b cur [42] base) ?_ | refine qcallE (.there (.there .here)) (has_c b cur [42] base) ?_ | refine qcallE (.there (.there (.there .here))) (has_c b cur [42] base) ?_ | refine qcallE (.there (.there (.there (.there .here)))) (has_c b cur [42] base) ?_)
  repeat (first | refine wK ?_ | refine awp_seq_k (fun K hK => ?_) | refine areg_text mixed tyok (by decide +kernel) ?_ | refine qal tyok (fun bx => ?_) | refine qbox (fun bx => ?_) | refine qboxV (fun bx => ?_) | ((repeat ((fail_if_success (refine hK _ _ ?_)); clear hK)); refine hK _ _ ?_; clear hK))
  refine awp_cond rfl (fun hb => ?_) (fun hb => ?_)
  · rw [hasF_t hb] at hk
    have t6 := trim_len cur [42]
    simp only at hk
    cases hf1 : formF base (Lib.trimPrefix cur [42]) with
    | none => rw [hf1] at hk; cases hk
    | some q =>
    obtain ⟨f1, s6⟩ := q
    rw [hf1] at hk
    simp only at hk
    have t7 := formF_len hf1
    cases hf2 : facsF base k s6 with
    | none => rw [hf2] at hk; cases hk
    | some q =>
    obtain ⟨l3, s7⟩ := q
    rw [hf2] at hk
    simp only [Option.some.injEq, Prod.mk.injEq] at hk
    obtain ⟨rfl, rfl⟩ := hk
    repeat (first | refine wK ?_ | refine awp_seq_k (fun K hK => ?_) | refine qal tyok (fun bx => ?_) | refine qbox (fun bx => ?_) | refine qboxV (fun bx => ?_) | ((repeat ((fail_if_success (refine hK _ _ ?_)); clear hK)); refine hK _ _ ?_; clear hK))
    refine areg_kept mixed tyok [(3, [137]), (4, [])] [0, 1, 2, 3, 4, 5, 6, 7] (by decide +kernel) ?_
    repeat (first | refine wK ?_ | refine awp_seq_k (fun K hK => ?_) | refine areg_text mixed tyok (by decide +kernel) ?_ | refine qal tyok (fun bx => ?_) | refine qbox (fun bx => ?_) | refine qboxV (fun bx => ?_) | ((repeat ((fail_if_success (refine hK _ _ ?_)); clear hK)); refine hK _ _ ?_; clear hK))
    (first | refine qcallE .here (form_c b (Lib.trimPrefix cur [42]) s6 base f1 (by omega) h3 h4 hf1) ?_ | refine qcallE (.there .here) (form_c b (Lib.trimPrefix cur [42]) s6 base f1 (by omega) h3 h4 hf1) ?_ | refine qcallE (.there (.there .here)) (form_c b (Lib.trimPrefix cur [42]) s6 base f1 (by omega) h3 h4 hf1) ?_ | refine qcallE (.there (.there (.there .here))) (form_c b (Lib.trimPrefix cur [42]) s6 base f1 (by omega) h3 h4 hf1) ?_ | refine qcallE (.there (.there (.there (.there .here)))) (form_c b (Lib.trimPrefix cur [42]) s6 base f1 (by omega) h3 h4 hf1) ?_)
    repeat (first | refine wK ?_ | refine awp_seq_k (fun K hK => ?_) | refine areg_text mixed tyok (by decide +kernel) ?_ | refine qal tyok (fun bx => ?_) | refine qbox (fun bx => ?_) | refine qboxV (fun bx => ?_) | ((repeat ((fail_if_success (refine hK _ _ ?_)); clear hK)); refine hK _ _ ?_; clear hK))
    refine qapp tyok formE acc f1 (SubL.refl _) ?_ fun ad2 cp2 => ?_
    · simp only
      omega
    repeat (first | refine wK ?_ | refine awp_seq_k (fun K hK => ?_) | refine areg_text mixed tyok (by decide +kernel) ?_ | refine qal tyok (fun bx => ?_) | refine qbox (fun bx => ?_) | refine qboxV (fun bx => ?_) | ((repeat ((fail_if_success (refine hK _ _ ?_)); clear hK)); refine hK _ _ ?_; clear hK))
    refine ⟨⟨(k, acc ++ [f1], l3, s6, ad2, cp2), hf2, by simpa using hacc, by show s6.length ≤ 1000000; omega⟩, (by (repeat (first | exact True.intro | refine ⟨⟨_, rfl, Sub.refl _⟩, ?_⟩ | refine ⟨⟨_, rfl, Sub.nilso _ _⟩, ?_⟩ | refine ⟨⟨_, rfl, sl_tail _ _ _ _ _⟩, ?_⟩ | refine ⟨⟨_, rfl, Sub.of_eq (by first | rfl | (congr 1; first | omega | (simp only; omega)) | (simp; done) | (simp; omega))⟩, ?_⟩ | refine ⟨⟨_, rfl, Sub.view _ _ _ _⟩, ?_⟩))), ⟨0, rfl⟩, Nat.lt_succ_self _⟩
  · rw [hasF_f hb] at hk
    simp only [Option.some.injEq, Prod.mk.injEq] at hk
    obtain ⟨rfl, rfl⟩ := hk
    rw [List.append_nil] at hacc
    subst hacc
    rw [trim_no hb]
    refine awp_permS (H := [_, _, _]) (List.perm_append_comm (l₁ := [_]) (l₂ := [_, _])) ?_
    repeat (first | refine wK ?_ | refine awp_seq_k (fun K hK => ?_) | refine areg_text mixed tyok (by decide +kernel) ?_ | refine qal tyok (fun bx => ?_) | refine qbox (fun bx => ?_) | refine qboxV (fun bx => ?_) | ((repeat ((fail_if_success (refine hK _ _ ?_)); clear hK)); refine hK _ _ ?_; clear hK))
    exact fnQ_ret 2 rfl (.cell rfl rfl (List.Mem.tail _ (List.Mem.head _)) rfl trivial .nil) (subAgg (.cons (Sub.refl _) (.cons (Sub.refl _) (.cons (Sub.view _ _ _ _) .nil)))) ⟨rfl, rfl⟩

end Go.Proofs.YtjinaakebjfbiaaGreatDoor
