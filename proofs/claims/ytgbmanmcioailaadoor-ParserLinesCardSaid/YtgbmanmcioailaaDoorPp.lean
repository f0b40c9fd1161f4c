/-
  ParserPlaces returns true.
-/
import Derived.Test.YtgbmanmcioailaaDoorSm
import Derived.Test.YtgbmanmcioailaaDoorPf
import Derived.Test.YtgbmanmcioailaaDoorAb21
namespace Go.Proofs.YtgbmanmcioailaaDoor
open Go.Ab

theorem parseF_inr {s : List UInt8} {a : List StR} (h : parseF s = .inr a) : ∃ r, linesF s = .inr r ∧ parseG r = .inr a := by
  unfold parseF at h
  cases hl : linesF s with
  | inl p => rw [hl] at h; cases h
  | inr r => rw [hl] at h; exact ⟨r, rfl, h⟩

theorem endOf_last {l : List TokR} (h : l ≠ []) : endOf l = ((l.getD (((l.length : Int) - 1).toNat) default).ln, (l.getD (((l.length : Int) - 1).toNat) default).co + (l.getD (((l.length : Int) - 1).toNat) default).w.length) := by
  cases l with
  | nil => exact absurd rfl h
  | cons t l =>
    have e : (((t :: l).length : Int) - 1).toNat = l.length := by simp only [List.length_cons]; omega
    rw [e, getLastD_getD]
    rfl

theorem cbPp : Callable Tryd.prog 12 := fun _ _ => by kernel_rfl
set_option maxHeartbeats 6400000 in
set_option maxRecDepth 100000 in
theorem parserPlaces_c (s : List UInt8) : PCalls Tryd.prog 12 [.str s] (.bool true) := by
  refine pcalls_of_awp tyok cbPp Tryd.func12 rfl rfl ?_
  by_cases hs : s.length > 3000
  · have hs' : (s.length : Int) > 3000 := by omega
    repeat (first | refine wKB ?_ | refine awp_seq_k (fun K hK => ?_) | refine areg_text mixed tyok (by decide +kernel) ?_ | refine qal tyok (fun bx => ?_) | refine qbox (fun bx => ?_) | refine qboxV (fun bx => ?_) | refine TR.pcall rfl rfl rfl rfl True.intro rfl rfl (known20_c) ?_ | refine pco rfl rfl rfl rfl rfl rfl rfl rfl (fun _ => known20_c) ?_ | ((repeat ((fail_if_success (refine hK _ _ ?_)); clear hK)); refine hK _ _ ?_; clear hK))
    refine r1 ?_
    exact Sub.refl _
  have hs' : ¬ (s.length : Int) > 3000 := by omega
  have hsl : ¬ s.length > 65536 := by omega
  have g1 := parse_c s (by omega)
  cases h1 : parseF s with
  | inl p =>
    rw [parseR_inl (by omega) h1] at g1
    repeat (first | refine wKB ?_ | refine awp_seq_k (fun K hK => ?_) | refine areg_text mixed tyok (by decide +kernel) ?_ | refine qal tyok (fun bx => ?_) | refine qbox (fun bx => ?_) | refine qboxV (fun bx => ?_) | refine TR.pcall rfl rfl rfl rfl True.intro rfl rfl (g1) ?_ | refine TR.pcall rfl rfl rfl rfl True.intro rfl rfl (known20_c) ?_ | refine pco rfl rfl rfl rfl rfl rfl rfl rfl (fun _ => g1) ?_ | refine pco rfl rfl rfl rfl rfl rfl rfl rfl (fun _ => known20_c) ?_ | ((repeat ((fail_if_success (refine hK _ _ ?_)); clear hK)); refine hK _ _ ?_; clear hK))
    refine r1 ?_
    exact Sub.refl _
  | inr a =>
    rw [parseR_inr (by omega) h1] at g1
    obtain ⟨r, hf, hpg⟩ := parseF_inr h1
    have g2 := rlines_c s (by omega)
    rw [linesR_inr hsl hf] at g2
    obtain ⟨hal, hst⟩ := parseG_get hpg
    have hrn := lines_count hf
    repeat (first | refine wKB ?_ | refine awp_seq_k (fun K hK => ?_) | refine areg_text mixed tyok (by decide +kernel) ?_ | refine qal tyok (fun bx => ?_) | refine qbox (fun bx => ?_) | refine qboxV (fun bx => ?_) | refine TR.pcall rfl rfl rfl rfl True.intro rfl rfl (g1) ?_ | refine TR.pcall rfl rfl rfl rfl True.intro rfl rfl (g2) ?_ | refine TR.pcall rfl rfl rfl rfl True.intro rfl rfl (known20_c) ?_ | refine pco rfl rfl rfl rfl rfl rfl rfl rfl (fun _ => g1) ?_ | refine pco rfl rfl rfl rfl rfl rfl rfl rfl (fun _ => g2) ?_ | refine pco rfl rfl rfl rfl rfl rfl rfl rfl (fun _ => known20_c) ?_ | ((repeat ((fail_if_success (refine hK _ _ ?_)); clear hK)); refine hK _ _ ?_; clear hK))
    refine awp_loop0 (ι := { x : Nat // x ≤ r.length })
      (fun x => [(3, stmtsV a), (6, linesV r), (45, stmtsV a), (46, .int .i64 a.length), (47, .int .i64 x.1)])
      (fun _ => []) (fun x => r.length - x.1) ⟨0, Nat.zero_le _⟩ ?_ ⟨2, rfl⟩ ?_
    · (repeat (first | exact True.intro | refine ⟨⟨_, rfl, Sub.refl _⟩, ?_⟩ | refine ⟨⟨_, rfl, Sub.nilso _ _⟩, ?_⟩ | refine ⟨⟨_, rfl, sl_tail _ _ _ _ _⟩, ?_⟩ | refine ⟨⟨_, rfl, Sub.of_eq (by first | rfl | (congr 1; first | omega | (simp only; omega)) | (simp; done) | (simp; omega))⟩, ?_⟩ | refine ⟨⟨_, rfl, Sub.view _ _ _ _⟩, ?_⟩))
    rintro ⟨i, hi⟩
    simp only at hi ⊢
    by_cases hlt : i < r.length
    · have hp := stmtF_pl (hst i hlt)
      have hmem : r.getD i default ∈ r := by rw [getD_def hlt]; exact List.getElem_mem _
      obtain ⟨hne, hll, hco⟩ := line_bound hf hmem
      have hpos : 0 < (r.getD i default).length := List.length_pos_iff.2 hne
      have f1 : (i : Int) < (a.length : Int) := by omega
      have f3 : (i : Int) < (r.length : Int) := by omega
      have f2 : (r.getD ((i : Int)).toNat default).length = (r.getD i default).length := rfl
      have f4 : (0 : Int) < ((r.getD ((i : Int)).toNat default).length : Int) := by omega
      ((repeat (first | refine wKB ?_ | refine awp_seq_k (fun K hK => ?_) | ((repeat ((fail_if_success (refine hK _ _ ?_)); clear hK)); refine hK _ _ ?_; clear hK))); ((first | refine qal tyok (fun b10 => ?_) | refine qbox (fun b10 => ?_) | refine qboxV (fun b10 => ?_))); (repeat (first | refine wKB ?_ | refine awp_seq_k (fun K hK => ?_) | refine qal tyok (fun bx => ?_) | refine qbox (fun bx => ?_) | refine qboxV (fun bx => ?_) | ((repeat ((fail_if_success (refine hK _ _ ?_)); clear hK)); refine hK _ _ ?_; clear hK))))
      refine (have hr : ∀ b11 b12 T' H', Weak T' [(11, .ptr b11 0), (12, .ptr b12 0), (9, .int .i64 i), (10, .ptr b10 0), (3, stmtsV a), (6, linesV r), (45, stmtsV a), (46, .int .i64 a.length), (47, .int .i64 i)] →
        List.Perm (α := Ent) H' [.box b11 61 (.agg (tokE ((r.getD i default).getD 0 default))), .box b12 61 (.agg (tokE ((r.getD i default).getD ((((r.getD i default).length : Int) - 1).toNat) default))), .box b10 74 (.agg (stmtE (a.getD i default)))] → _ := fun b11 b12 => cutKP hK ?_; ?_)
      rotate_left
      · clear hK
        refine areg_allocs mixed tyok (List.range 18) [18, 19] [20, 21] (by kernel_rfl) (by kernel_rfl) ?_
        repeat (first | refine wKB ?_ | refine awp_seq_k (fun K hK => ?_) | refine areg_text mixed tyok (by decide +kernel) ?_ | refine qal tyok (fun bx => ?_) | refine qbox (fun bx => ?_) | refine qboxV (fun bx => ?_) | ((repeat ((fail_if_success (refine hK _ _ ?_)); clear hK)); refine hK _ _ ?_; clear hK))
        intro x hx
        have hx' : x ∈ ([18, 19] : List Nat) := hx
        simp only [List.mem_cons, List.mem_nil_iff, or_false] at hx'
        rcases hx' with rfl | rfl
        · refine one_alloc tyok rfl rfl rfl rfl rfl fun b11 => ?_
          intro x hx
          have hx' : x ∈ ([19] : List Nat) := hx
          simp only [List.mem_cons, List.mem_nil_iff, or_false] at hx'
          subst hx'
          refine one_alloc tyok rfl rfl rfl rfl rfl fun b12 => ?_
          refine allO_zero ?_
          repeat (first | refine wK ?_ | refine awp_seq_k (fun K hK => ?_) | refine areg_text mixed tyok (by decide +kernel) ?_ | refine qal tyok (fun bx => ?_) | refine qbox (fun bx => ?_) | refine qboxV (fun bx => ?_) | ((repeat ((fail_if_success (refine hK _ _ ?_)); clear hK)); refine hK _ _ ?_; clear hK))
          refine hr b11 b12 _ _ ?_ ?_
          · (repeat (first | exact True.intro | refine ⟨⟨_, rfl, Sub.refl _⟩, ?_⟩ | refine ⟨⟨_, rfl, Sub.nilso _ _⟩, ?_⟩ | refine ⟨⟨_, rfl, sl_tail _ _ _ _ _⟩, ?_⟩ | refine ⟨⟨_, rfl, Sub.of_eq (by first | rfl | (congr 1; first | omega | (simp only; omega)) | (simp; done) | (simp; omega))⟩, ?_⟩ | refine ⟨⟨_, rfl, Sub.view _ _ _ _⟩, ?_⟩))
          · first | exact List.Perm.refl _ | exact List.Perm.swap _ _ _
        · refine one_alloc tyok rfl rfl rfl rfl rfl fun b12 => ?_
          intro x hx
          have hx' : x ∈ ([18] : List Nat) := hx
          simp only [List.mem_cons, List.mem_nil_iff, or_false] at hx'
          subst hx'
          refine one_alloc tyok rfl rfl rfl rfl rfl fun b11 => ?_
          refine allO_zero ?_
          repeat (first | refine wK ?_ | refine awp_seq_k (fun K hK => ?_) | refine areg_text mixed tyok (by decide +kernel) ?_ | refine qal tyok (fun bx => ?_) | refine qbox (fun bx => ?_) | refine qboxV (fun bx => ?_) | ((repeat ((fail_if_success (refine hK _ _ ?_)); clear hK)); refine hK _ _ ?_; clear hK))
          refine hr b11 b12 _ _ ?_ ?_
          · (repeat (first | exact True.intro | refine ⟨⟨_, rfl, Sub.refl _⟩, ?_⟩ | refine ⟨⟨_, rfl, Sub.nilso _ _⟩, ?_⟩ | refine ⟨⟨_, rfl, sl_tail _ _ _ _ _⟩, ?_⟩ | refine ⟨⟨_, rfl, Sub.of_eq (by first | rfl | (congr 1; first | omega | (simp only; omega)) | (simp; done) | (simp; omega))⟩, ?_⟩ | refine ⟨⟨_, rfl, Sub.view _ _ _ _⟩, ?_⟩))
          · first | exact List.Perm.refl _ | exact List.Perm.swap _ _ _
      clear hK
      have hEn := endOf_last hne
      cases hX : a.getD i default with
      | mk k nw wd args at' en =>
      rw [hX] at hp
      have e1 := hp.at'
      have e2 := hp.en
      have e3 := hp.args
      have k1 := hp.k1
      have k5 := hp.k5
      have hlen := hp.len
      rw [hEn] at e2
      simp only at e1 e2 e3 k1 k5 hlen
      subst e1
      subst e2
      subst e3
      have hil : (((r.getD i default).length : Int) - 1).toNat < (r.getD i default).length := by omega
      have hcl := hco ((r.getD i default).getD (((r.getD i default).length : Int) - 1).toNat default) (by rw [getD_def hil]; exact List.getElem_mem _)
      refine awp_boxSub [_, _] (v' := .agg (.int .u8 k :: (tokE nw ++ (tokE wd ++ [toksV ((r.getD i default).drop (headOf k)), .int .i64 ((r.getD i default).getD 0 default).ln, .int .i64 ((r.getD i default).getD 0 default).co, .int .i64 ((r.getD i default).getD (((r.getD i default).length : Int) - 1).toNat default).ln, .int .i64 (((r.getD i default).getD (((r.getD i default).length : Int) - 1).toNat default).co + ((r.getD i default).getD (((r.getD i default).length : Int) - 1).toNat default).w.length : Nat)])))) (Sub.of_eq rfl) ?_
      ((repeat (first | refine wKB ?_ | refine awp_seq_k (fun K hK => ?_) | refine areg_text mixed tyok (by decide +kernel) ?_ | ((repeat ((fail_if_success (refine hK _ _ ?_)); clear hK)); refine hK _ _ ?_; clear hK))); ((first | refine qal tyok (fun b13 => ?_) | refine qbox (fun b13 => ?_) | refine qboxV (fun b13 => ?_))))
      (((repeat (first | refine wT ?_ | refine qal tyok (fun bx => ?_) | refine qbox (fun bx => ?_) | refine qboxV (fun bx => ?_)))); repeat (first | (with_reducible refine pQ_normal ?_) | (with_reducible refine thenQ_normal ?_) | (with_reducible refine blockQ_normal ?_) | (with_reducible refine thenQ_exit ?_) | (with_reducible refine blockQ_hit ?_) | refine blockQ_miss rfl ?_ | (with_reducible refine thenQ_ret ?_) | (with_reducible refine blockQ_ret ?_) | (with_reducible refine pQ_panic ?_) | (with_reducible refine thenQ_panic ?_) | (with_reducible refine blockQ_panic ?_)); ((repeat ((fail_if_success (refine hK _ _ ?_)); clear hK)); refine hK _ _ ?_; clear hK))
      refine awp_boxSub [] (v' := .agg [.int .i64 ((r.getD i default).getD (((r.getD i default).length : Int) - 1).toNat default).ln, .int .i64 (((r.getD i default).getD (((r.getD i default).length : Int) - 1).toNat default).co + ((r.getD i default).getD (((r.getD i default).length : Int) - 1).toNat default).w.length : Nat)]) (Sub.of_eq (by simp only [Int.natCast_add]; rfl)) ?_
      have hdl : ((r.getD i default).drop (headOf k)).length = (r.getD i default).length - headOf k := List.length_drop
      repeat (first | refine wKB ?_ | refine awp_seq_k (fun K hK => ?_) | refine areg_text mixed tyok (by decide +kernel) ?_ | refine qal tyok (fun bx => ?_) | refine qbox (fun bx => ?_) | refine qboxV (fun bx => ?_) | ((repeat ((fail_if_success (refine hK _ _ ?_)); clear hK)); refine hK _ _ ?_; clear hK))
      refine (have hr := cutKP (Wk := [(14, .int .i64 (headOf k : Nat)), (13, .ptr b13 0), (11, .ptr b11 0), (12, .ptr b12 0), (9, .int .i64 i), (10, .ptr b10 0), (3, stmtsV a), (6, linesV r), (45, stmtsV a), (46, .int .i64 a.length), (47, .int .i64 i)]) (H0 := [.box b13 56 (.agg [.int .i64 ((r.getD i default).getD (((r.getD i default).length : Int) - 1).toNat default).ln, .int .i64 (((r.getD i default).getD (((r.getD i default).length : Int) - 1).toNat default).co + ((r.getD i default).getD (((r.getD i default).length : Int) - 1).toNat default).w.length : Nat)]), .box b11 61 (.agg (tokE ((r.getD i default).getD 0 default))), .box b12 61 (.agg (tokE ((r.getD i default).getD (((r.getD i default).length : Int) - 1).toNat default))), .box b10 74 (.agg (.int .u8 k :: (tokE nw ++ (tokE wd ++ [toksV ((r.getD i default).drop (headOf k)), .int .i64 ((r.getD i default).getD 0 default).ln, .int .i64 ((r.getD i default).getD 0 default).co, .int .i64 ((r.getD i default).getD (((r.getD i default).length : Int) - 1).toNat default).ln, .int .i64 (((r.getD i default).getD (((r.getD i default).length : Int) - 1).toNat default).co + ((r.getD i default).getD (((r.getD i default).length : Int) - 1).toNat default).w.length : Nat)]))))]) hK ?_; ?_)
      rotate_left
      · clear hK
        refine awp_cond rfl (fun hb => ?_) (fun hb => ?_)
        · have hk2 : k = 2 := by simpa using hb
          have hh : headOf k = 2 := by simp [headOf, hk2]
          repeat (first | refine wKB ?_ | refine awp_seq_k (fun K hK => ?_) | refine areg_text mixed tyok (by decide +kernel) ?_ | refine qal tyok (fun bx => ?_) | refine qbox (fun bx => ?_) | refine qboxV (fun bx => ?_) | ((repeat ((fail_if_success (refine hK _ _ ?_)); clear hK)); refine hK _ _ ?_; clear hK))
          refine hr _ _ ?_ (List.Perm.refl _)
          refine ⟨⟨_, rfl, Sub.of_eq (by rw [hh]; try rfl)⟩, ?_⟩
          (repeat (first | exact True.intro | refine ⟨⟨_, rfl, Sub.refl _⟩, ?_⟩ | refine ⟨⟨_, rfl, Sub.nilso _ _⟩, ?_⟩ | refine ⟨⟨_, rfl, sl_tail _ _ _ _ _⟩, ?_⟩ | refine ⟨⟨_, rfl, Sub.of_eq (by first | rfl | (congr 1; first | omega | (simp only; omega)) | (simp; done) | (simp; omega))⟩, ?_⟩ | refine ⟨⟨_, rfl, Sub.view _ _ _ _⟩, ?_⟩))
        have hk2 : ¬ k = 2 := by simpa using hb
        by_cases hk4 : k = 4
        · have hh : headOf k = 3 := by simp [headOf, hk4]
          repeat (first | refine wKB ?_ | refine awp_seq_k (fun K hK => ?_) | refine areg_text mixed tyok (by decide +kernel) ?_ | refine qal tyok (fun bx => ?_) | refine qbox (fun bx => ?_) | refine qboxV (fun bx => ?_) | ((repeat ((fail_if_success (refine hK _ _ ?_)); clear hK)); refine hK _ _ ?_; clear hK))
          refine hr _ _ ?_ (List.Perm.refl _)
          refine ⟨⟨_, rfl, Sub.of_eq (by rw [hh]; try rfl)⟩, ?_⟩
          (repeat (first | exact True.intro | refine ⟨⟨_, rfl, Sub.refl _⟩, ?_⟩ | refine ⟨⟨_, rfl, Sub.nilso _ _⟩, ?_⟩ | refine ⟨⟨_, rfl, sl_tail _ _ _ _ _⟩, ?_⟩ | refine ⟨⟨_, rfl, Sub.of_eq (by first | rfl | (congr 1; first | omega | (simp only; omega)) | (simp; done) | (simp; omega))⟩, ?_⟩ | refine ⟨⟨_, rfl, Sub.view _ _ _ _⟩, ?_⟩))
        by_cases hk5 : k = 5
        · have hh : headOf k = 2 := by simp [headOf, hk5]
          repeat (first | refine wKB ?_ | refine awp_seq_k (fun K hK => ?_) | refine areg_text mixed tyok (by decide +kernel) ?_ | refine qal tyok (fun bx => ?_) | refine qbox (fun bx => ?_) | refine qboxV (fun bx => ?_) | ((repeat ((fail_if_success (refine hK _ _ ?_)); clear hK)); refine hK _ _ ?_; clear hK))
          refine hr _ _ ?_ (List.Perm.refl _)
          refine ⟨⟨_, rfl, Sub.of_eq (by rw [hh]; try rfl)⟩, ?_⟩
          (repeat (first | exact True.intro | refine ⟨⟨_, rfl, Sub.refl _⟩, ?_⟩ | refine ⟨⟨_, rfl, Sub.nilso _ _⟩, ?_⟩ | refine ⟨⟨_, rfl, sl_tail _ _ _ _ _⟩, ?_⟩ | refine ⟨⟨_, rfl, Sub.of_eq (by first | rfl | (congr 1; first | omega | (simp only; omega)) | (simp; done) | (simp; omega))⟩, ?_⟩ | refine ⟨⟨_, rfl, Sub.view _ _ _ _⟩, ?_⟩))
        · have hh : headOf k = 1 := by simp [headOf, hk2, hk4, hk5]
          repeat (first | refine wKB ?_ | refine awp_seq_k (fun K hK => ?_) | refine areg_text mixed tyok (by decide +kernel) ?_ | refine qal tyok (fun bx => ?_) | refine qbox (fun bx => ?_) | refine qboxV (fun bx => ?_) | ((repeat ((fail_if_success (refine hK _ _ ?_)); clear hK)); refine hK _ _ ?_; clear hK))
          refine hr _ _ ?_ (List.Perm.refl _)
          refine ⟨⟨_, rfl, Sub.of_eq (by rw [hh]; try rfl)⟩, ?_⟩
          (repeat (first | exact True.intro | refine ⟨⟨_, rfl, Sub.refl _⟩, ?_⟩ | refine ⟨⟨_, rfl, Sub.nilso _ _⟩, ?_⟩ | refine ⟨⟨_, rfl, sl_tail _ _ _ _ _⟩, ?_⟩ | refine ⟨⟨_, rfl, Sub.of_eq (by first | rfl | (congr 1; first | omega | (simp only; omega)) | (simp; done) | (simp; omega))⟩, ?_⟩ | refine ⟨⟨_, rfl, Sub.view _ _ _ _⟩, ?_⟩))
      clear hK
      have hh4 : headOf k ≤ 3 := by unfold headOf; split <;> (try split) <;> (try split) <;> omega
      repeat (first | refine wKB ?_ | refine awp_seq_k (fun K hK => ?_) | refine areg_text mixed tyok (by decide +kernel) ?_ | refine qal tyok (fun bx => ?_) | refine qbox (fun bx => ?_) | refine qboxV (fun bx => ?_) | ((repeat ((fail_if_success (refine hK _ _ ?_)); clear hK)); refine hK _ _ ?_; clear hK))
      refine awp_cond rfl (fun hb => ?_) (fun hb => ?_)
      · refine absurd hb ?_
        simp only [beq_self_eq_true, Bool.and_self, Bool.not_true, Bool.false_or, Bool.or_eq_true, decide_eq_true_eq, bne_iff_ne, ne_eq, not_or, Int.not_lt]
        refine ⟨⟨by omega, by omega⟩, ?_⟩
        have e5 : ((r.getD ((i : Int)).toNat default).length : Int) = ((r.getD i default).length : Int) := rfl
        omega
      clear hb
      repeat (first | refine wKB ?_ | refine awp_seq_k (fun K hK => ?_) | refine areg_text mixed tyok (by decide +kernel) ?_ | refine qal tyok (fun bx => ?_) | refine qbox (fun bx => ?_) | refine qboxV (fun bx => ?_) | ((repeat ((fail_if_success (refine hK _ _ ?_)); clear hK)); refine hK _ _ ?_; clear hK))
      refine awp_loop0 (ι := { m : Nat // m ≤ ((r.getD i default).drop (headOf k)).length })
        (fun m => [(14, .int .i64 (headOf k : Nat)), (9, .int .i64 i), (10, .ptr b10 0), (3, stmtsV a), (6, linesV r), (45, stmtsV a), (46, .int .i64 a.length), (47, .int .i64 i), (124, toksV ((r.getD i default).drop (headOf k))), (125, .int .i64 ((r.getD i default).drop (headOf k)).length), (126, .int .i64 m.1)])
        (fun _ => [.box b13 56 (.agg [.int .i64 ((r.getD i default).getD (((r.getD i default).length : Int) - 1).toNat default).ln, .int .i64 (((r.getD i default).getD (((r.getD i default).length : Int) - 1).toNat default).co + ((r.getD i default).getD (((r.getD i default).length : Int) - 1).toNat default).w.length : Nat)]), .box b11 61 (.agg (tokE ((r.getD i default).getD 0 default))), .box b12 61 (.agg (tokE ((r.getD i default).getD (((r.getD i default).length : Int) - 1).toNat default))), .box b10 74 (.agg (.int .u8 k :: (tokE nw ++ (tokE wd ++ [toksV ((r.getD i default).drop (headOf k)), .int .i64 ((r.getD i default).getD 0 default).ln, .int .i64 ((r.getD i default).getD 0 default).co, .int .i64 ((r.getD i default).getD (((r.getD i default).length : Int) - 1).toNat default).ln, .int .i64 (((r.getD i default).getD (((r.getD i default).length : Int) - 1).toNat default).co + ((r.getD i default).getD (((r.getD i default).length : Int) - 1).toNat default).w.length : Nat)]))))]) (fun m => ((r.getD i default).drop (headOf k)).length - m.1) ⟨0, Nat.zero_le _⟩ (by (repeat (first | exact True.intro | refine ⟨⟨_, rfl, Sub.refl _⟩, ?_⟩ | refine ⟨⟨_, rfl, Sub.nilso _ _⟩, ?_⟩ | refine ⟨⟨_, rfl, sl_tail _ _ _ _ _⟩, ?_⟩ | refine ⟨⟨_, rfl, Sub.of_eq (by first | rfl | (congr 1; first | omega | (simp only; omega)) | (simp; done) | (simp; omega))⟩, ?_⟩ | refine ⟨⟨_, rfl, Sub.view _ _ _ _⟩, ?_⟩))) ⟨0, rfl⟩ ?_
      rintro ⟨m, hm⟩
      simp only at hm ⊢
      by_cases hlm : m < ((r.getD i default).drop (headOf k)).length
      · have hlm' : (m : Int) < (((r.getD i default).drop (headOf k)).length : Int) := by omega
        have hl2 : ((headOf k : Nat) : Int) + (m : Int) < ((r.getD ((i : Int)).toNat default).length : Int) := by
          have : (r.getD ((i : Int)).toNat default).length = (r.getD i default).length := rfl
          omega
        have hgg : ((r.getD i default).drop (headOf k)).getD ((m : Int)).toNat default = (r.getD ((i : Int)).toNat default).getD (((headOf k : Nat) : Int) + (m : Int)).toNat default := by
          have e1 : (((headOf k : Nat) : Int) + (m : Int)).toNat = headOf k + m := by omega
          rw [e1]
          show ((r.getD i default).drop (headOf k)).getD m default = (r.getD i default).getD (headOf k + m) default
          simp only [List.getD_eq_getElem?_getD, List.getElem?_drop]
        repeat (first | refine wKB ?_ | refine awp_seq_k (fun K hK => ?_) | refine areg_text mixed tyok (by decide +kernel) ?_ | refine qal tyok (fun bx => ?_) | refine qbox (fun bx => ?_) | refine qboxV (fun bx => ?_) | ((repeat ((fail_if_success (refine hK _ _ ?_)); clear hK)); refine hK _ _ ?_; clear hK))
        refine awp_cond rfl (fun hb => ?_) (fun hb => ?_)
        · refine absurd hb ?_
          rw [hgg]
          simp
        clear hb
        repeat (first | refine wKB ?_ | refine awp_seq_k (fun K hK => ?_) | refine areg_text mixed tyok (by decide +kernel) ?_ | refine qal tyok (fun bx => ?_) | refine qbox (fun bx => ?_) | refine qboxV (fun bx => ?_) | ((repeat ((fail_if_success (refine hK _ _ ?_)); clear hK)); refine hK _ _ ?_; clear hK))
        refine ⟨⟨m + 1, hlm⟩, (by (repeat (first | exact True.intro | refine ⟨⟨_, rfl, Sub.refl _⟩, ?_⟩ | refine ⟨⟨_, rfl, Sub.nilso _ _⟩, ?_⟩ | refine ⟨⟨_, rfl, sl_tail _ _ _ _ _⟩, ?_⟩ | refine ⟨⟨_, rfl, Sub.of_eq (by first | rfl | (congr 1; first | omega | (simp only; omega)) | (simp; done) | (simp; omega))⟩, ?_⟩ | refine ⟨⟨_, rfl, Sub.view _ _ _ _⟩, ?_⟩))), ⟨0, rfl⟩, ?_⟩
        simp only
        omega
      · have hgm : ¬ (m : Int) < (((r.getD i default).drop (headOf k)).length : Int) := by omega
        repeat (first | refine wKB ?_ | refine awp_seq_k (fun K hK => ?_) | refine areg_text mixed tyok (by decide +kernel) ?_ | refine qal tyok (fun bx => ?_) | refine qbox (fun bx => ?_) | refine qboxV (fun bx => ?_) | ((repeat ((fail_if_success (refine hK _ _ ?_)); clear hK)); refine hK _ _ ?_; clear hK))
        refine ⟨⟨i + 1, hlt⟩, (by (repeat (first | exact True.intro | refine ⟨⟨_, rfl, Sub.refl _⟩, ?_⟩ | refine ⟨⟨_, rfl, Sub.nilso _ _⟩, ?_⟩ | refine ⟨⟨_, rfl, sl_tail _ _ _ _ _⟩, ?_⟩ | refine ⟨⟨_, rfl, Sub.of_eq (by first | rfl | (congr 1; first | omega | (simp only; omega)) | (simp; done) | (simp; omega))⟩, ?_⟩ | refine ⟨⟨_, rfl, Sub.view _ _ _ _⟩, ?_⟩))), ⟨4, rfl⟩, ?_⟩
        simp only
        omega
    · have hie : i = r.length := by omega
      subst hie
      have hge : ¬ (r.length : Int) < (a.length : Int) := by omega
      repeat (first | refine wKB ?_ | refine awp_seq_k (fun K hK => ?_) | refine areg_text mixed tyok (by decide +kernel) ?_ | refine qal tyok (fun bx => ?_) | refine qbox (fun bx => ?_) | refine qboxV (fun bx => ?_) | refine TR.pcall rfl rfl rfl rfl True.intro rfl rfl (known20_c) ?_ | refine pco rfl rfl rfl rfl rfl rfl rfl rfl (fun _ => known20_c) ?_ | ((repeat ((fail_if_success (refine hK _ _ ?_)); clear hK)); refine hK _ _ ?_; clear hK))
      refine r1 ?_
      exact Sub.refl _

end Go.Proofs.YtgbmanmcioailaaDoor
