/-
  The document's parser: the same statements?
-/
import Derived.Test.YtjinaakebjfbiaaGreatDoorPr0
import Derived.Test.YtjinaakebjfbiaaGreatDoorRx3
namespace Go.Proofs.YtjinaakebjfbiaaGreatDoor
open Go.Ab

def sameT (a b : TokR) (bare : Bool) : Bool := a.k == b.k && a.w == b.w && a.n == b.n && (bare || (a.ln == b.ln && a.co == b.co))

theorem cbSam : Callable Tryz.prog 68 := fun _ _ => by kernel_rfl
set_option maxHeartbeats 1600000 in
theorem same_c (a b : TokR) (bare : Bool) : PCalls Tryz.prog 68 [.agg (tokE a), .agg (tokE b), .bool bare] (.bool (sameT a b bare)) := by
  refine pcalls_of_awp tyok cbSam Tryz.func68 rfl rfl ?_
  ((repeat (first | refine wK ?_ | refine awp_seq_k (fun K hK => ?_) | refine areg_text mixed tyok (by decide +kernel) ?_ | ((repeat ((fail_if_success (refine hK _ _ ?_)); clear hK)); refine hK _ _ ?_; clear hK))); ((first | refine qal tyok (fun b3 => ?_) | refine qbox (fun b3 => ?_) | refine qboxV (fun b3 => ?_))); (repeat (first | refine wK ?_ | refine awp_seq_k (fun K hK => ?_) | refine areg_text mixed tyok (by decide +kernel) ?_ | ((repeat ((fail_if_success (refine hK _ _ ?_)); clear hK)); refine hK _ _ ?_; clear hK))); ((first | refine qal tyok (fun b4 => ?_) | refine qbox (fun b4 => ?_) | refine qboxV (fun b4 => ?_))); (repeat (first | refine wK ?_ | refine awp_seq_k (fun K hK => ?_) | refine areg_text mixed tyok (by decide +kernel) ?_ | refine qal tyok (fun bx => ?_) | refine qbox (fun bx => ?_) | refine qboxV (fun bx => ?_) | ((repeat ((fail_if_success (refine hK _ _ ?_)); clear hK)); refine hK _ _ ?_; clear hK))))
  refine r1 ?_
  refine Sub.of_eq ?_
  have e : ∀ m n : Nat, ((m : Int) == n) = (m == n) := fun m n => by rw [Bool.eq_iff_iff]; simp; omega
  simp only [sameT, e, Bool.and_true]

def sameA (a b : List TokR) (bare : Bool) : Bool := (List.range a.length).all fun k => sameT (a.getD k default) (b.getD k default) bare
def sameS (a b : StR) (bare : Bool) : Bool := a.k == b.k && sameT a.new b.new bare && sameT a.word b.word bare && a.args.length == b.args.length && (bare || (a.at' == b.at' && a.en == b.en)) && sameA a.args b.args bare
def sameL (a b : List StR) (bare : Bool) : Bool := a.length == b.length && (List.range a.length).all fun i => sameS (a.getD i default) (b.getD i default) bare

theorem cbSam20 : Callable Tryz.prog 35 := fun _ _ => by kernel_rfl
set_option maxHeartbeats 3200000 in
set_option maxRecDepth 100000 in
theorem sameL_c (a b : List StR) (bare : Bool) (ha : a.length ≤ 1000000000000) (haa : ∀ s ∈ a, s.args.length ≤ 1000000000000) (hT : sameL a b bare = true) : PCalls Tryz.prog 35 [stmtsV a, stmtsV b, .bool bare] (.bool true) := by
  refine pcalls_of_awp tyok cbSam20 Tryz.func35 rfl rfl ?_
  simp only [sameL, Bool.and_eq_true, beq_iff_eq, List.all_eq_true, List.mem_range] at hT
  obtain ⟨hl, hS⟩ := hT
  repeat (first | refine wKB ?_ | refine awp_seq_k (fun K hK => ?_) | refine areg_text mixed tyok (by decide +kernel) ?_ | refine qal tyok (fun bx => ?_) | refine qbox (fun bx => ?_) | refine qboxV (fun bx => ?_) | ((repeat ((fail_if_success (refine hK _ _ ?_)); clear hK)); refine hK _ _ ?_; clear hK))
  refine awp_loop0 (ι := { x : Nat // x ≤ a.length }) (fun x => [(7, .int .i64 x.1), (0, stmtsV a), (1, stmtsV b), (2, .bool bare)]) (fun _ => []) (fun x => a.length - x.1) ⟨0, Nat.zero_le _⟩ (by (repeat (first | exact True.intro | refine ⟨⟨_, rfl, Sub.refl _⟩, ?_⟩ | refine ⟨⟨_, rfl, Sub.nilso _ _⟩, ?_⟩ | refine ⟨⟨_, rfl, sl_tail _ _ _ _ _⟩, ?_⟩ | refine ⟨⟨_, rfl, Sub.of_eq (by first | rfl | (congr 1; first | omega | (simp only; omega)) | (simp; done) | (simp; omega))⟩, ?_⟩ | refine ⟨⟨_, rfl, Sub.view _ _ _ _⟩, ?_⟩))) ⟨0, rfl⟩ ?_
  rintro ⟨i, hi⟩
  by_cases h : i < a.length
  · have hs := hS i h
    simp only [sameS, sameA, Bool.and_eq_true, beq_iff_eq, List.all_eq_true, List.mem_range] at hs
    obtain ⟨⟨⟨⟨⟨s1, s2⟩, s3⟩, s4⟩, s5⟩, s6⟩ := hs
    have hib : i < b.length := by omega
    repeat (first | refine wKB ?_ | refine awp_seq_k (fun K hK => ?_) | refine areg_text mixed tyok (by decide +kernel) ?_ | refine qal tyok (fun bx => ?_) | refine qbox (fun bx => ?_) | refine qboxV (fun bx => ?_) | refine TR.pcall rfl rfl rfl rfl True.intro rfl rfl (same_c _ _ _) ?_ | refine pco rfl rfl rfl rfl rfl rfl rfl rfl (fun _ => same_c _ _ _) ?_ | ((repeat ((fail_if_success (refine hK _ _ ?_)); clear hK)); refine hK _ _ ?_; clear hK))
    refine awp_cond rfl (fun hb => absurd hb ?_) (fun _ => ?_)
    · simp only [Int.toNat_natCast, s1, s2, s3, s4]
      cases bare
      · simp only [Bool.false_or, Bool.and_eq_true, beq_iff_eq] at s5
        obtain ⟨p, q⟩ := s5
        simp only [p, q]
        simp
      · simp
    repeat (first | refine wKB ?_ | refine awp_seq_k (fun K hK => ?_) | refine areg_text mixed tyok (by decide +kernel) ?_ | refine qal tyok (fun bx => ?_) | refine qbox (fun bx => ?_) | refine qboxV (fun bx => ?_) | ((repeat ((fail_if_success (refine hK _ _ ?_)); clear hK)); refine hK _ _ ?_; clear hK))
    refine awp_loop0 (ι := { x : Nat // x ≤ (a.getD i default).args.length }) (fun x => [(8, .int .i64 x.1), (7, .int .i64 i), (0, stmtsV a), (1, stmtsV b), (2, .bool bare)]) (fun _ => []) (fun x => (a.getD i default).args.length - x.1) ⟨0, Nat.zero_le _⟩ (by (repeat (first | exact True.intro | refine ⟨⟨_, rfl, Sub.refl _⟩, ?_⟩ | refine ⟨⟨_, rfl, Sub.nilso _ _⟩, ?_⟩ | refine ⟨⟨_, rfl, sl_tail _ _ _ _ _⟩, ?_⟩ | refine ⟨⟨_, rfl, Sub.of_eq (by first | rfl | (congr 1; first | omega | (simp only; omega)) | (simp; done) | (simp; omega))⟩, ?_⟩ | refine ⟨⟨_, rfl, Sub.view _ _ _ _⟩, ?_⟩))) ⟨0, rfl⟩ ?_
    rintro ⟨k, hk⟩
    have hal : (a.getD i default).args.length ≤ 1000000000000 := haa _ (by
      rw [List.getD_eq_getElem?_getD, List.getElem?_eq_getElem h]
      exact List.getElem_mem h)
    have e1 : (a.getD ((i : Int)).toNat default).args.length = (a.getD i default).args.length := rfl
    have e2 : (b.getD ((i : Int)).toNat default).args.length = (b.getD i default).args.length := rfl
    by_cases hkl : k < (a.getD i default).args.length
    · have hs6 := s6 k hkl
      have f1 : (k : Int) < ((a.getD ((i : Int)).toNat default).args.length : Int) := by omega
      have f2 : (k : Int) < ((b.getD ((i : Int)).toNat default).args.length : Int) := by omega
      repeat (first | refine wKB ?_ | refine awp_seq_k (fun K hK => ?_) | refine areg_text mixed tyok (by decide +kernel) ?_ | refine qal tyok (fun bx => ?_) | refine qbox (fun bx => ?_) | refine qboxV (fun bx => ?_) | refine TR.pcall rfl rfl rfl rfl True.intro rfl rfl (same_c _ _ _) ?_ | refine pco rfl rfl rfl rfl rfl rfl rfl rfl (fun _ => same_c _ _ _) ?_ | ((repeat ((fail_if_success (refine hK _ _ ?_)); clear hK)); refine hK _ _ ?_; clear hK))
      refine awp_cond rfl (fun hb => absurd hb ?_) (fun _ => ?_)
      · simp only [Int.toNat_natCast, hs6]
        simp
      repeat (first | refine wKB ?_ | refine awp_seq_k (fun K hK => ?_) | refine areg_text mixed tyok (by decide +kernel) ?_ | refine qal tyok (fun bx => ?_) | refine qbox (fun bx => ?_) | refine qboxV (fun bx => ?_) | ((repeat ((fail_if_success (refine hK _ _ ?_)); clear hK)); refine hK _ _ ?_; clear hK))
      refine ⟨⟨k + 1, hkl⟩, ⟨⟨_, rfl, Sub.of_eq (by simp)⟩, ⟨_, rfl, Sub.refl _⟩, ⟨_, rfl, Sub.refl _⟩, ⟨_, rfl, Sub.refl _⟩, ⟨_, rfl, Sub.refl _⟩, trivial⟩, ⟨0, rfl⟩, by simp only; omega⟩
    · have f1 : ¬ (k : Int) < ((a.getD ((i : Int)).toNat default).args.length : Int) := by omega
      repeat (first | refine wKB ?_ | refine awp_seq_k (fun K hK => ?_) | refine areg_text mixed tyok (by decide +kernel) ?_ | refine qal tyok (fun bx => ?_) | refine qbox (fun bx => ?_) | refine qboxV (fun bx => ?_) | ((repeat ((fail_if_success (refine hK _ _ ?_)); clear hK)); refine hK _ _ ?_; clear hK))
      refine ⟨⟨i + 1, h⟩, ⟨⟨_, rfl, Sub.of_eq (by simp)⟩, ⟨_, rfl, Sub.refl _⟩, ⟨_, rfl, Sub.refl _⟩, ⟨_, rfl, Sub.refl _⟩, trivial⟩, ⟨0, rfl⟩, by simp only; omega⟩
  · repeat (first | refine wKB ?_ | refine awp_seq_k (fun K hK => ?_) | refine areg_text mixed tyok (by decide +kernel) ?_ | refine qal tyok (fun bx => ?_) | refine qbox (fun bx => ?_) | refine qboxV (fun bx => ?_) | ((repeat ((fail_if_success (refine hK _ _ ?_)); clear hK)); refine hK _ _ ?_; clear hK))
    refine r1 ?_
    exact Sub.refl _

end Go.Proofs.YtjinaakebjfbiaaGreatDoor
