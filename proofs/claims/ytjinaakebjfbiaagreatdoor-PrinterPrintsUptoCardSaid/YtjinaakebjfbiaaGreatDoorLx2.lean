/-
  The lexer's kinds of words, and what a word is.
-/
import Derived.Test.YtjinaakebjfbiaaGreatDoorLx1
namespace Go.Proofs.YtjinaakebjfbiaaGreatDoor
open Go.Ab

def kind3 (s : List UInt8) : Bool := allF namedR s 1 8 && decide (((s.getD 0 0).toNat : Int) ≥ 65) && decide (((s.getD 0 0).toNat : Int) ≤ 90)

theorem cbK1 : Callable Tryz.prog 144 := fun _ _ => by kernel_rfl
theorem kind1_c (s : List UInt8) : PCalls Tryz.prog 144 [.str s] (.bool (s == [61])) := by
  refine pcalls_of_awp tyok cbK1 Tryz.func144 rfl rfl ?_
  repeat (first | refine wK ?_ | refine awp_seq_k (fun K hK => ?_) | refine areg_text mixed tyok (by decide +kernel) ?_ | refine qal tyok (fun bx => ?_) | refine qbox (fun bx => ?_) | refine qboxV (fun bx => ?_) | ((repeat ((fail_if_success (refine hK _ _ ?_)); clear hK)); refine hK _ _ ?_; clear hK))
  refine r1 ?_
  exact Sub.refl _

theorem smallR_high (r : Int) (h : 128 ≤ r) : smallR r = false := by
  have : ¬ r ≤ 122 := by omega
  simp [smallR, this]
theorem namedR_high (r : Int) (h : 128 ≤ r) : namedR r = false := by
  have h1 : ¬ r ≤ 90 := by omega
  have h2 : ¬ r ≤ 57 := by omega
  simp [namedR, smallR_high r h, h1, h2]

theorem cbK2 : Callable Tryz.prog 145 := fun _ _ => by kernel_rfl
theorem kind2_c (s : List UInt8) (hs : s.length ≤ 1000000000) : PCalls Tryz.prog 145 [.str s] (.bool (allF smallR s 1 16)) := by
  refine pcalls_of_awp tyok cbK2 Tryz.func145 rfl rfl ?_
  repeat (first | refine wK ?_ | refine awp_seq_k (fun K hK => ?_) | refine areg_text mixed tyok (by decide +kernel) ?_ | refine qal tyok (fun bx => ?_) | refine qbox (fun bx => ?_) | refine qboxV (fun bx => ?_) | refine TR.pcall rfl rfl rfl rfl True.intro rfl rfl (all_c smallR 147 small_c smallR_high s hs 1 16) ?_ | refine pco rfl rfl rfl rfl rfl rfl rfl rfl (fun _ => all_c smallR 147 small_c smallR_high s hs 1 16) ?_ | ((repeat ((fail_if_success (refine hK _ _ ?_)); clear hK)); refine hK _ _ ?_; clear hK))
  refine r1 ?_
  exact Sub.refl _

theorem allF_pos {isR : Int → Bool} {s : List UInt8} {b : Int} (h : allF isR s 1 b = true) : 1 ≤ s.length := by
  simp only [allF, Bool.and_eq_true, decide_eq_true_eq] at h
  omega

theorem cbK3 : Callable Tryz.prog 148 := fun _ _ => by kernel_rfl
theorem kind3_c (s : List UInt8) (hs : s.length ≤ 1000000000) : PCalls Tryz.prog 148 [.str s] (.bool (kind3 s)) := by
  refine pcalls_of_awp tyok cbK3 Tryz.func148 rfl rfl ?_
  have h1 := all_c namedR 149 named_c namedR_high s hs 1 8
  cases h : allF namedR s 1 8
  · rw [h] at h1
    repeat (first | refine wK ?_ | refine awp_seq_k (fun K hK => ?_) | refine areg_text mixed tyok (by decide +kernel) ?_ | refine qal tyok (fun bx => ?_) | refine qbox (fun bx => ?_) | refine qboxV (fun bx => ?_) | refine TR.pcall rfl rfl rfl rfl True.intro rfl rfl (h1) ?_ | refine pco rfl rfl rfl rfl rfl rfl rfl rfl (fun _ => h1) ?_ | ((repeat ((fail_if_success (refine hK _ _ ?_)); clear hK)); refine hK _ _ ?_; clear hK))
    refine r1 ?_
    exact Sub.of_eq (by simp [kind3, h])
  · rw [h] at h1
    have hp := allF_pos h
    repeat (first | refine wK ?_ | refine awp_seq_k (fun K hK => ?_) | refine areg_text mixed tyok (by decide +kernel) ?_ | refine qal tyok (fun bx => ?_) | refine qbox (fun bx => ?_) | refine qboxV (fun bx => ?_) | refine TR.pcall rfl rfl rfl rfl True.intro rfl rfl (h1) ?_ | refine pco rfl rfl rfl rfl rfl rfl rfl rfl (fun _ => h1) ?_ | ((repeat ((fail_if_success (refine hK _ _ ?_)); clear hK)); refine hK _ _ ?_; clear hK))
    refine r1 ?_
    exact Sub.of_eq (by simp [kind3, h])

def kindsV : AV := .slice 2 3 (chunk [.int .u8 4, .func (.func 144) [] [], .int .u8 2, .func (.func 145) [] [], .int .u8 1, .func (.func 148) [] []] 2) .full

theorem cbKs : Callable Tryz.prog 113 := fun _ _ => by kernel_rfl
theorem kinds_c : PCalls Tryz.prog 113 [] kindsV := by
  refine pcalls_of_awp tyok cbKs Tryz.func113 rfl rfl ?_
  repeat (first | refine wK ?_ | refine awp_seq_k (fun K hK => ?_) | refine areg_text mixed tyok (by decide +kernel) ?_ | refine qal tyok (fun bx => ?_) | refine qbox (fun bx => ?_) | refine qboxV (fun bx => ?_) | ((repeat ((fail_if_success (refine hK _ _ ?_)); clear hK)); refine hK _ _ ?_; clear hK))
  refine r1 ?_
  exact Sub.refl _

def tokF (w : List UInt8) : Option (Int × Int) :=
  if w == [61] then some (4, 0)
  else if allF smallR w 1 16 then some (2, 0)
  else if kind3 w then some (1, 0)
  else match Lib.atoiAll w with
    | .ok v => if (!(Lib.itoa v == w) || decide (v > 1000000)) || decide (v < -1000000) then none else some (3, v)
    | _ => none

def encT (k : Int) (w : List UInt8) (n line col : Int) : List AV := [.int .u8 k, .str w, .int .i64 n, .int .i64 line, .int .i64 col]

def tokV (w : List UInt8) : AV := match tokF w with
  | some (k, n) => .tuple [.agg (encT k w n 0 0), .bool true]
  | none => .tuple [.agg (encT 0 [] 0 0 0), .bool false]

theorem atoi_bounds {l : List UInt8} {v : Int} (h : Lib.atoiAll l = .ok v) : -9223372036854775808 ≤ v ∧ v ≤ 9223372036854775807 := by
  unfold Lib.atoiAll at h
  split at h
  · cases h
  · simp only at h
    split at h
    · cases h
    · cases h
    · rename_i u _
      split at h
      · cases h
      · split at h
        · cases h
        · simp only [Lib.NumEnd.ok.injEq] at h
          subst h
          split <;> omega

theorem cbTok : Callable Tryz.prog 86 := fun _ _ => by kernel_rfl
set_option maxHeartbeats 1600000 in
set_option maxRecDepth 100000 in
theorem tok_c (s : List UInt8) (hs : s.length ≤ 1000000000) : PCalls Tryz.prog 86 [.str s] (tokV s) := by
  refine pcalls_of_awp tyok cbTok Tryz.func86 rfl rfl ?_
  ((repeat (first | refine wK ?_ | refine awp_seq_k (fun K hK => ?_) | refine areg_text mixed tyok (by decide +kernel) ?_ | refine TR.pcall rfl rfl rfl rfl True.intro rfl rfl (kinds_c) ?_ | refine pco rfl rfl rfl rfl rfl rfl rfl rfl (fun _ => kinds_c) ?_ | ((repeat ((fail_if_success (refine hK _ _ ?_)); clear hK)); refine hK _ _ ?_; clear hK))); ((first | refine qal tyok (fun b2 => ?_) | refine qbox (fun b2 => ?_) | refine qboxV (fun b2 => ?_))); (repeat (first | refine wK ?_ | refine awp_seq_k (fun K hK => ?_) | refine areg_text mixed tyok (by decide +kernel) ?_ | refine qal tyok (fun bx => ?_) | refine qbox (fun bx => ?_) | refine qboxV (fun bx => ?_) | refine TR.pcall rfl rfl rfl rfl True.intro rfl rfl (kinds_c) ?_ | refine pco rfl rfl rfl rfl rfl rfl rfl rfl (fun _ => kinds_c) ?_ | ((repeat ((fail_if_success (refine hK _ _ ?_)); clear hK)); refine hK _ _ ?_; clear hK))))
  refine awp_loop0 (ι := { i : Nat // i ≤ 3 ∧ (1 ≤ i → (s == [61]) = false) ∧ (2 ≤ i → allF smallR s 1 16 = false) ∧ (3 ≤ i → kind3 s = false) })
    (fun i => [(0, .str s), (2, .ptr b2 0), (3, .bool false), (8, kindsV), (9, .int .i64 3), (10, .int .i64 i.1)]) (fun _ => [.box b2 44 (.agg (encT 0 [] 0 0 0))]) (fun i => 3 - i.1)
    ⟨0, by omega, fun h => absurd h (by omega), fun h => absurd h (by omega), fun h => absurd h (by omega)⟩ ?_ (by (first | exact ⟨0, rfl⟩ | exact ⟨1, rfl⟩ | exact ⟨2, rfl⟩ | exact ⟨3, rfl⟩ | exact ⟨4, rfl⟩)) ?_
  · (repeat (first | exact True.intro | refine ⟨⟨_, rfl, Sub.refl _⟩, ?_⟩ | refine ⟨⟨_, rfl, Sub.nilso _ _⟩, ?_⟩ | refine ⟨⟨_, rfl, sl_tail _ _ _ _ _⟩, ?_⟩ | refine ⟨⟨_, rfl, Sub.of_eq (by first | rfl | (congr 1; first | omega | (simp only; omega)) | (simp; done) | (simp; omega))⟩, ?_⟩ | refine ⟨⟨_, rfl, Sub.view _ _ _ _⟩, ?_⟩))
  rintro ⟨i, hi, p1, p2, p3⟩
  simp only at hi p1 p2 p3 ⊢
  rcases (by omega : i = 0 ∨ i = 1 ∨ i = 2 ∨ i = 3) with rfl | rfl | rfl | rfl
  · have g := kind1_c s
    cases h : s == [61]
    · rw [h] at g
      ((repeat (first | refine wK ?_ | refine awp_seq_k (fun K hK => ?_) | refine areg_text mixed tyok (by decide +kernel) ?_ | refine TR.pcall rfl rfl rfl rfl True.intro rfl rfl (g) ?_ | refine pco rfl rfl rfl rfl rfl rfl rfl rfl (fun _ => g) ?_ | ((repeat ((fail_if_success (refine hK _ _ ?_)); clear hK)); refine hK _ _ ?_; clear hK))); ((first | refine qal tyok (fun b5 => ?_) | refine qbox (fun b5 => ?_) | refine qboxV (fun b5 => ?_))); (repeat (first | refine wK ?_ | refine awp_seq_k (fun K hK => ?_) | refine areg_text mixed tyok (by decide +kernel) ?_ | refine qal tyok (fun bx => ?_) | refine qbox (fun bx => ?_) | refine qboxV (fun bx => ?_) | refine TR.pcall rfl rfl rfl rfl True.intro rfl rfl (g) ?_ | refine pco rfl rfl rfl rfl rfl rfl rfl rfl (fun _ => g) ?_ | ((repeat ((fail_if_success (refine hK _ _ ?_)); clear hK)); refine hK _ _ ?_; clear hK))))
      refine ⟨⟨1, by omega, fun _ => rfl, fun h => absurd h (by omega), fun h => absurd h (by omega)⟩, ?_, (by (first | exact ⟨0, rfl⟩ | exact ⟨1, rfl⟩ | exact ⟨2, rfl⟩ | exact ⟨3, rfl⟩ | exact ⟨4, rfl⟩)), ?_⟩
      · (repeat (first | exact True.intro | refine ⟨⟨_, rfl, Sub.refl _⟩, ?_⟩ | refine ⟨⟨_, rfl, Sub.nilso _ _⟩, ?_⟩ | refine ⟨⟨_, rfl, sl_tail _ _ _ _ _⟩, ?_⟩ | refine ⟨⟨_, rfl, Sub.of_eq (by first | rfl | (congr 1; first | omega | (simp only; omega)) | (simp; done) | (simp; omega))⟩, ?_⟩ | refine ⟨⟨_, rfl, Sub.view _ _ _ _⟩, ?_⟩))
      · simp only; omega
    · rw [h] at g
      ((repeat (first | refine wK ?_ | refine awp_seq_k (fun K hK => ?_) | refine areg_text mixed tyok (by decide +kernel) ?_ | refine TR.pcall rfl rfl rfl rfl True.intro rfl rfl (g) ?_ | refine pco rfl rfl rfl rfl rfl rfl rfl rfl (fun _ => g) ?_ | ((repeat ((fail_if_success (refine hK _ _ ?_)); clear hK)); refine hK _ _ ?_; clear hK))); ((first | refine qal tyok (fun b5 => ?_) | refine qbox (fun b5 => ?_) | refine qboxV (fun b5 => ?_))); (repeat (first | refine wK ?_ | refine awp_seq_k (fun K hK => ?_) | refine areg_text mixed tyok (by decide +kernel) ?_ | refine qal tyok (fun bx => ?_) | refine qbox (fun bx => ?_) | refine qboxV (fun bx => ?_) | refine TR.pcall rfl rfl rfl rfl True.intro rfl rfl (g) ?_ | refine pco rfl rfl rfl rfl rfl rfl rfl rfl (fun _ => g) ?_ | ((repeat ((fail_if_success (refine hK _ _ ?_)); clear hK)); refine hK _ _ ?_; clear hK))))
      refine fnQ_ret 2 rfl (.cell rfl rfl (List.Mem.tail _ (List.Mem.head _)) rfl trivial (.tmp rfl .nil)) (Sub.of_eq ?_) ⟨rfl, rfl⟩
      simp [tokV, tokF, h, encT]
      rfl
  · have g := kind2_c s hs
    have h1 := p1 (by omega)
    cases h : allF smallR s 1 16
    · rw [h] at g
      ((repeat (first | refine wK ?_ | refine awp_seq_k (fun K hK => ?_) | refine areg_text mixed tyok (by decide +kernel) ?_ | refine TR.pcall rfl rfl rfl rfl True.intro rfl rfl (g) ?_ | refine pco rfl rfl rfl rfl rfl rfl rfl rfl (fun _ => g) ?_ | ((repeat ((fail_if_success (refine hK _ _ ?_)); clear hK)); refine hK _ _ ?_; clear hK))); ((first | refine qal tyok (fun b5 => ?_) | refine qbox (fun b5 => ?_) | refine qboxV (fun b5 => ?_))); (repeat (first | refine wK ?_ | refine awp_seq_k (fun K hK => ?_) | refine areg_text mixed tyok (by decide +kernel) ?_ | refine qal tyok (fun bx => ?_) | refine qbox (fun bx => ?_) | refine qboxV (fun bx => ?_) | refine TR.pcall rfl rfl rfl rfl True.intro rfl rfl (g) ?_ | refine pco rfl rfl rfl rfl rfl rfl rfl rfl (fun _ => g) ?_ | ((repeat ((fail_if_success (refine hK _ _ ?_)); clear hK)); refine hK _ _ ?_; clear hK))))
      refine ⟨⟨2, by omega, fun _ => h1, fun _ => rfl, fun h => absurd h (by omega)⟩, ?_, (by (first | exact ⟨0, rfl⟩ | exact ⟨1, rfl⟩ | exact ⟨2, rfl⟩ | exact ⟨3, rfl⟩ | exact ⟨4, rfl⟩)), ?_⟩
      · (repeat (first | exact True.intro | refine ⟨⟨_, rfl, Sub.refl _⟩, ?_⟩ | refine ⟨⟨_, rfl, Sub.nilso _ _⟩, ?_⟩ | refine ⟨⟨_, rfl, sl_tail _ _ _ _ _⟩, ?_⟩ | refine ⟨⟨_, rfl, Sub.of_eq (by first | rfl | (congr 1; first | omega | (simp only; omega)) | (simp; done) | (simp; omega))⟩, ?_⟩ | refine ⟨⟨_, rfl, Sub.view _ _ _ _⟩, ?_⟩))
      · simp only; omega
    · rw [h] at g
      ((repeat (first | refine wK ?_ | refine awp_seq_k (fun K hK => ?_) | refine areg_text mixed tyok (by decide +kernel) ?_ | refine TR.pcall rfl rfl rfl rfl True.intro rfl rfl (g) ?_ | refine pco rfl rfl rfl rfl rfl rfl rfl rfl (fun _ => g) ?_ | ((repeat ((fail_if_success (refine hK _ _ ?_)); clear hK)); refine hK _ _ ?_; clear hK))); ((first | refine qal tyok (fun b5 => ?_) | refine qbox (fun b5 => ?_) | refine qboxV (fun b5 => ?_))); (repeat (first | refine wK ?_ | refine awp_seq_k (fun K hK => ?_) | refine areg_text mixed tyok (by decide +kernel) ?_ | refine qal tyok (fun bx => ?_) | refine qbox (fun bx => ?_) | refine qboxV (fun bx => ?_) | refine TR.pcall rfl rfl rfl rfl True.intro rfl rfl (g) ?_ | refine pco rfl rfl rfl rfl rfl rfl rfl rfl (fun _ => g) ?_ | ((repeat ((fail_if_success (refine hK _ _ ?_)); clear hK)); refine hK _ _ ?_; clear hK))))
      refine fnQ_ret 2 rfl (.cell rfl rfl (List.Mem.tail _ (List.Mem.head _)) rfl trivial (.tmp rfl .nil)) (Sub.of_eq ?_) ⟨rfl, rfl⟩
      simp [tokV, tokF, h, h1, encT]
      rfl
  · have g := kind3_c s hs
    have h1 := p1 (by omega)
    have h2 := p2 (by omega)
    cases h : kind3 s
    · rw [h] at g
      ((repeat (first | refine wK ?_ | refine awp_seq_k (fun K hK => ?_) | refine areg_text mixed tyok (by decide +kernel) ?_ | refine TR.pcall rfl rfl rfl rfl True.intro rfl rfl (g) ?_ | refine pco rfl rfl rfl rfl rfl rfl rfl rfl (fun _ => g) ?_ | ((repeat ((fail_if_success (refine hK _ _ ?_)); clear hK)); refine hK _ _ ?_; clear hK))); ((first | refine qal tyok (fun b5 => ?_) | refine qbox (fun b5 => ?_) | refine qboxV (fun b5 => ?_))); (repeat (first | refine wK ?_ | refine awp_seq_k (fun K hK => ?_) | refine areg_text mixed tyok (by decide +kernel) ?_ | refine qal tyok (fun bx => ?_) | refine qbox (fun bx => ?_) | refine qboxV (fun bx => ?_) | refine TR.pcall rfl rfl rfl rfl True.intro rfl rfl (g) ?_ | refine pco rfl rfl rfl rfl rfl rfl rfl rfl (fun _ => g) ?_ | ((repeat ((fail_if_success (refine hK _ _ ?_)); clear hK)); refine hK _ _ ?_; clear hK))))
      refine ⟨⟨3, by omega, fun _ => h1, fun _ => h2, fun _ => rfl⟩, ?_, (by (first | exact ⟨0, rfl⟩ | exact ⟨1, rfl⟩ | exact ⟨2, rfl⟩ | exact ⟨3, rfl⟩ | exact ⟨4, rfl⟩)), ?_⟩
      · (repeat (first | exact True.intro | refine ⟨⟨_, rfl, Sub.refl _⟩, ?_⟩ | refine ⟨⟨_, rfl, Sub.nilso _ _⟩, ?_⟩ | refine ⟨⟨_, rfl, sl_tail _ _ _ _ _⟩, ?_⟩ | refine ⟨⟨_, rfl, Sub.of_eq (by first | rfl | (congr 1; first | omega | (simp only; omega)) | (simp; done) | (simp; omega))⟩, ?_⟩ | refine ⟨⟨_, rfl, Sub.view _ _ _ _⟩, ?_⟩))
      · simp only; omega
    · rw [h] at g
      ((repeat (first | refine wK ?_ | refine awp_seq_k (fun K hK => ?_) | refine areg_text mixed tyok (by decide +kernel) ?_ | refine TR.pcall rfl rfl rfl rfl True.intro rfl rfl (g) ?_ | refine pco rfl rfl rfl rfl rfl rfl rfl rfl (fun _ => g) ?_ | ((repeat ((fail_if_success (refine hK _ _ ?_)); clear hK)); refine hK _ _ ?_; clear hK))); ((first | refine qal tyok (fun b5 => ?_) | refine qbox (fun b5 => ?_) | refine qboxV (fun b5 => ?_))); (repeat (first | refine wK ?_ | refine awp_seq_k (fun K hK => ?_) | refine areg_text mixed tyok (by decide +kernel) ?_ | refine qal tyok (fun bx => ?_) | refine qbox (fun bx => ?_) | refine qboxV (fun bx => ?_) | refine TR.pcall rfl rfl rfl rfl True.intro rfl rfl (g) ?_ | refine pco rfl rfl rfl rfl rfl rfl rfl rfl (fun _ => g) ?_ | ((repeat ((fail_if_success (refine hK _ _ ?_)); clear hK)); refine hK _ _ ?_; clear hK))))
      refine fnQ_ret 2 rfl (.cell rfl rfl (List.Mem.tail _ (List.Mem.head _)) rfl trivial (.tmp rfl .nil)) (Sub.of_eq ?_) ⟨rfl, rfl⟩
      simp [tokV, tokF, h, h1, h2, encT]
      rfl
  · have h1 := p1 (by omega)
    have h2 := p2 (by omega)
    have h3 := p3 (by omega)
    have ga := atoi_c s (by omega)
    unfold atoiV at ga
    cases ha : Lib.atoiAll s with
    | ok v =>
      rw [ha] at ga
      obtain ⟨v0, v1⟩ := atoi_bounds ha
      have gi := itoa_c v v0 v1
      repeat (first | refine wK ?_ | refine awp_seq_k (fun K hK => ?_) | refine areg_text mixed tyok (by decide +kernel) ?_ | refine qal tyok (fun bx => ?_) | refine qbox (fun bx => ?_) | refine qboxV (fun bx => ?_) | refine TR.pcall rfl rfl rfl rfl True.intro rfl rfl (ga) ?_ | refine TR.pcall rfl rfl rfl rfl True.intro rfl rfl (gi) ?_ | refine pco rfl rfl rfl rfl rfl rfl rfl rfl (fun _ => ga) ?_ | refine pco rfl rfl rfl rfl rfl rfl rfl rfl (fun _ => gi) ?_ | ((repeat ((fail_if_success (refine hK _ _ ?_)); clear hK)); refine hK _ _ ?_; clear hK))
      refine awp_cond rfl (fun hb => ?_) (fun hb => ?_)
      · repeat (first | refine wK ?_ | refine awp_seq_k (fun K hK => ?_) | refine areg_text mixed tyok (by decide +kernel) ?_ | refine qal tyok (fun bx => ?_) | refine qbox (fun bx => ?_) | refine qboxV (fun bx => ?_) | ((repeat ((fail_if_success (refine hK _ _ ?_)); clear hK)); refine hK _ _ ?_; clear hK))
        refine fnQ_ret 1 rfl (.cell rfl rfl (List.Mem.head _) rfl trivial (.tmp rfl .nil)) (Sub.of_eq ?_) ⟨rfl, rfl⟩
        simp only [tokV, tokF, h1, h2, h3, ha, Bool.false_eq_true, if_false]
        rw [if_pos (by simpa using hb)]
        rfl
      · repeat (first | refine wK ?_ | refine awp_seq_k (fun K hK => ?_) | refine areg_text mixed tyok (by decide +kernel) ?_ | refine qal tyok (fun bx => ?_) | refine qbox (fun bx => ?_) | refine qboxV (fun bx => ?_) | ((repeat ((fail_if_success (refine hK _ _ ?_)); clear hK)); refine hK _ _ ?_; clear hK))
        refine fnQ_ret 1 rfl (.cell rfl rfl (List.Mem.head _) rfl trivial (.tmp rfl .nil)) (Sub.of_eq ?_) ⟨rfl, rfl⟩
        simp only [tokV, tokF, h1, h2, h3, ha, Bool.false_eq_true, if_false]
        rw [if_neg (by simpa using hb)]
        rfl
    | range =>
      rw [ha] at ga
      repeat (first | refine wK ?_ | refine awp_seq_k (fun K hK => ?_) | refine areg_text mixed tyok (by decide +kernel) ?_ | refine qal tyok (fun bx => ?_) | refine qbox (fun bx => ?_) | refine qboxV (fun bx => ?_) | refine TR.pcall rfl rfl rfl rfl True.intro rfl rfl (ga) ?_ | refine pco rfl rfl rfl rfl rfl rfl rfl rfl (fun _ => ga) ?_ | ((repeat ((fail_if_success (refine hK _ _ ?_)); clear hK)); refine hK _ _ ?_; clear hK))
      refine fnQ_ret 1 rfl (.cell rfl rfl (List.Mem.head _) rfl trivial (.tmp rfl .nil)) (Sub.of_eq ?_) ⟨rfl, rfl⟩
      simp only [tokV, tokF, h1, h2, h3, ha, Bool.false_eq_true, if_false]
      rfl
    | _ =>
      rw [ha] at ga
      repeat (first | refine wK ?_ | refine awp_seq_k (fun K hK => ?_) | refine areg_text mixed tyok (by decide +kernel) ?_ | refine qal tyok (fun bx => ?_) | refine qbox (fun bx => ?_) | refine qboxV (fun bx => ?_) | refine TR.pcall rfl rfl rfl rfl True.intro rfl rfl (ga) ?_ | refine pco rfl rfl rfl rfl rfl rfl rfl rfl (fun _ => ga) ?_ | ((repeat ((fail_if_success (refine hK _ _ ?_)); clear hK)); refine hK _ _ ?_; clear hK))
      refine fnQ_ret 1 rfl (.cell rfl rfl (List.Mem.head _) rfl trivial (.tmp rfl .nil)) (Sub.of_eq ?_) ⟨rfl, rfl⟩
      simp only [tokV, tokF, h1, h2, h3, ha, Bool.false_eq_true, if_false]
      rfl

end Go.Proofs.YtjinaakebjfbiaaGreatDoor
