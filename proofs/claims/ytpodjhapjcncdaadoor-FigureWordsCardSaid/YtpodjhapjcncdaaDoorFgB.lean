/-
  FigureWords returns true.
-/
import Derived.Test.YtpodjhapjcncdaaDoorFgA
namespace Go.Proofs.YtpodjhapjcncdaaDoor
open Go.Ab

def wordOk (R : List UInt8 → Option FigR) (w : List UInt8) : Bool := decide (1 ≤ w.length ∧ w.length ≤ 16) && (w.all (fun c => Nat.ble 97 c.toNat && Nat.ble c.toNat 122) && ((R w).isSome && (R (w ++ [120])).isNone))

set_option maxRecDepth 100000 in
theorem words_made : (wordsT made21).all (wordOk conF) = true := by decide +kernel
set_option maxRecDepth 100000 in
theorem words_asked : (wordsT asked21).all (wordOk preF) = true := by decide +kernel
set_option maxRecDepth 100000 in
theorem nodup_made : (wordsT made21).Nodup := by decide +kernel
set_option maxRecDepth 100000 in
theorem nodup_asked : (wordsT asked21).Nodup := by decide +kernel

theorem word_at (b : Bool) {j : Nat} (hj : j < (wsB b).length) : wordOk (figB b) ((wsB b).getD j default) = true := by
  rw [getD_at hj]
  cases b with
  | false => exact List.all_eq_true.1 words_made _ (List.getElem_mem _)
  | true => exact List.all_eq_true.1 words_asked _ (List.getElem_mem _)

theorem nodup_at (b : Bool) {i j : Nat} (hi : i < (wsB b).length) (hj : j < (wsB b).length) (h : (wsB b).getD i default = (wsB b).getD j default) : i = j := by
  rw [getD_at hi, getD_at hj] at h
  have hn : (wsB b).Nodup := by
    cases b with
    | false => exact nodup_made
    | true => exact nodup_asked
  have hp := List.pairwise_iff_getElem.1 hn
  rcases Nat.lt_trichotomy i j with h1 | h1 | h1
  · exact absurd h (hp i j hi hj h1)
  · exact h1
  · exact absurd h.symm (hp j i hj hi h1)

theorem getD_mem0 {l : List UInt8} {j : Nat} (h : j < l.length) : l.getD j 0 ∈ l := by
  rw [List.getD_eq_getElem?_getD, List.getElem?_eq_getElem h]
  exact List.getElem_mem _

theorem cbFw : Callable Tryd.prog 5 := fun _ _ => by kernel_rfl
set_option maxHeartbeats 6400000 in
set_option maxRecDepth 100000 in
theorem figureWords_c (n m : Int) (b : Bool) : PCalls Tryd.prog 5 [.int .i64 n, .int .i64 m, .bool b] (.bool true) := by
  refine pcalls_of_awp tyok cbFw Tryd.func5 rfl rfl ?_
  obtain ⟨hI0, hI1⟩ := pickJ_bd n b
  obtain ⟨hK0, hK1⟩ := pickJ_bd m b
  have hwI := word_at b (j := (pickJ n b).toNat) (by omega)
  have hsame : ((wsB b).getD (pickJ n b).toNat default == (wsB b).getD (pickJ m b).toNat default) = (pickJ n b == pickJ m b) := by
    by_cases h : pickJ n b = pickJ m b
    · rw [h]; simp
    · have h2 : (wsB b).getD (pickJ n b).toNat default ≠ (wsB b).getD (pickJ m b).toNat default := fun e => h (by
        have := nodup_at b (i := (pickJ n b).toNat) (j := (pickJ m b).toNat) (by omega) (by omega) e
        omega)
      rw [beq_eq_false_iff_ne.2 h, beq_eq_false_iff_ne.2 h2]
  unfold wordOk at hwI
  simp only [Bool.and_eq_true, decide_eq_true_eq, List.all_eq_true, Option.isSome_iff_exists, Option.isNone_iff_eq_none] at hwI
  obtain ⟨⟨w1, w2⟩, w3, ⟨f, hf⟩, w5⟩ := hwI
  have hcall := figB_c b ((wsB b).getD (pickJ n b).toNat default)
  have hcallx := figB_c b ((wsB b).getD (pickJ n b).toNat default ++ [120])
  rw [hf] at hcall
  rw [w5] at hcallx
  simp only [figV] at hcall hcallx
  have hw0 := u64_pos n
  have hw1 := u64_pos m
  have gc := constructions_c
  have gpr := predicates_c
  have kn := known21_c
  have hmn := made_n
  have han := asked_n
  cases b
  · have hlw : ((wordsT made21).length : Int) = 29 := by rw [hmn]; rfl
    have el : IntKind.u64.wrap ((wordsT made21).length : Int) = 29 := by rw [hlw]; decide
    have eI : (IntKind.i64.wrap (IntKind.u64.wrap n % IntKind.u64.wrap ((wordsT made21).length : Int))) = pickJ n false := by rw [hlw]; rfl
    have eK : (IntKind.i64.wrap (IntKind.u64.wrap m % IntKind.u64.wrap ((wordsT made21).length : Int))) = pickJ m false := by rw [hlw]; rfl
    have hI1' : pickJ n false < ((wordsT made21).length : Int) := hI1
    have hK1' : pickJ m false < ((wordsT made21).length : Int) := hK1
    have elw : 0 < IntKind.u64.wrap ((wordsT made21).length : Int) := by rw [el]; decide
    rw [← eI] at hcall hcallx hI0 hI1' hsame w1 w2 w3
    rw [← eK] at hK0 hK1' hsame
    have w1' : 1 ≤ ((wordsT made21).getD (IntKind.i64.wrap (IntKind.u64.wrap n % IntKind.u64.wrap ((wordsT made21).length : Int))).toNat default).length := w1
    have w2' : ((wordsT made21).getD (IntKind.i64.wrap (IntKind.u64.wrap n % IntKind.u64.wrap ((wordsT made21).length : Int))).toNat default).length ≤ 16 := w2
    have w3' : ∀ c ∈ ((wordsT made21).getD (IntKind.i64.wrap (IntKind.u64.wrap n % IntKind.u64.wrap ((wordsT made21).length : Int))).toNat default), 97 ≤ c.toNat ∧ c.toNat ≤ 122 := fun c hc => by
      have := w3 c hc
      exact ⟨Nat.le_of_ble_eq_true this.1, Nat.le_of_ble_eq_true this.2⟩
    have hsame' : ((wordsT made21).getD (IntKind.i64.wrap (IntKind.u64.wrap n % IntKind.u64.wrap ((wordsT made21).length : Int))).toNat default == (wordsT made21).getD (IntKind.i64.wrap (IntKind.u64.wrap m % IntKind.u64.wrap ((wordsT made21).length : Int))).toNat default) = ((IntKind.i64.wrap (IntKind.u64.wrap n % IntKind.u64.wrap ((wordsT made21).length : Int))) == (IntKind.i64.wrap (IntKind.u64.wrap m % IntKind.u64.wrap ((wordsT made21).length : Int)))) := hsame
    repeat (first | refine wKB ?_ | refine awp_seq_k (fun K hK => ?_) | refine areg_text mixed tyok (by decide +kernel) ?_ | refine qal tyok (fun bx => ?_) | refine qbox (fun bx => ?_) | refine qboxV (fun bx => ?_) | refine TR.pcall rfl rfl rfl rfl True.intro rfl rfl (gc) ?_ | refine TR.pcall rfl rfl rfl rfl True.intro rfl rfl (gpr) ?_ | refine pco rfl rfl rfl rfl rfl rfl rfl rfl (fun _ => gc) ?_ | refine pco rfl rfl rfl rfl rfl rfl rfl rfl (fun _ => gpr) ?_ | ((repeat ((fail_if_success (refine hK _ _ ?_)); clear hK)); refine hK _ _ ?_; clear hK))
    refine awp_loop0 (ι := { j : Nat // j ≤ ((wordsT made21).getD (IntKind.i64.wrap (IntKind.u64.wrap n % IntKind.u64.wrap ((wordsT made21).length : Int))).toNat default).length }) (fun j => [(7, sl txtE 1 (wordsT made21) .view), (8, .func (.func 12) [] []), (9, .int .i64 (IntKind.i64.wrap (IntKind.u64.wrap n % IntKind.u64.wrap ((wordsT made21).length : Int)))), (71, .int .i64 ((wordsT made21).getD (IntKind.i64.wrap (IntKind.u64.wrap n % IntKind.u64.wrap ((wordsT made21).length : Int))).toNat default).length), (72, .int .i64 j.1)]) (fun _ => []) (fun j => ((wordsT made21).getD (IntKind.i64.wrap (IntKind.u64.wrap n % IntKind.u64.wrap ((wordsT made21).length : Int))).toNat default).length - j.1) ⟨0, Nat.zero_le _⟩ (by (repeat (first | exact True.intro | refine ⟨⟨_, rfl, Sub.refl _⟩, ?_⟩ | refine ⟨⟨_, rfl, Sub.nilso _ _⟩, ?_⟩ | refine ⟨⟨_, rfl, sl_tail _ _ _ _ _⟩, ?_⟩ | refine ⟨⟨_, rfl, Sub.of_eq (by first | rfl | (congr 1; first | omega | (simp only; omega)) | (simp; done) | (simp; omega))⟩, ?_⟩ | refine ⟨⟨_, rfl, Sub.view _ _ _ _⟩, ?_⟩))) ⟨0, rfl⟩ ?_
    rintro ⟨j, hj⟩
    simp only at hj ⊢
    by_cases hlj : j < ((wordsT made21).getD (IntKind.i64.wrap (IntKind.u64.wrap n % IntKind.u64.wrap ((wordsT made21).length : Int))).toNat default).length
    · have hlj' : (j : Int) < (((wordsT made21).getD (IntKind.i64.wrap (IntKind.u64.wrap n % IntKind.u64.wrap ((wordsT made21).length : Int))).toNat default).length : Int) := by omega
      obtain ⟨c1, c2⟩ := w3' (((wordsT made21).getD (IntKind.i64.wrap (IntKind.u64.wrap n % IntKind.u64.wrap ((wordsT made21).length : Int))).toNat default).getD ((j : Int)).toNat 0) (getD_mem0 hlj)
      have c1' : (97 : Int) ≤ ((((wordsT made21).getD (IntKind.i64.wrap (IntKind.u64.wrap n % IntKind.u64.wrap ((wordsT made21).length : Int))).toNat default).getD ((j : Int)).toNat 0).toNat : Int) := by omega
      have c2' : ((((wordsT made21).getD (IntKind.i64.wrap (IntKind.u64.wrap n % IntKind.u64.wrap ((wordsT made21).length : Int))).toNat default).getD ((j : Int)).toNat 0).toNat : Int) ≤ 122 := by omega
      repeat (first | refine wKB ?_ | refine awp_seq_k (fun K hK => ?_) | refine areg_text mixed tyok (by decide +kernel) ?_ | refine qal tyok (fun bx => ?_) | refine qbox (fun bx => ?_) | refine qboxV (fun bx => ?_) | ((repeat ((fail_if_success (refine hK _ _ ?_)); clear hK)); refine hK _ _ ?_; clear hK))
      refine ⟨⟨j + 1, hlj⟩, (by (repeat (first | exact True.intro | refine ⟨⟨_, rfl, Sub.refl _⟩, ?_⟩ | refine ⟨⟨_, rfl, Sub.nilso _ _⟩, ?_⟩ | refine ⟨⟨_, rfl, sl_tail _ _ _ _ _⟩, ?_⟩ | refine ⟨⟨_, rfl, Sub.of_eq (by first | rfl | (congr 1; first | omega | (simp only; omega)) | (simp; done) | (simp; omega))⟩, ?_⟩ | refine ⟨⟨_, rfl, Sub.view _ _ _ _⟩, ?_⟩))), ⟨0, rfl⟩, by simp only; omega⟩
    · have hgj : ¬ (j : Int) < (((wordsT made21).getD (IntKind.i64.wrap (IntKind.u64.wrap n % IntKind.u64.wrap ((wordsT made21).length : Int))).toNat default).length : Int) := by omega
      have hx1 : (({ data := #[120] } : ByteArray).data.toList).length = 1 := rfl
      repeat (first | refine wKB ?_ | refine awp_seq_k (fun K hK => ?_) | refine areg_text mixed tyok (by decide +kernel) ?_ | refine qal tyok (fun bx => ?_) | refine qbox (fun bx => ?_) | refine qboxV (fun bx => ?_) | refine TR.pcall rfl rfl rfl rfl True.intro rfl rfl (hcall) ?_ | refine TR.pcall rfl rfl rfl rfl True.intro rfl rfl (hcallx) ?_ | refine TR.pcall rfl rfl rfl rfl True.intro rfl rfl (kn) ?_ | refine pco rfl rfl rfl rfl rfl rfl rfl rfl (fun _ => hcall) ?_ | refine pco rfl rfl rfl rfl rfl rfl rfl rfl (fun _ => hcallx) ?_ | refine pco rfl rfl rfl rfl rfl rfl rfl rfl (fun _ => kn) ?_ | ((repeat ((fail_if_success (refine hK _ _ ?_)); clear hK)); refine hK _ _ ?_; clear hK))
      refine r1 ?_
      exact Sub.refl _
  · have hlw : ((wordsT asked21).length : Int) = 20 := by rw [han]; rfl
    have el : IntKind.u64.wrap ((wordsT asked21).length : Int) = 20 := by rw [hlw]; decide
    have eI : (IntKind.i64.wrap (IntKind.u64.wrap n % IntKind.u64.wrap ((wordsT asked21).length : Int))) = pickJ n true := by rw [hlw]; rfl
    have eK : (IntKind.i64.wrap (IntKind.u64.wrap m % IntKind.u64.wrap ((wordsT asked21).length : Int))) = pickJ m true := by rw [hlw]; rfl
    have hI1' : pickJ n true < ((wordsT asked21).length : Int) := hI1
    have hK1' : pickJ m true < ((wordsT asked21).length : Int) := hK1
    have elw : 0 < IntKind.u64.wrap ((wordsT asked21).length : Int) := by rw [el]; decide
    rw [← eI] at hcall hcallx hI0 hI1' hsame w1 w2 w3
    rw [← eK] at hK0 hK1' hsame
    have w1' : 1 ≤ ((wordsT asked21).getD (IntKind.i64.wrap (IntKind.u64.wrap n % IntKind.u64.wrap ((wordsT asked21).length : Int))).toNat default).length := w1
    have w2' : ((wordsT asked21).getD (IntKind.i64.wrap (IntKind.u64.wrap n % IntKind.u64.wrap ((wordsT asked21).length : Int))).toNat default).length ≤ 16 := w2
    have w3' : ∀ c ∈ ((wordsT asked21).getD (IntKind.i64.wrap (IntKind.u64.wrap n % IntKind.u64.wrap ((wordsT asked21).length : Int))).toNat default), 97 ≤ c.toNat ∧ c.toNat ≤ 122 := fun c hc => by
      have := w3 c hc
      exact ⟨Nat.le_of_ble_eq_true this.1, Nat.le_of_ble_eq_true this.2⟩
    have hsame' : ((wordsT asked21).getD (IntKind.i64.wrap (IntKind.u64.wrap n % IntKind.u64.wrap ((wordsT asked21).length : Int))).toNat default == (wordsT asked21).getD (IntKind.i64.wrap (IntKind.u64.wrap m % IntKind.u64.wrap ((wordsT asked21).length : Int))).toNat default) = ((IntKind.i64.wrap (IntKind.u64.wrap n % IntKind.u64.wrap ((wordsT asked21).length : Int))) == (IntKind.i64.wrap (IntKind.u64.wrap m % IntKind.u64.wrap ((wordsT asked21).length : Int)))) := hsame
    repeat (first | refine wKB ?_ | refine awp_seq_k (fun K hK => ?_) | refine areg_text mixed tyok (by decide +kernel) ?_ | refine qal tyok (fun bx => ?_) | refine qbox (fun bx => ?_) | refine qboxV (fun bx => ?_) | refine TR.pcall rfl rfl rfl rfl True.intro rfl rfl (gc) ?_ | refine TR.pcall rfl rfl rfl rfl True.intro rfl rfl (gpr) ?_ | refine pco rfl rfl rfl rfl rfl rfl rfl rfl (fun _ => gc) ?_ | refine pco rfl rfl rfl rfl rfl rfl rfl rfl (fun _ => gpr) ?_ | ((repeat ((fail_if_success (refine hK _ _ ?_)); clear hK)); refine hK _ _ ?_; clear hK))
    refine awp_loop0 (ι := { j : Nat // j ≤ ((wordsT asked21).getD (IntKind.i64.wrap (IntKind.u64.wrap n % IntKind.u64.wrap ((wordsT asked21).length : Int))).toNat default).length }) (fun j => [(7, sl txtE 1 (wordsT asked21) .view), (8, .func (.func 15) [] []), (9, .int .i64 (IntKind.i64.wrap (IntKind.u64.wrap n % IntKind.u64.wrap ((wordsT asked21).length : Int)))), (71, .int .i64 ((wordsT asked21).getD (IntKind.i64.wrap (IntKind.u64.wrap n % IntKind.u64.wrap ((wordsT asked21).length : Int))).toNat default).length), (72, .int .i64 j.1)]) (fun _ => []) (fun j => ((wordsT asked21).getD (IntKind.i64.wrap (IntKind.u64.wrap n % IntKind.u64.wrap ((wordsT asked21).length : Int))).toNat default).length - j.1) ⟨0, Nat.zero_le _⟩ (by (repeat (first | exact True.intro | refine ⟨⟨_, rfl, Sub.refl _⟩, ?_⟩ | refine ⟨⟨_, rfl, Sub.nilso _ _⟩, ?_⟩ | refine ⟨⟨_, rfl, sl_tail _ _ _ _ _⟩, ?_⟩ | refine ⟨⟨_, rfl, Sub.of_eq (by first | rfl | (congr 1; first | omega | (simp only; omega)) | (simp; done) | (simp; omega))⟩, ?_⟩ | refine ⟨⟨_, rfl, Sub.view _ _ _ _⟩, ?_⟩))) ⟨0, rfl⟩ ?_
    rintro ⟨j, hj⟩
    simp only at hj ⊢
    by_cases hlj : j < ((wordsT asked21).getD (IntKind.i64.wrap (IntKind.u64.wrap n % IntKind.u64.wrap ((wordsT asked21).length : Int))).toNat default).length
    · have hlj' : (j : Int) < (((wordsT asked21).getD (IntKind.i64.wrap (IntKind.u64.wrap n % IntKind.u64.wrap ((wordsT asked21).length : Int))).toNat default).length : Int) := by omega
      obtain ⟨c1, c2⟩ := w3' (((wordsT asked21).getD (IntKind.i64.wrap (IntKind.u64.wrap n % IntKind.u64.wrap ((wordsT asked21).length : Int))).toNat default).getD ((j : Int)).toNat 0) (getD_mem0 hlj)
      have c1' : (97 : Int) ≤ ((((wordsT asked21).getD (IntKind.i64.wrap (IntKind.u64.wrap n % IntKind.u64.wrap ((wordsT asked21).length : Int))).toNat default).getD ((j : Int)).toNat 0).toNat : Int) := by omega
      have c2' : ((((wordsT asked21).getD (IntKind.i64.wrap (IntKind.u64.wrap n % IntKind.u64.wrap ((wordsT asked21).length : Int))).toNat default).getD ((j : Int)).toNat 0).toNat : Int) ≤ 122 := by omega
      repeat (first | refine wKB ?_ | refine awp_seq_k (fun K hK => ?_) | refine areg_text mixed tyok (by decide +kernel) ?_ | refine qal tyok (fun bx => ?_) | refine qbox (fun bx => ?_) | refine qboxV (fun bx => ?_) | ((repeat ((fail_if_success (refine hK _ _ ?_)); clear hK)); refine hK _ _ ?_; clear hK))
      refine ⟨⟨j + 1, hlj⟩, (by (repeat (first | exact True.intro | refine ⟨⟨_, rfl, Sub.refl _⟩, ?_⟩ | refine ⟨⟨_, rfl, Sub.nilso _ _⟩, ?_⟩ | refine ⟨⟨_, rfl, sl_tail _ _ _ _ _⟩, ?_⟩ | refine ⟨⟨_, rfl, Sub.of_eq (by first | rfl | (congr 1; first | omega | (simp only; omega)) | (simp; done) | (simp; omega))⟩, ?_⟩ | refine ⟨⟨_, rfl, Sub.view _ _ _ _⟩, ?_⟩))), ⟨0, rfl⟩, by simp only; omega⟩
    · have hgj : ¬ (j : Int) < (((wordsT asked21).getD (IntKind.i64.wrap (IntKind.u64.wrap n % IntKind.u64.wrap ((wordsT asked21).length : Int))).toNat default).length : Int) := by omega
      have hx1 : (({ data := #[120] } : ByteArray).data.toList).length = 1 := rfl
      repeat (first | refine wKB ?_ | refine awp_seq_k (fun K hK => ?_) | refine areg_text mixed tyok (by decide +kernel) ?_ | refine qal tyok (fun bx => ?_) | refine qbox (fun bx => ?_) | refine qboxV (fun bx => ?_) | refine TR.pcall rfl rfl rfl rfl True.intro rfl rfl (hcall) ?_ | refine TR.pcall rfl rfl rfl rfl True.intro rfl rfl (hcallx) ?_ | refine TR.pcall rfl rfl rfl rfl True.intro rfl rfl (kn) ?_ | refine pco rfl rfl rfl rfl rfl rfl rfl rfl (fun _ => hcall) ?_ | refine pco rfl rfl rfl rfl rfl rfl rfl rfl (fun _ => hcallx) ?_ | refine pco rfl rfl rfl rfl rfl rfl rfl rfl (fun _ => kn) ?_ | ((repeat ((fail_if_success (refine hK _ _ ?_)); clear hK)); refine hK _ _ ?_; clear hK))
      refine r1 ?_
      exact Sub.refl _

end Go.Proofs.YtpodjhapjcncdaaDoor
