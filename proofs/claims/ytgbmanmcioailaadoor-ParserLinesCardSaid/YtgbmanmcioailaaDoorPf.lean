/-
  ParserFirst returns true.
-/
import Derived.Test.YtgbmanmcioailaaDoorJn
import Derived.Test.YtgbmanmcioailaaDoorCa
namespace Go.Proofs.YtgbmanmcioailaaDoor
open Go.Ab

theorem parseR_inl {s : List UInt8} {p : Nat × Nat} (hs : s.length ≤ 65536) (h : parseF s = .inl p) : parseR s = .tuple [stmtsV [], placeV p.1 p.2, .int .i64 4] := by
  unfold parseR
  rw [if_neg (by omega), h]
theorem parseR_inr {s : List UInt8} {r : List StR} (hs : s.length ≤ 65536) (h : parseF s = .inr r) : parseR s = .tuple [stmtsV r, placeV 0 0, .int .i64 0] := by
  unfold parseR
  rw [if_neg (by omega), h]

theorem cbPf : Callable Tryd.prog 11 := fun _ _ => by kernel_rfl
set_option maxHeartbeats 3200000 in
set_option maxRecDepth 100000 in
theorem parserFirst_c (s t : List UInt8) : PCalls Tryd.prog 11 [.str s, .str t] (.bool true) := by
  refine pcalls_of_awp tyok cbPf Tryd.func11 rfl rfl ?_
  by_cases hs : s.length > 2000
  · have hs' : (s.length : Int) > 2000 := by omega
    repeat (first | refine wKB ?_ | refine awp_seq_k (fun K hK => ?_) | refine areg_text mixed tyok (by decide +kernel) ?_ | refine qal tyok (fun bx => ?_) | refine qbox (fun bx => ?_) | refine qboxV (fun bx => ?_) | refine TR.pcall rfl rfl rfl rfl True.intro rfl rfl (known20_c) ?_ | refine pco rfl rfl rfl rfl rfl rfl rfl rfl (fun _ => known20_c) ?_ | ((repeat ((fail_if_success (refine hK _ _ ?_)); clear hK)); refine hK _ _ ?_; clear hK))
    refine r1 ?_
    exact Sub.refl _
  have hs' : ¬ (s.length : Int) > 2000 := by omega
  by_cases ht : t.length > 2000
  · have ht' : (t.length : Int) > 2000 := by omega
    repeat (first | refine wKB ?_ | refine awp_seq_k (fun K hK => ?_) | refine areg_text mixed tyok (by decide +kernel) ?_ | refine qal tyok (fun bx => ?_) | refine qbox (fun bx => ?_) | refine qboxV (fun bx => ?_) | refine TR.pcall rfl rfl rfl rfl True.intro rfl rfl (known20_c) ?_ | refine pco rfl rfl rfl rfl rfl rfl rfl rfl (fun _ => known20_c) ?_ | ((repeat ((fail_if_success (refine hK _ _ ?_)); clear hK)); refine hK _ _ ?_; clear hK))
    refine r1 ?_
    exact Sub.refl _
  have ht' : ¬ (t.length : Int) > 2000 := by omega
  have g1 := parse_c s (by omega)
  have g2 := parse_c t (by omega)
  have g3 := parse_c (s ++ [10] ++ t) (by simp; omega)
  have ej : s ++ [10] ++ t = s ++ 10 :: t := by simp
  have hjl : (s ++ [10] ++ t).length ≤ 65536 := by simp; omega
  cases h1 : parseF s with
  | inl p =>
    rw [parseR_inl (by omega) h1] at g1
    cases h2 : parseF t with
    | inl q =>
      obtain ⟨p', h3⟩ := join_second (s := s) h2
      rw [parseR_inl (by omega) h2] at g2
      rw [parseR_inl hjl (ej ▸ h3)] at g3
      repeat (first | refine wKB ?_ | refine awp_seq_k (fun K hK => ?_) | refine areg_text mixed tyok (by decide +kernel) ?_ | refine qal tyok (fun bx => ?_) | refine qbox (fun bx => ?_) | refine qboxV (fun bx => ?_) | refine TR.pcall rfl rfl rfl rfl True.intro rfl rfl (known20_c) ?_ | refine TR.pcall rfl rfl rfl rfl True.intro rfl rfl (g1) ?_ | refine TR.pcall rfl rfl rfl rfl True.intro rfl rfl (g2) ?_ | refine TR.pcall rfl rfl rfl rfl True.intro rfl rfl (g3) ?_ | refine pco rfl rfl rfl rfl rfl rfl rfl rfl (fun _ => known20_c) ?_ | refine pco rfl rfl rfl rfl rfl rfl rfl rfl (fun _ => g1) ?_ | refine pco rfl rfl rfl rfl rfl rfl rfl rfl (fun _ => g2) ?_ | refine pco rfl rfl rfl rfl rfl rfl rfl rfl (fun _ => g3) ?_ | ((repeat ((fail_if_success (refine hK _ _ ?_)); clear hK)); refine hK _ _ ?_; clear hK))
      refine r1 ?_
      exact Sub.refl _
    | inr b =>
      have h3 := join_first h1 h2
      rw [parseR_inr (by omega) h2] at g2
      rw [parseR_inl hjl (ej ▸ h3)] at g3
      repeat (first | refine wKB ?_ | refine awp_seq_k (fun K hK => ?_) | refine areg_text mixed tyok (by decide +kernel) ?_ | refine qal tyok (fun bx => ?_) | refine qbox (fun bx => ?_) | refine qboxV (fun bx => ?_) | refine TR.pcall rfl rfl rfl rfl True.intro rfl rfl (known20_c) ?_ | refine TR.pcall rfl rfl rfl rfl True.intro rfl rfl (g1) ?_ | refine TR.pcall rfl rfl rfl rfl True.intro rfl rfl (g2) ?_ | refine TR.pcall rfl rfl rfl rfl True.intro rfl rfl (g3) ?_ | refine pco rfl rfl rfl rfl rfl rfl rfl rfl (fun _ => known20_c) ?_ | refine pco rfl rfl rfl rfl rfl rfl rfl rfl (fun _ => g1) ?_ | refine pco rfl rfl rfl rfl rfl rfl rfl rfl (fun _ => g2) ?_ | refine pco rfl rfl rfl rfl rfl rfl rfl rfl (fun _ => g3) ?_ | ((repeat ((fail_if_success (refine hK _ _ ?_)); clear hK)); refine hK _ _ ?_; clear hK))
      refine r1 ?_
      exact Sub.of_eq (by simp)
  | inr a =>
    rw [parseR_inr (by omega) h1] at g1
    cases h2 : parseF t with
    | inl q =>
      obtain ⟨p', h3⟩ := join_second (s := s) h2
      rw [parseR_inl (by omega) h2] at g2
      rw [parseR_inl hjl (ej ▸ h3)] at g3
      repeat (first | refine wKB ?_ | refine awp_seq_k (fun K hK => ?_) | refine areg_text mixed tyok (by decide +kernel) ?_ | refine qal tyok (fun bx => ?_) | refine qbox (fun bx => ?_) | refine qboxV (fun bx => ?_) | refine TR.pcall rfl rfl rfl rfl True.intro rfl rfl (known20_c) ?_ | refine TR.pcall rfl rfl rfl rfl True.intro rfl rfl (g1) ?_ | refine TR.pcall rfl rfl rfl rfl True.intro rfl rfl (g2) ?_ | refine TR.pcall rfl rfl rfl rfl True.intro rfl rfl (g3) ?_ | refine pco rfl rfl rfl rfl rfl rfl rfl rfl (fun _ => known20_c) ?_ | refine pco rfl rfl rfl rfl rfl rfl rfl rfl (fun _ => g1) ?_ | refine pco rfl rfl rfl rfl rfl rfl rfl rfl (fun _ => g2) ?_ | refine pco rfl rfl rfl rfl rfl rfl rfl rfl (fun _ => g3) ?_ | ((repeat ((fail_if_success (refine hK _ _ ?_)); clear hK)); refine hK _ _ ?_; clear hK))
      refine r1 ?_
      exact Sub.refl _
    | inr b =>
      obtain ⟨b', h3, h4⟩ := join_ok h1 h2
      have hbl : b'.length = b.length := by
        simp only [sameL, Bool.and_eq_true, beq_iff_eq] at h4
        exact h4.1
      have hcl : (a ++ b').length = a.length + b'.length := List.length_append
      rw [parseR_inr (by omega) h2] at g2
      rw [parseR_inr hjl (ej ▸ h3)] at g3
      obtain ⟨ha1, ha2⟩ := parseG_bound h1
      obtain ⟨hb1, hb2⟩ := parseG_bound h2
      have hba : ∀ x ∈ b', x.args.length ≤ 1000000000000 := fun x hx => by
        obtain ⟨i, hi, rfl⟩ := List.getElem_of_mem hx
        simp only [sameL, Bool.and_eq_true, beq_iff_eq, List.all_eq_true, List.mem_range] at h4
        have h5 := h4.2 i hi
        simp only [sameS, Bool.and_eq_true, beq_iff_eq] at h5
        have h6 := h5.1.1.2
        have hib : i < b.length := by omega
        rw [List.getD_eq_getElem?_getD, List.getElem?_eq_getElem hi, List.getD_eq_getElem?_getD, List.getElem?_eq_getElem hib] at h6
        have h7 := hb2 _ (List.getElem_mem hib)
        simp only [Option.getD_some] at h6
        omega
      have e1 : (if ((a ++ b').length : Int) < (a.length : Int) then ((a ++ b').length : Int) else (a.length : Int)).toNat = a.length := by
        rw [if_neg (by omega)]
        rfl
      have f1 : PCalls Tryd.prog 39 [.slice 16 (if ((a ++ b').length : Int) < (a.length : Int) then ((a ++ b').length : Int) else (a.length : Int)).toNat (fun i => stmtE ((a ++ b').getD i default)) .view, stmtsV a, .bool false] (.bool true) := by
        refine PCalls.sub (sameL_c a a false (by omega) (fun x hx => by have := ha2 x hx; omega) (sameL_refl a false)) (.cons ?_ (SubL.refl _))
        rw [e1]
        refine Sub.el fun i hi => ?_
        simp only [List.getD_eq_getElem?_getD, List.getElem?_append_left hi]
      have f2 : PCalls Tryd.prog 39 [.slice 16 ((a ++ b').length - ((a.length : Int)).toNat) (fun i => stmtE ((a ++ b').getD (((a.length : Int)).toNat + i) default)) .view, stmtsV b, .bool true] (.bool true) := by
        refine PCalls.sub (sameL_c b' b true (by omega) hba h4) (.cons ?_ (SubL.refl _))
        have e2 : (a ++ b').length - ((a.length : Int)).toNat = b'.length := by omega
        rw [e2]
        refine Sub.el fun i hi => ?_
        have e3 : ((a.length : Int)).toNat = a.length := rfl
        simp only [e3, List.getD_eq_getElem?_getD, List.getElem?_append_right (Nat.le_add_right a.length i), Nat.add_sub_cancel_left]
      repeat (first | refine wKB ?_ | refine awp_seq_k (fun K hK => ?_) | refine areg_text mixed tyok (by decide +kernel) ?_ | refine qal tyok (fun bx => ?_) | refine qbox (fun bx => ?_) | refine qboxV (fun bx => ?_) | refine TR.pcall rfl rfl rfl rfl True.intro rfl rfl (known20_c) ?_ | refine TR.pcall rfl rfl rfl rfl True.intro rfl rfl (g1) ?_ | refine TR.pcall rfl rfl rfl rfl True.intro rfl rfl (g2) ?_ | refine TR.pcall rfl rfl rfl rfl True.intro rfl rfl (g3) ?_ | refine TR.pcall rfl rfl rfl rfl True.intro rfl rfl (f1) ?_ | refine TR.pcall rfl rfl rfl rfl True.intro rfl rfl (f2) ?_ | refine pco rfl rfl rfl rfl rfl rfl rfl rfl (fun _ => known20_c) ?_ | refine pco rfl rfl rfl rfl rfl rfl rfl rfl (fun _ => g1) ?_ | refine pco rfl rfl rfl rfl rfl rfl rfl rfl (fun _ => g2) ?_ | refine pco rfl rfl rfl rfl rfl rfl rfl rfl (fun _ => g3) ?_ | refine pco rfl rfl rfl rfl rfl rfl rfl rfl (fun _ => f1) ?_ | refine pco rfl rfl rfl rfl rfl rfl rfl rfl (fun _ => f2) ?_ | ((repeat ((fail_if_success (refine hK _ _ ?_)); clear hK)); refine hK _ _ ?_; clear hK))
      refine r1 ?_
      exact Sub.refl _

end Go.Proofs.YtgbmanmcioailaaDoor
