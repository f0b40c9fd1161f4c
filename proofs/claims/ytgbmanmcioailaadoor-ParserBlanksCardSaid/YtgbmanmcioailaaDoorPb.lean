/-
  ParserBlanks returns true.
-/
import Derived.Test.YtgbmanmcioailaaDoorBl
import Derived.Test.YtgbmanmcioailaaDoorLj
import Derived.Test.YtgbmanmcioailaaDoorPf
namespace Go.Proofs.YtgbmanmcioailaaDoor
open Go.Ab

theorem blCat_app : ∀ (r r' : List (List TokR)), blCat (r ++ r') = blCat r ++ blCat r'
  | [], _ => rfl
  | l :: r, r' => by simp only [List.cons_append, blCat, blCat_app r r', List.append_assoc]

theorem blCat_one (l : List TokR) : blCat [l] = blLine l := by simp [blCat]

theorem blCat_take : ∀ (r : List (List TokR)) (i : Nat), (blCat (r.take i)).length ≤ (blCat r).length
  | [], i => by simp
  | l :: r, 0 => by simp [blCat]
  | l :: r, i + 1 => by
    have := blCat_take r i
    simp only [List.take_succ_cons, blCat, List.length_append]
    omega

theorem cbPb : Callable Tryd.prog 14 := fun _ _ => by kernel_rfl
set_option maxHeartbeats 3200000 in
set_option maxRecDepth 100000 in
theorem parserBlanks_c (s : List UInt8) : PCalls Tryd.prog 14 [.str s] (.bool true) := by
  refine pcalls_of_awp tyok cbPb Tryd.func14 rfl rfl ?_
  by_cases hs : s.length > 3000
  · have hs' : (s.length : Int) > 3000 := by omega
    repeat (first | refine wKB ?_ | refine awp_seq_k (fun K hK => ?_) | refine areg_text mixed tyok (by decide +kernel) ?_ | refine qal tyok (fun bx => ?_) | refine qbox (fun bx => ?_) | refine qboxV (fun bx => ?_) | refine TR.pcall rfl rfl rfl rfl True.intro rfl rfl (known20_c) ?_ | refine pco rfl rfl rfl rfl rfl rfl rfl rfl (fun _ => known20_c) ?_ | ((repeat ((fail_if_success (refine hK _ _ ?_)); clear hK)); refine hK _ _ ?_; clear hK))
    refine r1 ?_
    exact Sub.refl _
  have hs' : ¬ (s.length : Int) > 3000 := by omega
  have hsl : ¬ s.length > 65536 := by omega
  have g1 := rlines_c s (by omega)
  cases hf : linesF s with
  | inl p =>
    obtain ⟨l, c⟩ := p
    rw [linesR_inl hsl hf] at g1
    repeat (first | refine wKB ?_ | refine awp_seq_k (fun K hK => ?_) | refine areg_text mixed tyok (by decide +kernel) ?_ | refine qal tyok (fun bx => ?_) | refine qbox (fun bx => ?_) | refine qboxV (fun bx => ?_) | refine TR.pcall rfl rfl rfl rfl True.intro rfl rfl (g1) ?_ | refine TR.pcall rfl rfl rfl rfl True.intro rfl rfl (known20_c) ?_ | refine pco rfl rfl rfl rfl rfl rfl rfl rfl (fun _ => g1) ?_ | refine pco rfl rfl rfl rfl rfl rfl rfl rfl (fun _ => known20_c) ?_ | ((repeat ((fail_if_success (refine hK _ _ ?_)); clear hK)); refine hK _ _ ?_; clear hK))
    refine r1 ?_
    exact Sub.refl _
  | inr r =>
    rw [linesR_inr hsl hf] at g1
    repeat (first | refine wKB ?_ | refine awp_seq_k (fun K hK => ?_) | refine areg_text mixed tyok (by decide +kernel) ?_ | refine qal tyok (fun bx => ?_) | refine qbox (fun bx => ?_) | refine qboxV (fun bx => ?_) | refine TR.pcall rfl rfl rfl rfl True.intro rfl rfl (g1) ?_ | refine TR.pcall rfl rfl rfl rfl True.intro rfl rfl (known20_c) ?_ | refine pco rfl rfl rfl rfl rfl rfl rfl rfl (fun _ => g1) ?_ | refine pco rfl rfl rfl rfl rfl rfl rfl rfl (fun _ => known20_c) ?_ | ((repeat ((fail_if_success (refine hK _ _ ?_)); clear hK)); refine hK _ _ ?_; clear hK))
    have hrl := (linesG_len _ _ _ s.length (fun p hp => splitC_piece 10 s p hp) hf)
    have hrc := splitC_count 10 s
    have hrn : r.length ≤ 100000 := by omega
    have hgood := linesF_good hf
    have hcnt := told_len hf
    have htl := blText_len hf
    simp only [List.length_append] at htl
    refine awp_loop0 (ι := { x : Nat // x ≤ r.length })
      (fun x => [(0, .str s), (3, linesV r), (6, .str (blHead ++ blCat (r.take x.1))), (30, linesV r), (31, .int .i64 r.length), (32, .int .i64 x.1)])
      (fun _ => []) (fun x => r.length - x.1) ⟨0, Nat.zero_le _⟩ ?_ ⟨1, rfl⟩ ?_
    · (repeat (first | exact True.intro | refine ⟨⟨_, rfl, Sub.refl _⟩, ?_⟩ | refine ⟨⟨_, rfl, Sub.nilso _ _⟩, ?_⟩ | refine ⟨⟨_, rfl, sl_tail _ _ _ _ _⟩, ?_⟩ | refine ⟨⟨_, rfl, Sub.of_eq (by first | rfl | (congr 1; first | omega | (simp only; omega)) | (simp; done) | (simp; omega))⟩, ?_⟩ | refine ⟨⟨_, rfl, Sub.view _ _ _ _⟩, ?_⟩))
    rintro ⟨i, hi⟩
    simp only at hi ⊢
    repeat (first | refine wK ?_ | refine awp_seq_k (fun K hK => ?_) | refine areg_text mixed tyok (by decide +kernel) ?_ | refine qal tyok (fun bx => ?_) | refine qbox (fun bx => ?_) | refine qboxV (fun bx => ?_) | ((repeat ((fail_if_success (refine hK _ _ ?_)); clear hK)); refine hK _ _ ?_; clear hK))
    refine awp_cond rfl (fun hb => ?_) (fun hb => ?_)
    · have hlt : i < r.length := by simpa using hb
      have hmem : r.getD i default ∈ r := by rw [getD_def hlt]; exact List.getElem_mem _
      have hll : (r.getD i default).length ≤ 100000 := by have := hrl.2 _ hmem; omega
      have htk := blCat_take r i
      repeat (first | refine wK ?_ | refine awp_seq_k (fun K hK => ?_) | refine areg_text mixed tyok (by decide +kernel) ?_ | refine qal tyok (fun bx => ?_) | refine qbox (fun bx => ?_) | refine qboxV (fun bx => ?_) | ((repeat ((fail_if_success (refine hK _ _ ?_)); clear hK)); refine hK _ _ ?_; clear hK))
      refine awp_tok0 1 9 ?_
      refine awp_loopP (ι := { y : Nat × List (List UInt8) × Option Addr × Nat // y.1 ≤ (r.getD i default).length ∧ y.2.1 = ((r.getD i default).take y.1).map (·.w) })
        (fun y => [(0, .str s), (3, linesV r), (6, .str (blHead ++ blCat (r.take i))), (30, linesV r), (31, .int .i64 r.length), (32, .int .i64 i),
          (9, sl strE 1 y.1.2.1 (.own y.1.2.2.1 y.1.2.2.2)), (36, toksV (r.getD i default)), (37, .int .i64 (r.getD i default).length), (38, .int .i64 y.1.1)])
        (fun y => [.tok y.1.2.2.1 y.1.2.2.2 y.1.2.1.length 1 9]) (fun y => (r.getD i default).length - y.1.1) ⟨(0, [], none, 0), Nat.zero_le _, rfl⟩ ?_ ⟨[], List.Perm.refl _⟩ ?_
      · (repeat (first | exact True.intro | refine ⟨⟨_, rfl, Sub.refl _⟩, ?_⟩ | refine ⟨⟨_, rfl, Sub.nilso _ _⟩, ?_⟩ | refine ⟨⟨_, rfl, sl_tail _ _ _ _ _⟩, ?_⟩ | refine ⟨⟨_, rfl, Sub.of_eq (by first | rfl | (congr 1; first | omega | (simp only; omega)) | (simp; done) | (simp; omega))⟩, ?_⟩ | refine ⟨⟨_, rfl, Sub.view _ _ _ _⟩, ?_⟩))
      rintro ⟨⟨k, xs, a2, c2⟩, hk, hxs⟩
      simp only at hk hxs ⊢
      have hxl : xs.length = k := by rw [hxs, List.length_map, List.length_take]; omega
      repeat (first | refine wK ?_ | refine awp_seq_k (fun K hK => ?_) | refine areg_text mixed tyok (by decide +kernel) ?_ | refine qal tyok (fun bx => ?_) | refine qbox (fun bx => ?_) | refine qboxV (fun bx => ?_) | ((repeat ((fail_if_success (refine hK _ _ ?_)); clear hK)); refine hK _ _ ?_; clear hK))
      refine awp_cond rfl (fun hb2 => ?_) (fun hb2 => ?_)
      · have hlk : k < (r.getD i default).length := by simpa using hb2
        repeat (first | refine wK ?_ | refine awp_seq_k (fun K hK => ?_) | refine areg_text mixed tyok (by decide +kernel) ?_ | refine qal tyok (fun bx => ?_) | refine qbox (fun bx => ?_) | refine qboxV (fun bx => ?_) | ((repeat ((fail_if_success (refine hK _ _ ?_)); clear hK)); refine hK _ _ ?_; clear hK))
        refine qapp tyok strE xs ((r.getD i default).getD k default).w (SubL.refl _) ?_ fun ad cp => ?_
        · simp only
          omega
        repeat (first | refine wK ?_ | refine awp_seq_k (fun K hK => ?_) | refine areg_text mixed tyok (by decide +kernel) ?_ | refine qal tyok (fun bx => ?_) | refine qbox (fun bx => ?_) | refine qboxV (fun bx => ?_) | ((repeat ((fail_if_success (refine hK _ _ ?_)); clear hK)); refine hK _ _ ?_; clear hK))
        refine ⟨⟨(k + 1, xs ++ [((r.getD i default).getD k default).w], ad, cp), hlk, ?_⟩, ?_, ⟨[_], List.Perm.refl _⟩, ?_⟩
        · show xs ++ [((r.getD i default).getD k default).w] = ((r.getD i default).take (k + 1)).map (·.w)
          rw [hxs, List.take_succ_eq_append_getElem hlk, List.map_append, getD_def hlk]
          rfl
        · (repeat (first | exact True.intro | refine ⟨⟨_, rfl, Sub.refl _⟩, ?_⟩ | refine ⟨⟨_, rfl, Sub.nilso _ _⟩, ?_⟩ | refine ⟨⟨_, rfl, sl_tail _ _ _ _ _⟩, ?_⟩ | refine ⟨⟨_, rfl, Sub.of_eq (by first | rfl | (congr 1; first | omega | (simp only; omega)) | (simp; done) | (simp; omega))⟩, ?_⟩ | refine ⟨⟨_, rfl, Sub.view _ _ _ _⟩, ?_⟩))
        · simp only; omega
      · have hke : k = (r.getD i default).length := by
          have : ¬ k < (r.getD i default).length := by simpa using hb2
          omega
        subst hke
        rw [List.take_length] at hxs
        subst hxs
        have hjl : (Lib.join ((r.getD i default).map (·.w)) bl3).length ≤ 1000000 := by
          have h1 := cnt_mem (List.mem_map_of_mem (f := wordT) hmem)
          have h2 := join3_len ((r.getD i default).map (·.w))
          have h3 := (join_cnt 32 ((r.getD i default).map (·.w))).2 (by simpa using (hgood _ hmem).1)
          have h4 : (wordT (r.getD i default)).length = (Lib.join ((r.getD i default).map (·.w)) [32]).length := rfl
          omega
        have gj := fun o => join_c ((r.getD i default).map (·.w)) [32, 32, 32] o (by rw [List.length_map]; omega) (by simp only [bl3] at hjl; omega)
        have hjl2 : (Lib.join ((r.getD i default).map (·.w)) [32, 32, 32]).length ≤ 1000000 := hjl
        have hjl3 := hjl2
        simp at hjl3
        repeat (first | refine wK ?_ | refine awp_seq_k (fun K hK => ?_) | refine areg_text mixed tyok (by decide +kernel) ?_ | refine qal tyok (fun bx => ?_) | refine qbox (fun bx => ?_) | refine qboxV (fun bx => ?_) | refine TR.pcall rfl rfl rfl rfl True.intro rfl rfl (gj _) ?_ | refine pco rfl rfl rfl rfl rfl rfl rfl rfl (fun _ => gj _) ?_ | ((repeat ((fail_if_success (refine hK _ _ ?_)); clear hK)); refine hK _ _ ?_; clear hK))
        refine ⟨⟨i + 1, hlt⟩, ?_, ⟨1, rfl⟩, ?_⟩
        · refine ⟨⟨_, rfl, Sub.refl _⟩, ⟨_, rfl, Sub.refl _⟩, ⟨_, rfl, Sub.of_eq ?_⟩, ⟨_, rfl, Sub.refl _⟩, ⟨_, rfl, Sub.refl _⟩, ⟨_, rfl, Sub.of_eq (by simp)⟩, trivial⟩
          rw [List.take_succ_eq_append_getElem hlt, blCat_app, blCat_one, getD_def hlt]
          simp [blLine, bl3]
        · simp only; omega
    · have hie : i = r.length := by
        have : ¬ i < r.length := by simpa using hb
        omega
      subst hie
      rw [List.take_length]
      obtain ⟨r', hr1, hr2⟩ := blText_lines hf
      have hsim := parse_sim hf hr1 hr2.symm
      have hpl : (blHead ++ blCat r).length ≤ 65536 := by simp only [List.length_append]; omega
      have g2 := parse_c s (by omega)
      have g3 := parse_c (blHead ++ blCat r) (by omega)
      cases h1 : parseF s with
      | inl p =>
        cases h2 : parseF (blHead ++ blCat r) with
        | inl q =>
          rw [parseR_inl (by omega) h1] at g2
          rw [parseR_inl hpl h2] at g3
          have f1 := sameL_c [] [] true (by simp) (by simp) (sameL_refl [] true)
          repeat (first | refine wKB ?_ | refine awp_seq_k (fun K hK => ?_) | refine areg_text mixed tyok (by decide +kernel) ?_ | refine qal tyok (fun bx => ?_) | refine qbox (fun bx => ?_) | refine qboxV (fun bx => ?_) | refine TR.pcall rfl rfl rfl rfl True.intro rfl rfl (known20_c) ?_ | refine TR.pcall rfl rfl rfl rfl True.intro rfl rfl (g2) ?_ | refine TR.pcall rfl rfl rfl rfl True.intro rfl rfl (g3) ?_ | refine TR.pcall rfl rfl rfl rfl True.intro rfl rfl (f1) ?_ | refine pco rfl rfl rfl rfl rfl rfl rfl rfl (fun _ => known20_c) ?_ | refine pco rfl rfl rfl rfl rfl rfl rfl rfl (fun _ => g2) ?_ | refine pco rfl rfl rfl rfl rfl rfl rfl rfl (fun _ => g3) ?_ | refine pco rfl rfl rfl rfl rfl rfl rfl rfl (fun _ => f1) ?_ | ((repeat ((fail_if_success (refine hK _ _ ?_)); clear hK)); refine hK _ _ ?_; clear hK))
          refine r1 ?_
          exact Sub.refl _
        | inr b => rw [h1, h2] at hsim; exact hsim.elim
      | inr a =>
        cases h2 : parseF (blHead ++ blCat r) with
        | inl q => rw [h1, h2] at hsim; exact hsim.elim
        | inr b =>
          rw [h1, h2] at hsim
          rw [parseR_inr (by omega) h1] at g2
          rw [parseR_inr hpl h2] at g3
          obtain ⟨ha1, ha2⟩ := parseG_bound h1
          have f1 := sameL_c a b true (by omega) (fun x hx => by have := ha2 x hx; omega) hsim
          repeat (first | refine wKB ?_ | refine awp_seq_k (fun K hK => ?_) | refine areg_text mixed tyok (by decide +kernel) ?_ | refine qal tyok (fun bx => ?_) | refine qbox (fun bx => ?_) | refine qboxV (fun bx => ?_) | refine TR.pcall rfl rfl rfl rfl True.intro rfl rfl (known20_c) ?_ | refine TR.pcall rfl rfl rfl rfl True.intro rfl rfl (g2) ?_ | refine TR.pcall rfl rfl rfl rfl True.intro rfl rfl (g3) ?_ | refine TR.pcall rfl rfl rfl rfl True.intro rfl rfl (f1) ?_ | refine pco rfl rfl rfl rfl rfl rfl rfl rfl (fun _ => known20_c) ?_ | refine pco rfl rfl rfl rfl rfl rfl rfl rfl (fun _ => g2) ?_ | refine pco rfl rfl rfl rfl rfl rfl rfl rfl (fun _ => g3) ?_ | refine pco rfl rfl rfl rfl rfl rfl rfl rfl (fun _ => f1) ?_ | ((repeat ((fail_if_success (refine hK _ _ ?_)); clear hK)); refine hK _ _ ?_; clear hK))
          refine r1 ?_
          exact Sub.refl _

end Go.Proofs.YtgbmanmcioailaaDoor
