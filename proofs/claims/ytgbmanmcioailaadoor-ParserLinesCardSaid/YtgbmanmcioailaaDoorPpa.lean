/-
  ParserParses returns true.
-/
import Derived.Test.YtgbmanmcioailaaDoorRp5
import Derived.Test.YtgbmanmcioailaaDoorRp4
import Derived.Test.YtgbmanmcioailaaDoorLk
namespace Go.Proofs.YtgbmanmcioailaaDoor
open Go.Ab

theorem sameT_refl (a : TokR) (bare : Bool) : sameT a a bare = true := by simp [sameT]
theorem sameS_refl (a : StR) (bare : Bool) : sameS a a bare = true := by
  simp [sameS, sameA, sameT_refl]
theorem sameL_refl (a : List StR) (bare : Bool) : sameL a a bare = true := by
  simp [sameL, sameS_refl]

theorem tok_mode : tokF [109, 111, 100, 101] = some (2, 0) := by rw [tokF_eq]; kernel_rfl

theorem lines_k1 : linesF [77, 32, 61, 32, 109, 105, 100, 112, 111, 105, 110, 116, 32, 65, 32, 66] = .inr [[⟨1, [77], 0, 1, 1⟩, ⟨4, [61], 0, 1, 3⟩, ⟨2, [109, 105, 100, 112, 111, 105, 110, 116], 0, 1, 5⟩, ⟨1, [65], 0, 1, 14⟩, ⟨1, [66], 0, 1, 16⟩]] := by
  unfold linesF
  rw [show splitC 10 [77, 32, 61, 32, 109, 105, 100, 112, 111, 105, 110, 116, 32, 65, 32, 66] = [[77, 32, 61, 32, 109, 105, 100, 112, 111, 105, 110, 116, 32, 65, 32, 66]] by kernel_rfl]
  simp only [linesG]
  rw [show wordsF [77, 32, 61, 32, 109, 105, 100, 112, 111, 105, 110, 116, 32, 65, 32, 66] = [(1, [77]), (3, [61]), (5, [109, 105, 100, 112, 111, 105, 110, 116]), (14, [65]), (16, [66])] by kernel_rfl]
  simp only [toksF, tok_M, tok_eq, tok_mid, tok_A, tok_B]
  rfl

theorem lines_k2 : linesF [77, 32, 109, 105, 100, 112, 111, 105, 110, 116] = .inr [[⟨1, [77], 0, 1, 1⟩, ⟨2, [109, 105, 100, 112, 111, 105, 110, 116], 0, 1, 3⟩]] := by
  unfold linesF
  rw [show splitC 10 [77, 32, 109, 105, 100, 112, 111, 105, 110, 116] = [[77, 32, 109, 105, 100, 112, 111, 105, 110, 116]] by kernel_rfl]
  simp only [linesG]
  rw [show wordsF [77, 32, 109, 105, 100, 112, 111, 105, 110, 116] = [(1, [77]), (3, [109, 105, 100, 112, 111, 105, 110, 116])] by kernel_rfl]
  simp only [toksF, tok_M, tok_mid]
  rfl

theorem lines_k3 : linesF [109, 111, 100, 101] = .inr [[⟨2, [109, 111, 100, 101], 0, 1, 1⟩]] := by
  unfold linesF
  rw [show splitC 10 [109, 111, 100, 101] = [[109, 111, 100, 101]] by kernel_rfl]
  simp only [linesG]
  rw [show wordsF [109, 111, 100, 101] = [(1, [109, 111, 100, 101])] by kernel_rfl]
  simp only [toksF, tok_mode]
  rfl

theorem parse_k1 : parseR [77, 32, 61, 32, 109, 105, 100, 112, 111, 105, 110, 116, 32, 65, 32, 66] = .tuple [stmtsV [⟨4, ⟨1, [77], 0, 1, 1⟩, ⟨2, [109, 105, 100, 112, 111, 105, 110, 116], 0, 1, 5⟩, [⟨1, [65], 0, 1, 14⟩, ⟨1, [66], 0, 1, 16⟩], (1, 1), (1, 17)⟩], placeV 0 0, .int .i64 0] := by
  unfold parseR parseF
  rw [if_neg (by decide), lines_k1]
  rfl

theorem parse_k2 : parseR [77, 32, 109, 105, 100, 112, 111, 105, 110, 116] = .tuple [stmtsV [], placeV 1 3, .int .i64 4] := by
  unfold parseR parseF
  rw [if_neg (by decide), lines_k2]
  rfl

theorem parse_k3 : parseR [109, 111, 100, 101] = .tuple [stmtsV [], placeV 1 5, .int .i64 4] := by
  unfold parseR parseF
  rw [if_neg (by decide), lines_k3]
  rfl

theorem allK_inr {ks : List Int} {r : List TokR} {s st : StR} (h : allK ks r s = .inr st) : st = s := by
  unfold allK at h
  split at h
  · cases h
  · simpa using h.symm

theorem needK_inr {k : Int} {r : List TokR} {e : Nat × Nat} {f : TokR → List TokR → (Nat × Nat) ⊕ StR} {st : StR} (h : needK k r e f = .inr st) : ∃ t r', r = t :: r' ∧ f t r' = .inr st := by
  unfold needK at h
  split at h
  · cases h
  · rename_i t r'
    split at h
    · exact ⟨t, r', rfl, h⟩
    · cases h

theorem stmtF_args {l : List TokR} {st : StR} (h : stmtF l = .inr st) : st.args.length ≤ l.length := by
  cases l with
  | nil => cases h
  | cons t0 r0 =>
    simp only [stmtF] at h
    split at h
    · obtain ⟨t, r', rfl, h⟩ := needK_inr h
      obtain ⟨t2, r2, rfl, h⟩ := needK_inr h
      rw [allK_inr h]
      simp only [List.length_cons]
      omega
    · split at h
      · cases h
      · split at h
        · rw [allK_inr h]
          simp
        · split at h
          · obtain ⟨t, r', rfl, h⟩ := needK_inr h
            rw [allK_inr h]
            simp
          · split at h
            · rw [allK_inr h]
              simp
            · split at h
              · obtain ⟨t, r', rfl, h⟩ := needK_inr h
                rw [allK_inr h]
                simp only [List.length_cons]
                omega
              · cases h

theorem parseG_mem : ∀ {ls : List (List TokR)} {r : List StR}, parseG ls = .inr r → r.length = ls.length ∧ ∀ x ∈ r, ∃ l ∈ ls, stmtF l = .inr x
  | [], r, h => by
    simp only [parseG, Sum.inr.injEq] at h
    subst h
    exact ⟨rfl, fun x hx => absurd hx List.not_mem_nil⟩
  | l :: ls, r, h => by
    simp only [parseG] at h
    split at h
    · cases h
    · rename_i s hs
      split at h
      · cases h
      · rename_i r' hr
        obtain ⟨h1, h2⟩ := parseG_mem hr
        simp only [Sum.inr.injEq] at h
        subst h
        refine ⟨by simp [h1], fun x hx => ?_⟩
        rcases List.mem_cons.1 hx with rfl | hx
        · exact ⟨l, by simp, hs⟩
        · obtain ⟨l', h3, h4⟩ := h2 x hx
          exact ⟨l', by simp [h3], h4⟩

theorem parseG_bound {s : List UInt8} {r : List StR} (h : parseF s = .inr r) : r.length ≤ s.length + 1 ∧ ∀ x ∈ r, x.args.length ≤ s.length + 1 := by
  unfold parseF at h
  split at h
  · cases h
  · rename_i ls hls
    obtain ⟨h1, h2⟩ := parseG_mem h
    refine ⟨by rw [h1]; exact lines_count hls, fun x hx => ?_⟩
    obtain ⟨l, h3, h4⟩ := h2 x hx
    exact Nat.le_trans (stmtF_args h4) (line_bound hls h3).2.1

theorem parseR_form (s : List UInt8) (hs : s.length ≤ 1000000) : ∃ (r : List StR) (l c e : Int), parseR s = .tuple [stmtsV r, placeV l c, .int .i64 e] ∧ r.length ≤ 1000001 ∧ ∀ x ∈ r, x.args.length ≤ 1000001 := by
  by_cases h : s.length > 65536
  · exact ⟨[], 0, 0, 3, by unfold parseR; rw [if_pos h], by simp, fun x hx => absurd hx List.not_mem_nil⟩
  · cases hf : parseF s with
    | inl p => exact ⟨[], p.1, p.2, 4, by unfold parseR; rw [if_neg h, hf], by simp, fun x hx => absurd hx List.not_mem_nil⟩
    | inr r =>
      obtain ⟨h1, h2⟩ := parseG_bound hf
      exact ⟨r, 0, 0, 0, by unfold parseR; rw [if_neg h, hf], by omega, fun x hx => by have := h2 x hx; omega⟩

theorem cbKn20 : Callable Tryd.prog 36 := fun _ _ => by kernel_rfl
set_option maxHeartbeats 1600000 in
set_option maxRecDepth 100000 in
theorem known20_c : PCalls Tryd.prog 36 [] (.bool true) := by
  refine pcalls_of_awp tyok cbKn20 Tryd.func36 rfl rfl ?_
  have g1 := parse_c _ (by decide) |> fun h => parse_k1 ▸ h
  have g2 := parse_c _ (by decide) |> fun h => parse_k2 ▸ h
  have g3 := parse_c _ (by decide) |> fun h => parse_k3 ▸ h
  repeat (first | refine wK ?_ | refine awp_seq_k (fun K hK => ?_) | refine areg_text mixed tyok (by decide +kernel) ?_ | refine qal tyok (fun bx => ?_) | refine qbox (fun bx => ?_) | refine qboxV (fun bx => ?_) | refine TR.pcall rfl rfl rfl rfl True.intro rfl rfl (g1) ?_ | refine TR.pcall rfl rfl rfl rfl True.intro rfl rfl (g2) ?_ | refine TR.pcall rfl rfl rfl rfl True.intro rfl rfl (g3) ?_ | refine pco rfl rfl rfl rfl rfl rfl rfl rfl (fun _ => g1) ?_ | refine pco rfl rfl rfl rfl rfl rfl rfl rfl (fun _ => g2) ?_ | refine pco rfl rfl rfl rfl rfl rfl rfl rfl (fun _ => g3) ?_ | ((repeat ((fail_if_success (refine hK _ _ ?_)); clear hK)); refine hK _ _ ?_; clear hK))
  refine r1 ?_
  exact Sub.refl _

theorem cbPP : Callable Tryd.prog 10 := fun _ _ => by kernel_rfl
set_option maxHeartbeats 1600000 in
set_option maxRecDepth 100000 in
theorem parserParses_c (s : List UInt8) : PCalls Tryd.prog 10 [.str s] (.bool true) := by
  refine pcalls_of_awp tyok cbPP Tryd.func10 rfl rfl ?_
  by_cases hs : s.length > 3000
  · have hs' : (s.length : Int) > 3000 := by omega
    repeat (first | refine wKB ?_ | refine awp_seq_k (fun K hK => ?_) | refine areg_text mixed tyok (by decide +kernel) ?_ | refine qal tyok (fun bx => ?_) | refine qbox (fun bx => ?_) | refine qboxV (fun bx => ?_) | refine TR.pcall rfl rfl rfl rfl True.intro rfl rfl (known20_c) ?_ | refine pco rfl rfl rfl rfl rfl rfl rfl rfl (fun _ => known20_c) ?_ | ((repeat ((fail_if_success (refine hK _ _ ?_)); clear hK)); refine hK _ _ ?_; clear hK))
    refine r1 ?_
    exact Sub.refl _
  have hs' : ¬ (s.length : Int) > 3000 := by omega
  obtain ⟨r, l, c, e, he, hr1, hr2⟩ := parseR_form s (by omega)
  have g1 := parse_c s (by omega)
  have g2 := rparse_c s (by omega)
  rw [he] at g1 g2
  have g3 := sameL_c r r false (by omega) (fun x hx => by have := hr2 x hx; omega) (sameL_refl r false)
  repeat (first | refine wKB ?_ | refine awp_seq_k (fun K hK => ?_) | refine areg_text mixed tyok (by decide +kernel) ?_ | refine qal tyok (fun bx => ?_) | refine qbox (fun bx => ?_) | refine qboxV (fun bx => ?_) | refine TR.pcall rfl rfl rfl rfl True.intro rfl rfl (known20_c) ?_ | refine TR.pcall rfl rfl rfl rfl True.intro rfl rfl (g1) ?_ | refine TR.pcall rfl rfl rfl rfl True.intro rfl rfl (g2) ?_ | refine TR.pcall rfl rfl rfl rfl True.intro rfl rfl (g3) ?_ | refine pco rfl rfl rfl rfl rfl rfl rfl rfl (fun _ => known20_c) ?_ | refine pco rfl rfl rfl rfl rfl rfl rfl rfl (fun _ => g1) ?_ | refine pco rfl rfl rfl rfl rfl rfl rfl rfl (fun _ => g2) ?_ | refine pco rfl rfl rfl rfl rfl rfl rfl rfl (fun _ => g3) ?_ | ((repeat ((fail_if_success (refine hK _ _ ?_)); clear hK)); refine hK _ _ ?_; clear hK))
  refine r1 ?_
  refine Sub.of_eq ?_
  simp

end Go.Proofs.YtgbmanmcioailaaDoor
