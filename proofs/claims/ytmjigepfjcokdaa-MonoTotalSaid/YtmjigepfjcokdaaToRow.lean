/-
  The law MonoTotal returns true for every input, and what is handed in reads as it did: the given statement.
-/
import Derived.Test.YtmjigepfjcokdaaTo
import Derived.Test.YtmjigepfjcokdaaMoG
namespace Go.Proofs.Ytmjigepfjcokdaa
open Go.Ab Go.ChangeShapes Go.WideShapes Go.ChangeAt Go.RowKit Go.Deep

set_option maxRecDepth 100000 in
theorem monoTotal_lifted (os : Os) (started : os.Started) (H : Type) (enc : TypeId × Value → H) :
    ReturnsInHanded {} Try.checked os 4 .any (Rows.monoTotalSpec.pre6 enc Try.prog Try.f4 Rows.monoTotalRow.domain false) (Rows.monoTotalSpec.post enc Try.prog Try.f4 false true false false) := by
  refine returnsInHanded_of_change (C := Try.checked) own started (by kernel_rfl) Try.func4
    (ChangeSpec.witness6 (enc := enc) (C := Try.checked) false ⟨#[], #[.slice none 0 0, .slice none 0 0, .slice none 0 0], []⟩ 8 (by kernel_rfl) (by kernel_rfl) (by kernel_rfl) (by kernel_rfl)) ?_
  intro W base args ds gs before hval0 hW hcnd _
  have hval : ∀ (j : Nat) t v, Try.f4.params[j]? = some t → args[j]? = some v → Value.okWide Try.prog W .any base t v := hval0
  have hW' := hW
  obtain ⟨p, q, hA0, hV, rfl, hfz, hnd⟩ := hW
  have hA : DataW.TrodAll enc Try.prog W 0 (fun _ => true) true Try.f4.params.toList args.toList ds p := hA0
  rw [Try.params4] at hA hval
  obtain ⟨v0, v1, v2, d0, d1, d2, p0, p1, p2, rfl, rfl, rfl, h0, h1, h2⟩ := trodAll_three hA
  obtain ⟨rfl, rfl⟩ := trodVars_none hV
  simp only [List.append_nil] at hW'
  have hlt : ∀ x ∈ p0 ++ p1 ++ p2, x.block < W.heap.size := fun x hx => by simpa using hW'.lt x (by simpa using hx)
  have h0k := h0
  have h1k := h1
  have h2k := h2
  obtain ⟨a0, len0, cap0, rfl⟩ := okWide_slice Try.underlying23 (hval 0 23 v0 rfl rfl)
  obtain ⟨fuel0, hf0⟩ := h0
  obtain ⟨m0, hm0⟩ := open_mono (by simpa [Value.cells] using hf0)
  obtain ⟨a1, len1, cap1, rfl⟩ := okWide_slice Try.underlying23 (hval 1 23 v1 rfl rfl)
  obtain ⟨fuel1, hf1⟩ := h1
  obtain ⟨m1, hm1⟩ := open_mono (by simpa [Value.cells] using hf1)
  obtain ⟨a2, len2, cap2, rfl⟩ := okWide_slice Try.underlying23 (hval 2 23 v2 rfl rfl)
  obtain ⟨fuel2, hf2⟩ := h2
  obtain ⟨m2, hm2⟩ := open_mono (by simpa [Value.cells] using hf2)
  clear hA0 hval0
  refine ((monoTotal_c m0 m1 m2).2 (stOf W) W [.slice a0 len0 cap0, .slice a1 len1 cap1, .slice a2 len2 cap2] (conc_start W) ⟨rfl, fun j v x hv hx => ?_⟩).mono fun e W' he => ?_
  · match j, hv, hx with
    | 0, hv, hx => simp at hv hx; subst hv; subst hx; exact hm0
    | 1, hv, hx => simp at hv hx; subst hv; subst hx; exact hm1
    | 2, hv, hx => simp at hv hx; subst hv; subst hx; exact hm2
  cases e with
  | outgrown => exact he.elim
  | panicked c =>
    obtain ⟨st', r, H', k1, k2, rfl, rfl⟩ := he
    exact k2.elim
  | returned c =>
    obtain ⟨st', r, H', k1, k2, rfl, rfl⟩ := he
    cases k2
    have bel := below_of k1
    refine ⟨_, rfl, _, _, _, [], p0 ++ p1 ++ p2, [], hW', ?_, ?_, rfl, bel.frame _, fun h => by cases h⟩
    · exact trodAll_mk1 (shut_bool Try.underlying4 true)
    · have mk := trodAll_mk3 (Below.trod laidOut (by kernel_rfl) (of_decide_eq_true (by kernel_rfl)) h0k bel fun x hx => hlt x (by simp [hx])) (Below.trod laidOut (by kernel_rfl) (of_decide_eq_true (by kernel_rfl)) h1k bel fun x hx => hlt x (by simp [hx])) (Below.trod laidOut (by kernel_rfl) (of_decide_eq_true (by kernel_rfl)) h2k bel fun x hx => hlt x (by simp [hx]))
      simp only [← List.append_assoc] at mk
      exact mk

/-- MonoTotal returns true for every input, and what is handed in reads as it did. -/
theorem monoTotal_holds : Rows.MonoTotalSaid :=
  OpenClaim.holds_of_wide 4 Try.f4 rfl rfl rfl rfl rfl rfl rfl ⟨rfl, rfl, rfl, rfl, rfl⟩ rfl rfl rfl rfl rfl (by kernel_rfl) Try.func4 (by kernel_rfl)
    (of_decide_eq_true (by kernel_rfl)) (by unfold Func.isWrapper; rw [if_neg (by decide +kernel)]; exact ⟨rfl, rfl⟩)
    (fun os started H enc _ => monoTotal_lifted os started H enc)

#print axioms monoTotal_holds

end Go.Proofs.Ytmjigepfjcokdaa
