/-
  The law on one without its class: the given statement.
-/
import Derived.Test.YtmjigepfjcokdaaPt
namespace Go.Proofs.Ytmjigepfjcokdaa
open Go.Ab Go.ChangeShapes Go.WideShapes Go.ChangeAt Go.RowKit Go.Deep

set_option maxRecDepth 100000 in
theorem parts_lifted (os : Os) (started : os.Started) (H : Type) (enc : TypeId × Value → H) :
    ReturnsInHanded {} Try.checked os 8 .any (Rows.monoPartsSpec.pre6 enc Try.prog Try.f8 Rows.monoPartsRow.domain false) (Rows.monoPartsSpec.post enc Try.prog Try.f8 false true false false) := by
  refine returnsInHanded_of_change (C := Try.checked) own started (by kernel_rfl) Try.func8
    (ChangeSpec.witness6 (enc := enc) (C := Try.checked) false ⟨#[], #[.slice none 0 0], []⟩ 8 (by kernel_rfl) (by kernel_rfl) (by kernel_rfl) (by kernel_rfl)) ?_
  intro W base args ds gs before hval0 hW hcnd _
  have hval : ∀ (j : Nat) t v, Try.f8.params[j]? = some t → args[j]? = some v → Value.okWide Try.prog W .any base t v := hval0
  have hW' := hW
  obtain ⟨p, q, hA0, hV, rfl, hfz, hnd⟩ := hW
  have hA : DataW.TrodAll enc Try.prog W 0 (fun _ => true) true Try.f8.params.toList args.toList ds p := hA0
  rw [Try.params8] at hA hval
  obtain ⟨v0, d0, rfl, rfl, h0⟩ := trodAll_one hA
  obtain ⟨rfl, rfl⟩ := trodVars_none hV
  simp only [List.append_nil] at hW'
  have hlt : ∀ x ∈ p, x.block < W.heap.size := fun x hx => by simpa using hW'.lt x hx
  have h0k := h0
  obtain ⟨a0, len, cap, rfl⟩ := okWide_slice Try.underlying23 (hval 0 23 v0 rfl rfl)
  obtain ⟨fuel, hf⟩ := h0
  obtain ⟨m, hm⟩ := open_mono (by simpa [Value.cells] using hf)
  clear hA0 hval0
  refine ((parts_c m).2 (stOf W) W [.slice a0 len cap] (conc_start W) ⟨rfl, fun j v x hv hx => ?_⟩).mono fun e W' he => ?_
  · match j, hv, hx with
    | 0, hv, hx => simp at hv hx; subst hv; subst hx; exact hm
  cases e with
  | outgrown => exact he.elim
  | panicked c =>
    obtain ⟨st', r, H', h1, h2, rfl, rfl⟩ := he
    exact h2.elim
  | returned c =>
    obtain ⟨st', r, H', h1, h2, rfl, rfl⟩ := he
    cases h2
    have bel := below_of h1
    refine ⟨_, rfl, _, _, _, [], p, [], hW', ?_, ?_, rfl, bel.frame _, fun h => by cases h⟩
    · exact trodAll_mk1 (shut_bool Try.underlying4 true)
    · exact trodAll_mk1 (Below.trod laidOut (by kernel_rfl) (of_decide_eq_true (by kernel_rfl)) h0k bel hlt)

/-- 'porismlaw07.MonoParts' returns true for every input, and what is handed in reads as it did. -/
theorem parts_holds : Rows.MonoPartsSaid :=
  OpenClaim.holds_of_wide 8 Try.f8 rfl rfl rfl rfl rfl rfl rfl ⟨rfl, rfl, rfl, rfl, rfl⟩ rfl rfl rfl rfl rfl (by kernel_rfl) Try.func8 (by kernel_rfl)
    (of_decide_eq_true (by kernel_rfl)) (by unfold Func.isWrapper; rw [if_neg (by decide +kernel)]; exact ⟨rfl, rfl⟩)
    (fun os started H enc _ => parts_lifted os started H enc)

#print axioms parts_holds

end Go.Proofs.Ytmjigepfjcokdaa
