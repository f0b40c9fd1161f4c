/-
  ShapeScripts returns true.
-/
import Derived.Test.YtjinaakebjfbiaaGreatDoorRsM
import Derived.Test.YtjinaakebjfbiaaGreatDoorShK
import Derived.Test.YtjinaakebjfbiaaGreatDoorRp6
namespace Go.Proofs.YtjinaakebjfbiaaGreatDoor
open Go.Ab

theorem cbShS : Callable Tryz.prog 9 := fun _ _ => by kernel_rfl
set_option maxHeartbeats 3200000 in
set_option maxRecDepth 100000 in
theorem shapeScripts_c (s : List UInt8) : PCalls Tryz.prog 9 [.str s] (.bool true) := by
  refine pcalls_of_awp tyok cbShS Tryz.func9 rfl rfl ?_
  by_cases hs : s.length > 3000
  · have hs' : (s.length : Int) > 3000 := by omega
    repeat (first | refine wKB ?_ | refine awp_seq_k (fun K hK => ?_) | refine areg_text mixed tyok (by decide +kernel) ?_ | refine qal tyok (fun bx => ?_) | refine qbox (fun bx => ?_) | refine qboxV (fun bx => ?_) | refine TR.pcall rfl rfl rfl rfl True.intro rfl rfl (known22_c) ?_ | refine pco rfl rfl rfl rfl rfl rfl rfl rfl (fun _ => known22_c) ?_ | ((repeat ((fail_if_success (refine hK _ _ ?_)); clear hK)); refine hK _ _ ?_; clear hK))
    refine r1 ?_
    exact Sub.refl _
  have hs' : ¬ (s.length : Int) > 3000 := by omega
  have g1 := script_c s (by omega)
  have g2 := script22_c s (by omega)
  obtain ⟨r, l, c, e, hv, hr1, hr2⟩ : ∃ (r : List StR) (l c e : Int), scriptV (scriptF s) = .tuple [stmtsV r, placeV l c, .int .i64 e] ∧ r.length ≤ s.length + 1 ∧ ∀ x ∈ r, x.args.length ≤ s.length + 1 := by
    cases hf : scriptF s with
    | inl p => exact ⟨[], p.1, p.2.1, p.2.2, rfl, Nat.zero_le _, fun x hx => absurd hx List.not_mem_nil⟩
    | inr r => exact ⟨r, 0, 0, 0, rfl, (scriptF_bd hf).1, (scriptF_bd hf).2⟩
  rw [hv] at g1 g2
  have g3 := sameL_c r r false (by omega) (fun x hx => by have := hr2 x hx; omega) (sameL_refl r false)
  repeat (first | refine wKB ?_ | refine awp_seq_k (fun K hK => ?_) | refine areg_text mixed tyok (by decide +kernel) ?_ | refine qal tyok (fun bx => ?_) | refine qbox (fun bx => ?_) | refine qboxV (fun bx => ?_) | refine TR.pcall rfl rfl rfl rfl True.intro rfl rfl (known22_c) ?_ | refine TR.pcall rfl rfl rfl rfl True.intro rfl rfl (g1) ?_ | refine TR.pcall rfl rfl rfl rfl True.intro rfl rfl (g2) ?_ | refine TR.pcall rfl rfl rfl rfl True.intro rfl rfl (g3) ?_ | refine pco rfl rfl rfl rfl rfl rfl rfl rfl (fun _ => known22_c) ?_ | refine pco rfl rfl rfl rfl rfl rfl rfl rfl (fun _ => g1) ?_ | refine pco rfl rfl rfl rfl rfl rfl rfl rfl (fun _ => g2) ?_ | refine pco rfl rfl rfl rfl rfl rfl rfl rfl (fun _ => g3) ?_ | ((repeat ((fail_if_success (refine hK _ _ ?_)); clear hK)); refine hK _ _ ?_; clear hK))
  refine r1 ?_
  refine Sub.of_eq ?_
  simp

end Go.Proofs.YtjinaakebjfbiaaGreatDoor
