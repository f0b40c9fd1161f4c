/-
  The law SenseConditions returns true for every input, and what is handed in reads as it did: the given card.
-/
import Derived.Test.YthfglhjdnpoepaaGreatDoorCards
import Derived.Test.YthfglhjdnpoepaaGreatDoorTie
import Derived.Test.YthfglhjdnpoepaaGreatDoorCg
import Derived.SevenTiedAt
import Derived.Stop.Joined
import Derived.Carry
import Derived.Test.YthfglhjdnpoepaaGreatDoorSx2
import Derived.Test.YthfglhjdnpoepaaGreatDoorOlM
namespace Go.Proofs.YthfglhjdnpoepaaGreatDoor
open Go.Ab Go.ChangeShapes Go.WideShapes Go.ChangeAt Go.RowKit

set_option maxRecDepth 100000 in
theorem senseConditions_lifted (os : Os) (started : os.Started) (H : Type) (enc : TypeId × Value → H) :
    ReturnsInHanded {} Tryz.checked os 4 .any (fun w args => (Rows.senseConditionsSpec.pre enc Tryz.prog Tryz.f4 [] false w args ∧ laidMetH Tryz.prog Rows.senseConditionsRow.laid w) ∧ sizedMet enc Tryz.prog Tryz.f4 (OpenSpec.ofChange Rows.senseConditionsSpec) false w args) (Rows.senseConditionsSpec.post enc Tryz.prog Tryz.f4 false true false false) := by
  refine ret_shaped_and (C := Tryz.checked) (X := fun w _ => laidMetH Tryz.prog Rows.senseConditionsRow.laid w) (fun _ _ _ hh h => h.of_heap hh) own started (by kernel_rfl) Tryz.func4
    (ChangeSpec.witness_shaped (enc := enc) (C := Tryz.checked) (os := os) (X := fun w _ => laidMetH Tryz.prog Rows.senseConditionsRow.laid w) false (World.laidAll Tryz.prog os Rows.senseConditionsRow.laid) #[.agg #[.bool false, .slice none 0 0, .bool false, .slice none 0 0, .bool false, .slice none 0 0, .bool false, .slice none 0 0], .agg #[.bool false, .slice none 0 0, .bool false, .slice none 0 0, .bool false, .slice none 0 0, .bool false, .slice none 0 0], .agg #[.bool false, .slice none 0 0, .bool false, .slice none 0 0, .bool false, .slice none 0 0, .bool false, .slice none 0 0], .agg #[.bool false, .slice none 0 0, .bool false, .slice none 0 0, .bool false, .slice none 0 0, .bool false, .slice none 0 0]] 8 (World.laidAll_os _ _ _)
      (World.shaped_of_ZipB (by kernel_rfl) (by kernel_rfl)) (by kernel_rfl) (by kernel_rfl) (by kernel_rfl)
      (by rw [MakeChecks.laidMetH_plain _ _ _ (by kernel_rfl)]; exact laidMet_laidAll _ (by kernel_rfl) (by kernel_rfl))) ?_
  intro W base args ds gs before hval0 hW hwt hL hsh
  have hval : ∀ (j : Nat) t v, Tryz.f4.params[j]? = some t → args[j]? = some v → Value.okWide Tryz.prog W .any base t v := hval0
  have hW' := hW
  obtain ⟨p, q, hA0, hV, rfl, hfz, hnd⟩ := hW
  have hA : DataW.TrodAll enc Tryz.prog W 0 (fun _ => true) true Tryz.f4.params.toList args.toList ds p := hA0
  rw [Tryz.params4] at hA hval
  rw [MakeChecks.laidMetH_plain _ _ _ (by kernel_rfl)] at hL
  have hgl : Gl [] W := gl_start hsh hL (.tail _ (.tail _ (.head _)))
  obtain ⟨v0, v1, v2, v3, d0, d1, d2, d3, p0, p1, p2, p3, rfl, rfl, rfl, h0, h1, h2, h3⟩ := trodAll_four hA
  obtain ⟨rfl, rfl⟩ := trodVars_none hV
  simp only [List.append_nil] at hW'
  have hlt : ∀ x ∈ p0 ++ p1 ++ p2 ++ p3, x.block < W.heap.size := fun x hx => by simpa using hW'.lt x (by simpa using hx)
  have hc0 := h0
  obtain ⟨fu0, hfu0⟩ := hc0
  rw [Tryz.params4] at hwt
  have hwt0 : ∀ m ∈ d0.weights Tryz.prog 28, m ≤ reachBytes := fun m hm => by
    have hz := List.all_eq_true.1 hwt m (show m ∈ DataW.weightsEach Tryz.prog ([28, 28, 28, 28] ++ _) ([d0, d1, d2, d3] ++ _) from by simp only [List.cons_append, DataW.weightsEach]; exact List.mem_append.2 (.inl hm))
    simpa using hz
  obtain ⟨y0, hr0, ok0⟩ := open_spot hfu0 hwt0
  have hc1 := h1
  obtain ⟨fu1, hfu1⟩ := hc1
  have hwt1 : ∀ m ∈ d1.weights Tryz.prog 28, m ≤ reachBytes := fun m hm => by
    have hz := List.all_eq_true.1 hwt m (show m ∈ DataW.weightsEach Tryz.prog ([28, 28, 28, 28] ++ _) ([d0, d1, d2, d3] ++ _) from by simp only [List.cons_append, DataW.weightsEach]; exact List.mem_append.2 (.inr (List.mem_append.2 (.inl hm))))
    simpa using hz
  obtain ⟨y1, hr1, ok1⟩ := open_spot hfu1 hwt1
  have hc2 := h2
  obtain ⟨fu2, hfu2⟩ := hc2
  have hwt2 : ∀ m ∈ d2.weights Tryz.prog 28, m ≤ reachBytes := fun m hm => by
    have hz := List.all_eq_true.1 hwt m (show m ∈ DataW.weightsEach Tryz.prog ([28, 28, 28, 28] ++ _) ([d0, d1, d2, d3] ++ _) from by simp only [List.cons_append, DataW.weightsEach]; exact List.mem_append.2 (.inr (List.mem_append.2 (.inr (List.mem_append.2 (.inl hm))))))
    simpa using hz
  obtain ⟨y2, hr2, ok2⟩ := open_spot hfu2 hwt2
  have hc3 := h3
  obtain ⟨fu3, hfu3⟩ := hc3
  have hwt3 : ∀ m ∈ d3.weights Tryz.prog 28, m ≤ reachBytes := fun m hm => by
    have hz := List.all_eq_true.1 hwt m (show m ∈ DataW.weightsEach Tryz.prog ([28, 28, 28, 28] ++ _) ([d0, d1, d2, d3] ++ _) from by simp only [List.cons_append, DataW.weightsEach]; exact List.mem_append.2 (.inr (List.mem_append.2 (.inr (List.mem_append.2 (.inr (List.mem_append.2 (.inl hm))))))))
    simpa using hz
  obtain ⟨y3, hr3, ok3⟩ := open_spot hfu3 hwt3
  clear hA0 hval0
  refine ((senseConditions_c y0 y1 y2 y3 ok0 ok1 ok2 ok3).2 (stOf W) W [v0, v1, v2, v3] (conc_start W) ⟨rfl, fun j v x hv hx => ?_⟩ hgl).mono fun e W' he => ?_
  · match j, hv, hx with
    | 0, hv, hx => simp at hv hx; subst hv; subst hx; exact hr0
    | 1, hv, hx => simp at hv hx; subst hv; subst hx; exact hr1
    | 2, hv, hx => simp at hv hx; subst hv; subst hx; exact hr2
    | 3, hv, hx => simp at hv hx; subst hv; subst hx; exact hr3
  cases e with
  | outgrown => exact he.elim
  | panicked c =>
    obtain ⟨st', r, H', k1, k2, rfl, rfl⟩ := he
    exact k2.elim
  | returned c =>
    obtain ⟨st', r, H', k1, k2, rfl, rfl⟩ := he
    cases k2
    have bel := below_of k1
    refine ⟨_, rfl, _, _, _, [], p0 ++ p1 ++ p2 ++ p3, [], hW', ?_, ?_, rfl, bel.frame _, fun h => by cases h⟩
    · exact trodAll_mk1 (shut_bool Tryz.underlying4 true)
    · have mk := trodAll_mk4 (Below.trod laidOut (by kernel_rfl) (of_decide_eq_true (by kernel_rfl)) h0 bel fun x hx => hlt x (by simp [hx])) (Below.trod laidOut (by kernel_rfl) (of_decide_eq_true (by kernel_rfl)) h1 bel fun x hx => hlt x (by simp [hx])) (Below.trod laidOut (by kernel_rfl) (of_decide_eq_true (by kernel_rfl)) h2 bel fun x hx => hlt x (by simp [hx])) (Below.trod laidOut (by kernel_rfl) (of_decide_eq_true (by kernel_rfl)) h3 bel fun x hx => hlt x (by simp [hx]))
      simp only [← List.append_assoc] at mk
      exact mk

theorem senseConditions_row : Rows.SenseConditionsSaid :=
  OpenClaim.holds_of_wide 4 Tryz.f4 rfl rfl rfl rfl rfl rfl rfl ⟨rfl, rfl, rfl, rfl, rfl⟩ rfl rfl rfl rfl rfl (by kernel_rfl) Tryz.func4 (by kernel_rfl)
    (of_decide_eq_true (by kernel_rfl)) (by unfold Func.isWrapper; rw [if_neg (by decide +kernel)]; exact ⟨rfl, rfl⟩)
    (fun os started H enc _ => senseConditions_lifted os started H enc)

/-- SenseConditions returns true for every input, and what is handed in reads as it did; its tables tied to the program's text. -/
theorem senseConditions_holds : Rows.SenseConditionsCardSaid :=
  Claim7.holds_tied_plain_at .later [] _ true _ _
    senseConditions_row (fun _ h => by cases h) (by kernel_rfl) (fun _ h => by cases h) senseConditions_row_tie rfl ⟨rfl, rfl⟩ (by kernel_rfl) rfl
    (fun f fn hf hfn => by
      obtain rfl : f = 4 := Option.some.inj ((show Tryz.prog.funcNamed "porism/porismlaw24.SenseConditions" = some 4 by kernel_rfl).symm.trans hf) |>.symm
      obtain rfl : fn = Tryz.f4 := (Option.some.inj (Tryz.func4.symm.trans hfn)).symm
      exact ⟨by kernel_rfl, fun j t ht => by
        rw [Tryz.params4] at ht
        have hm : t ∈ [28, 28, 28, 28] := by simpa using Array.mem_of_getElem? ht
        have hall : ([28, 28, 28, 28].all fun u => !Tryz.prog.wantsStandIn u) = true := by kernel_rfl
        exact (show Tryz.prog.wantsStandIn t = false by simpa using List.all_eq_true.1 hall t hm)⟩)
    (by kernel_rfl)

#print axioms senseConditions_holds

end Go.Proofs.YthfglhjdnpoepaaGreatDoor
