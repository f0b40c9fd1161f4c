/-
  The law FigureBuilt returns true for every input, and what is handed in reads as it did: the given card.
-/
import Derived.Test.YtpodjhapjcncdaaDoorCards
import Derived.Test.YtpodjhapjcncdaaDoorTie
import Derived.Test.YtpodjhapjcncdaaDoorCg
import Derived.SevenTiedAt
import Derived.Stop.Joined
import Derived.Test.YtpodjhapjcncdaaDoorFgC
namespace Go.Proofs.YtpodjhapjcncdaaDoor
open Go.Ab Go.ChangeShapes Go.WideShapes Go.ChangeAt Go.RowKit

set_option maxRecDepth 100000 in
theorem figureBuilt_lifted (os : Os) (started : os.Started) (H : Type) (enc : TypeId × Value → H) :
    ReturnsInHanded {} Tryd.checked os 6 .any (fun w args => (Rows.figureBuiltSpec.pre enc Tryd.prog Tryd.f6 [] false w args ∧ laidMetH Tryd.prog Rows.figureBuiltRow.laid w) ∧ sizedMet enc Tryd.prog Tryd.f6 (OpenSpec.ofChange Rows.figureBuiltSpec) false w args) (Rows.figureBuiltSpec.post enc Tryd.prog Tryd.f6 false true false false) := by
  refine ret_shaped_and (C := Tryd.checked) (X := fun w _ => laidMetH Tryd.prog Rows.figureBuiltRow.laid w) (fun _ _ _ hh h => h.of_heap hh) own started (by kernel_rfl) Tryd.func6
    (ChangeSpec.witness_shaped (enc := enc) (C := Tryd.checked) (os := os) (X := fun w _ => laidMetH Tryd.prog Rows.figureBuiltRow.laid w) false (World.laidAll Tryd.prog os Rows.figureBuiltRow.laid) #[.int .i64 0, .bool false] 8 (World.laidAll_os _ _ _)
      (World.shaped_of_ZipB (by kernel_rfl) (by kernel_rfl)) (by kernel_rfl) (by kernel_rfl) (by kernel_rfl)
      (by rw [MakeChecks.laidMetH_plain _ _ _ (by kernel_rfl)]; exact laidMet_laidAll _ (by kernel_rfl) (by kernel_rfl))) ?_
  intro W base args ds gs before hval0 hW _ hL hsh
  have hval : ∀ (j : Nat) t v, Tryd.f6.params[j]? = some t → args[j]? = some v → Value.okWide Tryd.prog W .any base t v := hval0
  have hW' := hW
  obtain ⟨p, q, hA0, hV, rfl, hfz, hnd⟩ := hW
  have hA : DataW.TrodAll enc Tryd.prog W 0 (fun _ => true) true Tryd.f6.params.toList args.toList ds p := hA0
  rw [Tryd.params6] at hA hval
  rw [MakeChecks.laidMetH_plain _ _ _ (by kernel_rfl)] at hL
  have hgl : Gl [] W := gl_start hsh hL (.tail _ (.tail _ (.head _)))
  obtain ⟨v0, v1, d0, d1, p0, p1, rfl, rfl, rfl, h0, h1⟩ := trodAll_two hA
  obtain ⟨rfl, rfl⟩ := trodVars_none hV
  simp only [List.append_nil] at hW'
  have hlt : ∀ x ∈ p0 ++ p1, x.block < W.heap.size := fun x hx => by simpa using hW'.lt x (by simpa using hx)
  obtain ⟨m0, rfl⟩ := okWide_int Tryd.underlying3 (hval 0 3 v0 rfl rfl)
  obtain ⟨m1, rfl⟩ := okWide_bool Tryd.underlying4 (hval 1 4 v1 rfl rfl)
  clear hA0 hval0
  refine ((figureBuilt_c m0 m1).2 (stOf W) W [.int .i64 m0, .bool m1] (conc_start W) ⟨rfl, fun j v x hv hx => ?_⟩ hgl).mono fun e W' he => ?_
  · match j, hv, hx with
    | 0, hv, hx => simp at hv hx; subst hv; subst hx; exact (.int _ _)
    | 1, hv, hx => simp at hv hx; subst hv; subst hx; exact (.bool _)
  cases e with
  | outgrown => exact he.elim
  | panicked c =>
    obtain ⟨st', r, H', k1, k2, rfl, rfl⟩ := he
    exact k2.elim
  | returned c =>
    obtain ⟨st', r, H', k1, k2, rfl, rfl⟩ := he
    cases k2
    have bel := below_of k1
    refine ⟨_, rfl, _, _, _, [], p0 ++ p1, [], hW', ?_, ?_, rfl, bel.frame _, fun h => by cases h⟩
    · exact trodAll_mk1 (shut_bool Tryd.underlying4 true)
    · have mk := trodAll_mk2 (Below.trod laidOut (by kernel_rfl) (of_decide_eq_true (by kernel_rfl)) h0 bel fun x hx => hlt x (by simp [hx])) (Below.trod laidOut (by kernel_rfl) (of_decide_eq_true (by kernel_rfl)) h1 bel fun x hx => hlt x (by simp [hx]))
      exact mk

theorem figureBuilt_row : Rows.FigureBuiltSaid :=
  OpenClaim.holds_of_wide 6 Tryd.f6 rfl rfl rfl rfl rfl rfl rfl ⟨rfl, rfl, rfl, rfl, rfl⟩ rfl rfl rfl rfl rfl (by kernel_rfl) Tryd.func6 (by kernel_rfl)
    (of_decide_eq_true (by kernel_rfl)) (by unfold Func.isWrapper; rw [if_neg (by decide +kernel)]; exact ⟨rfl, rfl⟩)
    (fun os started H enc _ => figureBuilt_lifted os started H enc)

/-- FigureBuilt returns true for every input, and what is handed in reads as it did; its tables tied to the program's text. -/
theorem figureBuilt_holds : Rows.FigureBuiltCardSaid :=
  Claim7.holds_tied_plain_at .later [] _ true _ _
    figureBuilt_row (fun _ h => by cases h) (by kernel_rfl) (fun _ h => by cases h) figureBuilt_row_tie rfl ⟨rfl, rfl⟩ (by kernel_rfl) rfl
    (fun f fn hf hfn => by
      obtain rfl : f = 6 := Option.some.inj ((show Tryd.prog.funcNamed "porism/porismlaw21.FigureBuilt" = some 6 by kernel_rfl).symm.trans hf) |>.symm
      obtain rfl : fn = Tryd.f6 := (Option.some.inj (Tryd.func6.symm.trans hfn)).symm
      exact ⟨by kernel_rfl, fun j t ht => by
        rw [Tryd.params6] at ht
        have hm : t ∈ [3, 4] := by simpa using Array.mem_of_getElem? ht
        have hall : ([3, 4].all fun u => !Tryd.prog.wantsStandIn u) = true := by kernel_rfl
        exact (show Tryd.prog.wantsStandIn t = false by simpa using List.all_eq_true.1 hall t hm)⟩)
    (by kernel_rfl)

#print axioms figureBuilt_holds

end Go.Proofs.YtpodjhapjcncdaaDoor
