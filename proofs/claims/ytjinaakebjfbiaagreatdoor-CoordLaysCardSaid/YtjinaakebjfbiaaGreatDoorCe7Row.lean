/-
  The law CoordLays returns true for every input, and what is handed in reads as it did: the given card.
-/
import Derived.Test.YtjinaakebjfbiaaGreatDoorCards
import Derived.Test.YtjinaakebjfbiaaGreatDoorTie
import Derived.Test.YtjinaakebjfbiaaGreatDoorCg
import Derived.SevenTiedAt
import Derived.Stop.Joined
import Derived.Carry
import Derived.Test.YtjinaakebjfbiaaGreatDoorCeM
import Derived.Test.YtjinaakebjfbiaaGreatDoorOq
namespace Go.Proofs.YtjinaakebjfbiaaGreatDoor
open Go.Ab Go.ChangeShapes Go.WideShapes Go.ChangeAt Go.RowKit

set_option maxRecDepth 100000 in
theorem coordLays_lifted (os : Os) (started : os.Started) (H : Type) (enc : TypeId × Value → H) :
    ReturnsInHanded {} Tryz.checked os 3 .any (fun w args => (Rows.coordLaysSpec.pre enc Tryz.prog Tryz.f3 [] false w args ∧ laidMetH Tryz.prog Rows.coordLaysRow.laid w) ∧ sizedMet enc Tryz.prog Tryz.f3 (OpenSpec.ofChange Rows.coordLaysSpec) false w args) (Rows.coordLaysSpec.post enc Tryz.prog Tryz.f3 false true false false) := by
  refine ret_shaped_and (C := Tryz.checked) (X := fun w _ => laidMetH Tryz.prog Rows.coordLaysRow.laid w) (fun _ _ _ hh h => h.of_heap hh) own started (by kernel_rfl) Tryz.func3
    (ChangeSpec.witness_shaped (enc := enc) (C := Tryz.checked) (os := os) (X := fun w _ => laidMetH Tryz.prog Rows.coordLaysRow.laid w) false (World.laidAll Tryz.prog os Rows.coordLaysRow.laid) #[.slice none 0 0, .agg #[.slice none 0 0, .slice none 0 0, .int .i64 0, .int .i64 0], .int .i64 0, .string ⟨#[]⟩] 8 (World.laidAll_os _ _ _)
      (World.shaped_of_ZipB (by kernel_rfl) (by kernel_rfl)) (by kernel_rfl) (by kernel_rfl) (by kernel_rfl)
      (by rw [MakeChecks.laidMetH_plain _ _ _ (by kernel_rfl)]; exact laidMet_laidAll _ (by kernel_rfl) (by kernel_rfl))) ?_
  intro W base args ds gs before hval0 hW hwt hL hsh
  have hval : ∀ (j : Nat) t v, Tryz.f3.params[j]? = some t → args[j]? = some v → Value.okWide Tryz.prog W .any base t v := hval0
  have hW' := hW
  obtain ⟨p, q, hA0, hV, rfl, hfz, hnd⟩ := hW
  have hA : DataW.TrodAll enc Tryz.prog W 0 (fun _ => true) true Tryz.f3.params.toList args.toList ds p := hA0
  rw [Tryz.params3] at hA hval
  rw [MakeChecks.laidMetH_plain _ _ _ (by kernel_rfl)] at hL
  have hgl : Gl [] W := gl_start hsh hL (.tail _ (.tail _ (.head _)))
  obtain ⟨v0, v1, v2, v3, d0, d1, d2, d3, p0, p1, p2, p3, rfl, rfl, rfl, h0, h1, h2, h3⟩ := trodAll_four hA
  obtain ⟨rfl, rfl⟩ := trodVars_none hV
  simp only [List.append_nil] at hW'
  have hlt : ∀ x ∈ p0 ++ p1 ++ p2 ++ p3, x.block < W.heap.size := fun x hx => by simpa using hW'.lt x (by simpa using hx)
  have hc0 := h0
  obtain ⟨fu0, hfu0⟩ := hc0
  rw [Tryz.params3] at hwt
  have hwt0 : ∀ m ∈ d0.weights Tryz.prog 22, m ≤ reachBytes := fun m hm => by
    have hz := List.all_eq_true.1 hwt m (show m ∈ DataW.weightsEach Tryz.prog ([22, 26, 3, 9] ++ _) ([d0, d1, d2, d3] ++ _) from by simp only [List.cons_append, DataW.weightsEach]; exact List.mem_append.2 (.inl hm))
    simpa using hz
  obtain ⟨a0, len0, cap0, rfl⟩ := okWide_slice Tryz.underlying22 (hval 0 22 v0 rfl rfl)
  have hfu0' : DataW.trod enc Tryz.prog W 0 (fun _ => true) true fu0 22 [.slice a0 len0 cap0] = some (d0, p0) := hfu0
  obtain ⟨y0, hr0, bl0, by0, _⟩ := open_stmts hfu0' hwt0
  have hc1 := h1
  obtain ⟨fu1, hfu1⟩ := hc1
  have hwt1 : ∀ m ∈ d1.weights Tryz.prog 26, m ≤ reachBytes := fun m hm => by
    have hz := List.all_eq_true.1 hwt m (show m ∈ DataW.weightsEach Tryz.prog ([22, 26, 3, 9] ++ _) ([d0, d1, d2, d3] ++ _) from by simp only [List.cons_append, DataW.weightsEach]; exact List.mem_append.2 (.inr (List.mem_append.2 (.inl hm))))
    simpa using hz
  obtain ⟨ns1, cs1, lp1, lq1, hr1, bn1⟩ := open_layout hfu1 hwt1
  obtain ⟨m2, rfl⟩ := okWide_int Tryz.underlying3 (hval 2 3 v2 rfl rfl)
  obtain ⟨m3, rfl⟩ := okWide_string Tryz.underlying9 (hval 3 9 v3 rfl rfl)
  clear hA0 hval0
  refine ((coordLays_c y0 ns1 cs1 lp1 lq1 m2 m3.data.toList (Nat.le_trans bl0 (by decide)) (fun x hx => Nat.le_trans (by0 x hx).args (by decide)) (fun x hx => Nat.le_trans (by0 x hx).new (by decide)) (fun x hx t ht => Nat.le_trans ((by0 x hx).argw t ht) (by decide)) (fun x hx => Nat.le_trans (bn1 x hx) (by decide))).2 (stOf W) W [.slice a0 len0 cap0, v1, .int .i64 m2, .string m3] (conc_start W) ⟨rfl, fun j v x hv hx => ?_⟩ hgl).mono fun e W' he => ?_
  · match j, hv, hx with
    | 0, hv, hx => simp at hv hx; subst hv; subst hx; exact hr0
    | 1, hv, hx => simp at hv hx; subst hv; subst hx; exact hr1
    | 2, hv, hx => simp at hv hx; subst hv; subst hx; exact (.int _ _)
    | 3, hv, hx => simp at hv hx; subst hv; subst hx; exact (.str _)
  cases e with
  | outgrown => exact he.elim
  | panicked c =>
    obtain ⟨st', r, H', k1, k2, rfl, rfl⟩ := he
    exact k2.elim
  | returned c =>
    obtain ⟨st', r, H', k1, k2, rfl, rfl⟩ := he
    cases k2
    have bel := below_of k1
    refine ⟨_, rfl, _, _, _, [], p0 ++ p1 ++ p2 ++ p3, [], hW', ?_, ?_, rfl, bel.frame _, fun h => by cases h⟩
    · exact trodAll_mk1 (shut_bool Tryz.underlying4 true)
    · have mk := trodAll_mk4 (Below.trod laidOut (by kernel_rfl) (of_decide_eq_true (by kernel_rfl)) h0 bel fun x hx => hlt x (by simp [hx])) (Below.trod laidOut (by kernel_rfl) (of_decide_eq_true (by kernel_rfl)) h1 bel fun x hx => hlt x (by simp [hx])) (Below.trod laidOut (by kernel_rfl) (of_decide_eq_true (by kernel_rfl)) h2 bel fun x hx => hlt x (by simp [hx])) (Below.trod laidOut (by kernel_rfl) (of_decide_eq_true (by kernel_rfl)) h3 bel fun x hx => hlt x (by simp [hx]))
      simp only [← List.append_assoc] at mk
      exact mk

theorem coordLays_row : Rows.CoordLaysSaid :=
  OpenClaim.holds_of_wide 3 Tryz.f3 rfl rfl rfl rfl rfl rfl rfl ⟨rfl, rfl, rfl, rfl, rfl⟩ rfl rfl rfl rfl rfl (by kernel_rfl) Tryz.func3 (by kernel_rfl)
    (of_decide_eq_true (by kernel_rfl)) (by unfold Func.isWrapper; rw [if_neg (by decide +kernel)]; exact ⟨rfl, rfl⟩)
    (fun os started H enc _ => coordLays_lifted os started H enc)

/-- CoordLays returns true for every input, and what is handed in reads as it did; its tables tied to the program's text. -/
theorem coordLays_holds : Rows.CoordLaysCardSaid :=
  Claim7.holds_tied_plain_at .later [] _ true _ _
    coordLays_row (fun _ h => by cases h) (by kernel_rfl) (fun _ h => by cases h) coordLays_row_tie rfl ⟨rfl, rfl⟩ (by kernel_rfl) rfl
    (fun f fn hf hfn => by
      obtain rfl : f = 3 := Option.some.inj ((show Tryz.prog.funcNamed "porism/porismlaw25.CoordLays" = some 3 by kernel_rfl).symm.trans hf) |>.symm
      obtain rfl : fn = Tryz.f3 := (Option.some.inj (Tryz.func3.symm.trans hfn)).symm
      exact ⟨by kernel_rfl, fun j t ht => by
        rw [Tryz.params3] at ht
        have hm : t ∈ [22, 26, 3, 9] := by simpa using Array.mem_of_getElem? ht
        have hall : ([22, 26, 3, 9].all fun u => !Tryz.prog.wantsStandIn u) = true := by kernel_rfl
        exact (show Tryz.prog.wantsStandIn t = false by simpa using List.all_eq_true.1 hall t hm)⟩)
    (by kernel_rfl)

#print axioms coordLays_holds

end Go.Proofs.YtjinaakebjfbiaaGreatDoor
