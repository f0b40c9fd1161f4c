/-
  The law PrinterPrints returns true for every input of bulk at most 1048576, and what is handed in reads as it did: the given card of the second form.
-/
import Derived.Test.YtjinaakebjfbiaaGreatDoorCards
import Derived.Test.YtjinaakebjfbiaaGreatDoorTie
import Derived.Test.YtjinaakebjfbiaaGreatDoorCg
import Derived.SevenTiedAt
import Derived.Stop.Joined
import Derived.Deep.DeepHandedRow
import Derived.JoinedCond
import Derived.Test.YtjinaakebjfbiaaGreatDoorPnX
namespace Go.Proofs.YtjinaakebjfbiaaGreatDoor
open Go.Ab Go.ChangeShapes Go.WideShapes Go.ChangeAt Go.RowKit

set_option maxRecDepth 100000 in
theorem printerPrints_reads (os : Os) {H : Type} (enc : TypeId × Value → H) : ∃ places, DataW.whole enc Tryz.prog ((World.laidAll Tryz.prog os Rows.printerPrintsUptoRow.laid).forCall (fun _ _ => 0) ⟨#[], #[.slice none 0 0, .slice none 0 0], []⟩).memory Tryz.f6.params.toList (Rows.OpenSpec.upto Rows.printerPrintsSpec).vars false (#[.slice none 0 0, .slice none 0 0] : Array Value).toList 8 = some ([.nil, .nil], [], places) :=
  ⟨[], by kernel_rfl⟩

set_option maxRecDepth 100000 in
theorem printerPrints_fits {os : Os} : Input.okWideB Tryz.prog ((World.laidAll Tryz.prog os Rows.printerPrintsUptoRow.laid).forCall (fun _ _ => 0) ⟨#[], #[.slice none 0 0, .slice none 0 0], []⟩) 6 ⟨#[], #[.slice none 0 0, .slice none 0 0], []⟩ = true := by kernel_rfl

set_option maxRecDepth 100000 in
theorem printerPrints_lifted (os : Os) (started : os.Started) (H : Type) (enc : TypeId × Value → H) (F : Stop.Interp) :
    ReturnsInHanded {} Tryz.checked os 6 .any ((Rows.OpenSpec.upto Rows.printerPrintsSpec).preRow enc Tryz.prog Tryz.f6 Rows.printerPrintsUptoRow.domain false Rows.printerPrintsUptoRow.laid) (((Rows.OpenSpec.upto Rows.printerPrintsSpec).at F).post enc Tryz.prog Tryz.f6 false true false false) := by
  obtain ⟨places, hx⟩ := printerPrints_reads os enc
  refine returnsInHanded_of_row (C := Tryz.checked) (s := (Rows.OpenSpec.upto Rows.printerPrintsSpec)) own started (by kernel_rfl) Tryz.func6
    ⟨(World.laidAll Tryz.prog os Rows.printerPrintsUptoRow.laid), fun _ _ => 0, ⟨#[], #[.slice none 0 0, .slice none 0 0], []⟩, World.laidAll_os _ _ _, World.shaped_of_ZipB (by kernel_rfl) (by kernel_rfl), rfl, (Input.okWide_of_okWideB printerPrints_fits).2,
      OpenSpec.preRow_of_cond 8 hx (by kernel_rfl) (fun k hk => by cases hk; kernel_rfl) (by kernel_rfl) (by rw [MakeChecks.laidMetH_plain _ _ _ (by kernel_rfl)]; exact laidMet_laidAll _ (by kernel_rfl) (by kernel_rfl)),
      by simp only [Assume.holds]; exact ⟨by simp, by simp, fun _ => Modest.zero, by simp, by simp⟩⟩ ?_
  intro W base args ds gs before hval0 hW _ hcond hwt hL hsh _
  have hval : ∀ (j : Nat) t v, Tryz.f6.params[j]? = some t → args[j]? = some v → Value.okWide Tryz.prog W .any base t v := hval0
  have hW' := hW
  obtain ⟨p, q, hA0, hV, rfl, hfz, hnd⟩ := hW
  have hA : DataW.TrodAll enc Tryz.prog W 0 (fun _ => true) true Tryz.f6.params.toList args.toList ds p := hA0
  rw [Tryz.params6] at hA hval
  rw [MakeChecks.laidMetH_plain _ _ _ (by kernel_rfl)] at hL
  have hgl : Gl [] W := gl_start hsh hL (.tail _ (.tail _ (.tail _ (.tail _ (.tail _ (.head _)))))) (.tail _ (.tail _ (.tail _ (.tail _ (.head _))))) (.tail _ (.tail _ (.head _))) (.tail _ (.tail _ (.tail _ (.tail _ (.tail _ (.tail _ (.tail _ (.head _))))))))
  obtain ⟨v0, v1, d0, d1, p0, p1, rfl, rfl, rfl, h0, h1⟩ := trodAll_two hA
  obtain ⟨rfl, rfl⟩ := trodVars_none hV
  simp only [List.append_nil] at hW'
  have hbk : Rows.uptoBulkAll ([d0, d1] ++ []) ≤ 1048576 := of_decide_eq_true (hcond _ rfl)
  simp only [List.append_nil, Rows.uptoBulkAll] at hbk
  have hlt : ∀ x ∈ p0 ++ p1, x.block < W.heap.size := fun x hx => by simpa using hW'.lt x (by simpa using hx)
  have hc0 := h0
  obtain ⟨fu0, hfu0⟩ := hc0
  rw [Tryz.params6] at hwt
  have hwt0 : ∀ m ∈ d0.weights Tryz.prog 22, m ≤ reachBytes := fun m hm => by
    have hz := List.all_eq_true.1 hwt m (show m ∈ DataW.weightsEach Tryz.prog ([22, 22] ++ _) ([d0, d1] ++ _) from by simp only [List.cons_append, DataW.weightsEach]; exact List.mem_append.2 (.inl hm))
    simpa using hz
  obtain ⟨a0, len0, cap0, rfl⟩ := okWide_slice Tryz.underlying22 (hval 0 22 v0 rfl rfl)
  have hfu0' : DataW.trod enc Tryz.prog W 0 (fun _ => true) true fu0 22 [.slice a0 len0 cap0] = some (d0, p0) := hfu0
  obtain ⟨y0, hr0, bl0, by0, bb00⟩ := open_stmts hfu0' hwt0
  have bb0 : bulkL y0 ≤ Rows.uptoBulk d0 := bb00
  have hc1 := h1
  obtain ⟨fu1, hfu1⟩ := hc1
  have hwt1 : ∀ m ∈ d1.weights Tryz.prog 22, m ≤ reachBytes := fun m hm => by
    have hz := List.all_eq_true.1 hwt m (show m ∈ DataW.weightsEach Tryz.prog ([22, 22] ++ _) ([d0, d1] ++ _) from by simp only [List.cons_append, DataW.weightsEach]; exact List.mem_append.2 (.inr (List.mem_append.2 (.inl hm))))
    simpa using hz
  obtain ⟨a1, len1, cap1, rfl⟩ := okWide_slice Tryz.underlying22 (hval 1 22 v1 rfl rfl)
  have hfu1' : DataW.trod enc Tryz.prog W 0 (fun _ => true) true fu1 22 [.slice a1 len1 cap1] = some (d1, p1) := hfu1
  obtain ⟨y1, hr1, bl1, by1, bb10⟩ := open_stmts hfu1' hwt1
  have bb1 : bulkL y1 ≤ Rows.uptoBulk d1 := bb10
  clear hA0 hval0
  refine ((printerPrints_c y0 y1 (by omega) (by omega)).2 (stOf W) W [.slice a0 len0 cap0, .slice a1 len1 cap1] (conc_start W) ⟨rfl, fun j v x hv hx => ?_⟩ hgl).mono fun e W' he => ?_
  · match j, hv, hx with
    | 0, hv, hx => simp at hv hx; subst hv; subst hx; exact hr0
    | 1, hv, hx => simp at hv hx; subst hv; subst hx; exact hr1
  cases e with
  | outgrown => exact he.elim
  | panicked c =>
    obtain ⟨st', r, H', k1, k2, rfl, rfl⟩ := he
    exact k2.elim
  | returned c =>
    obtain ⟨st', r, H', k1, k2, rfl, rfl⟩ := he
    cases k2
    have bel := below_of k1
    refine ⟨_, rfl, _, _, _, [], p0 ++ p1, [], hW', ?_, ?_, rfl, bel.frame _, fun h => by cases h⟩
    · exact trodAll_mk1 (shut_bool Tryz.underlying4 true)
    · have mk := trodAll_mk2 (Below.trod laidOut (by kernel_rfl) (of_decide_eq_true (by kernel_rfl)) h0 bel fun x hx => hlt x (by simp [hx])) (Below.trod laidOut (by kernel_rfl) (of_decide_eq_true (by kernel_rfl)) h1 bel fun x hx => hlt x (by simp [hx]))
      exact mk

theorem printerPrints_row : Rows.PrinterPrintsUptoSaid :=
  OpenClaim.holds_of_cond 6 Tryz.f6 rfl rfl rfl rfl rfl rfl rfl ⟨rfl, rfl, rfl, rfl, rfl⟩ rfl rfl rfl rfl rfl (by kernel_rfl) Tryz.func6 (by kernel_rfl)
    (of_decide_eq_true (by kernel_rfl)) (by unfold Func.isWrapper; rw [if_neg (by decide +kernel)]; exact ⟨rfl, rfl⟩)
    (fun os started H enc _ F => by rw [OpenClaim.pre_eq_preRow]; exact printerPrints_lifted os started H enc F)

/-- PrinterPrints returns true for every input of bulk at most 1048576, and what is handed in reads as it did; its tables tied to the program's text. -/
theorem printerPrints_holds : Rows.PrinterPrintsUptoCardSaid :=
  Claim7.holds_tied_plain_at .later [] _ true _ _
    printerPrints_row (fun _ h => by cases h) (by kernel_rfl) (fun _ h => by cases h) printerPrintsUpto_row_tie rfl ⟨rfl, rfl⟩ (by kernel_rfl) rfl
    (fun f fn hf hfn => by
      obtain rfl : f = 6 := Option.some.inj ((show Tryz.prog.funcNamed "porism/porismlaw23.PrinterPrints" = some 6 by kernel_rfl).symm.trans hf) |>.symm
      obtain rfl : fn = Tryz.f6 := (Option.some.inj (Tryz.func6.symm.trans hfn)).symm
      exact ⟨by kernel_rfl, fun j t ht => by
        rw [Tryz.params6] at ht
        have hm : t ∈ [22, 22] := by simpa using Array.mem_of_getElem? ht
        have hall : ([22, 22].all fun u => !Tryz.prog.wantsStandIn u) = true := by kernel_rfl
        exact (show Tryz.prog.wantsStandIn t = false by simpa using List.all_eq_true.1 hall t hm)⟩)
    (by kernel_rfl)

#print axioms printerPrints_holds

end Go.Proofs.YtjinaakebjfbiaaGreatDoor
