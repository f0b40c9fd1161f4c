/-
  The figures: two that are known; by their numbers.
-/
import Derived.Test.YtpodjhapjcncdaaDoorFg7
namespace Go.Proofs.YtpodjhapjcncdaaDoor
open Go.Ab

def footF : FigR := ⟨[102, 111, 111, 116], 3, 0, [(1, 2)], [[⟨1, 0, [⟨3, 2, 0, 2, 3⟩]⟩], [⟨1, 0, [⟨4, 1, 0, 2, 3⟩]⟩]], [117, 110, 108, 105, 107, 101], [2, 3]⟩
def collF : FigR := ⟨[99, 111, 108, 108, 105, 110, 101, 97, 114], 3, 0, [], [[⟨1, 0, [⟨3, 0, 1, 0, 2⟩]⟩]], [], []⟩
set_option maxRecDepth 100000 in
theorem foot_eq : conF [102, 111, 111, 116] = some footF := by decide +kernel
set_option maxRecDepth 100000 in
theorem coll_eq : preF [99, 111, 108, 108, 105, 110, 101, 97, 114] = some collF := by decide +kernel

theorem cbKn21 : Callable Tryd.prog 7 := fun _ _ => by kernel_rfl
set_option maxHeartbeats 3200000 in
set_option maxRecDepth 100000 in
theorem known21_c : PCalls Tryd.prog 7 [] (.bool true) := by
  refine pcalls_of_awp tyok cbKn21 Tryd.func7 rfl rfl ?_
  have g1 := construction_c [102, 111, 111, 116]
  have g2 := predicate_c [99, 111, 108, 108, 105, 110, 101, 97, 114]
  rw [foot_eq] at g1
  rw [coll_eq] at g2
  simp only [figV] at g1 g2
  repeat (first | refine wK ?_ | refine awp_seq_k (fun K hK => ?_) | refine areg_text mixed tyok (by decide +kernel) ?_ | refine qal tyok (fun bx => ?_) | refine qbox (fun bx => ?_) | refine qboxV (fun bx => ?_) | refine TR.pcall rfl rfl rfl rfl True.intro rfl rfl (g1) ?_ | refine TR.pcall rfl rfl rfl rfl True.intro rfl rfl (g2) ?_ | refine pco rfl rfl rfl rfl rfl rfl rfl rfl (fun _ => g1) ?_ | refine pco rfl rfl rfl rfl rfl rfl rfl rfl (fun _ => g2) ?_ | ((repeat ((fail_if_success (refine hK _ _ ?_)); clear hK)); refine hK _ _ ?_; clear hK))
  refine r1 ?_
  exact Sub.refl _

end Go.Proofs.YtpodjhapjcncdaaDoor
