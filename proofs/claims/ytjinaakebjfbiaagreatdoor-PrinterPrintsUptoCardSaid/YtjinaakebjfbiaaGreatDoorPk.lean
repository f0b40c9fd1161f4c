/-
  What layer 23 knows of one script.
-/
import Derived.Test.YtjinaakebjfbiaaGreatDoorPnM
import Derived.Test.YtjinaakebjfbiaaGreatDoorShK
namespace Go.Proofs.YtjinaakebjfbiaaGreatDoor
open Go.Ab

def wordOkK (t : TokI) : Bool := match tokK t.w with
  | none => false
  | some (k, n) => k == t.k && n == t.n
theorem wordOk_K : wordOk = wordOkK := by
  funext t
  unfold wordOk wordOkK
  rw [tokF_K]
  cases tokK t.w <;> rfl

/-- Small, as a check. -/
def smallB (l : List StI) : Bool := decide (l.length ≤ 100000) && l.all fun x => decide (x.args.length ≤ 3000) && decide (lenI x ≤ 3000) && decide (x.new.w.length ≤ 3000) && decide (x.word.w.length ≤ 3000) && x.args.all fun t => decide (t.w.length ≤ 3000)

theorem sumLen_le : ∀ (l : List StI) (n : Nat), (∀ x ∈ l, lenI x ≤ n) → sumLen l ≤ l.length * (n + 21)
  | [], n, _ => by simp [sumLen]
  | x :: l, n, h => by
    have h1 := sumLen_le l n fun y hy => h y (List.mem_cons_of_mem _ hy)
    have h2 := h x (List.mem_cons_self ..)
    have e : (l.length + 1) * (n + 21) = l.length * (n + 21) + (n + 21) := Nat.succ_mul _ _
    simp only [sumLen, List.map_cons, List.sum_cons, List.length_cons] at h1 ⊢
    omega

theorem small_of {l : List StI} (h : smallB l = true) : Small l := by
  simp only [smallB, Bool.and_eq_true, decide_eq_true_eq, List.all_eq_true] at h
  obtain ⟨h1, h2⟩ := h
  have h3 := sumLen_le l 3000 fun x hx => (h2 x hx).1.1.1.2
  refine ⟨by omega, fun x hx => ?_, fun x hx => ?_, fun x hx => ?_, fun x hx => ?_, fun x hx t ht => ?_, by omega⟩
  · have := (h2 x hx).1.1.1.1; omega
  · have := (h2 x hx).1.1.1.2; omega
  · have := (h2 x hx).1.1.2; omega
  · have := (h2 x hx).1.2; omega
  · have := (h2 x hx).2 t ht; omega

def knS : List UInt8 := [108, 105, 109, 105, 116, 115, 32, 49, 32, 49, 32, 49, 32, 49, 10, 10, 109, 111, 100, 101, 32, 32, 102, 117, 108, 108, 10, 112, 111, 105, 110, 116, 32, 65, 32, 66, 32, 35, 32, 116, 119, 111, 10, 115, 104, 111, 119, 32, 115, 97, 109, 101, 32, 65, 32, 66]
def knT : List UInt8 := [108, 105, 109, 105, 116, 115, 32, 49, 32, 49, 32, 49, 32, 49, 10, 109, 111, 100, 101, 32, 102, 117, 108, 108, 10, 112, 111, 105, 110, 116, 32, 65, 32, 66, 10, 115, 104, 111, 119, 32, 115, 97, 109, 101, 32, 65, 32, 66, 10]
noncomputable def knB (x : (Int × Int × Int) ⊕ List StR) : Bool := match x with
  | .inl _ => false
  | .inr r => smallB (r.map StR.up) && (r.map StR.up).all (fun x => (wordsL x).all wordOkK) && (printT (r.map StR.up) == knT) && (((r.map StR.up).getD 1 default).word.w == wFull) && decide ((((r.map StR.up).getD 0 default).args.getD 0 default).n = 1)

set_option maxRecDepth 100000 in
theorem knK : knB (scriptF knS) = true := by rw [scriptF_K]; decide +kernel

theorem cbKn23 : Callable Tryz.prog 24 := fun _ _ => by kernel_rfl
set_option maxHeartbeats 3200000 in
set_option maxRecDepth 100000 in
theorem known23_c : PCalls Tryz.prog 24 [] (.bool true) := by
  refine pcalls_of_awp tyok cbKn23 Tryz.func24 rfl rfl ?_
  have g1 := script22_c knS (by decide)
  have h4 := knK
  cases hs : scriptF knS with
  | inl p => rw [hs] at h4; cases h4
  | inr r =>
    rw [hs] at g1 h4
    simp only [knB, Bool.and_eq_true, decide_eq_true_eq, beq_iff_eq] at h4
    obtain ⟨⟨⟨⟨a1, a2⟩, a3⟩, a4⟩, a5⟩ := h4
    obtain ⟨i1, i2, i3⟩ := scriptF_inr hs
    have sm := small_of a1
    have ea : (r.map StR.up).all okAll = true := by
      unfold okAll
      rw [wordOk_K]
      exact a2
    have ep : printF (r.map StR.up) = (0, knT) := by
      unfold printF
      rw [if_neg (by simpa using i3), if_pos ea, a3]
    have g2 := PCalls.sub (print_c _ sm) (.cons (stmts_up r) .nil)
    rw [ep] at g2
    have g3 := PCalls.sub (full_c (r.map StR.up) (by have := sm.len; omega) (fun x hx => by have := sm.args x hx; omega)) (.cons (stmts_up r) .nil)
    rw [decide_eq_true i3, a4] at g3
    have g4 := PCalls.sub (plimits_c (r.map StR.up) (by have := sm.len; omega) (fun x hx => by have := sm.args x hx; omega)) (.cons (stmts_up r) .nil)
    unfold limsV at g4
    rw [decide_eq_true i3, a5] at g4
    simp only [scriptV] at g1
    ((repeat (first | refine wKB ?_ | refine awp_seq_k (fun K hK => ?_) | refine areg_text mixed tyok (by decide +kernel) ?_ | refine TR.pcall rfl rfl rfl rfl True.intro rfl rfl (g1) ?_ | refine TR.pcall rfl rfl rfl rfl True.intro rfl rfl (g2) ?_ | refine TR.pcall rfl rfl rfl rfl True.intro rfl rfl (g3) ?_ | refine TR.pcall rfl rfl rfl rfl True.intro rfl rfl (g4) ?_ | refine pco rfl rfl rfl rfl rfl rfl rfl rfl (fun _ => g1) ?_ | refine pco rfl rfl rfl rfl rfl rfl rfl rfl (fun _ => g2) ?_ | refine pco rfl rfl rfl rfl rfl rfl rfl rfl (fun _ => g3) ?_ | refine pco rfl rfl rfl rfl rfl rfl rfl rfl (fun _ => g4) ?_ | ((repeat ((fail_if_success (refine hK _ _ ?_)); clear hK)); refine hK _ _ ?_; clear hK))); ((first | refine qal tyok (fun c1 => ?_) | refine qbox (fun c1 => ?_) | refine qboxV (fun c1 => ?_))); (repeat (first | refine wKB ?_ | refine awp_seq_k (fun K hK => ?_) | refine areg_text mixed tyok (by decide +kernel) ?_ | refine qal tyok (fun bx => ?_) | refine qbox (fun bx => ?_) | refine qboxV (fun bx => ?_) | refine TR.pcall rfl rfl rfl rfl True.intro rfl rfl (g1) ?_ | refine TR.pcall rfl rfl rfl rfl True.intro rfl rfl (g2) ?_ | refine TR.pcall rfl rfl rfl rfl True.intro rfl rfl (g3) ?_ | refine TR.pcall rfl rfl rfl rfl True.intro rfl rfl (g4) ?_ | refine pco rfl rfl rfl rfl rfl rfl rfl rfl (fun _ => g1) ?_ | refine pco rfl rfl rfl rfl rfl rfl rfl rfl (fun _ => g2) ?_ | refine pco rfl rfl rfl rfl rfl rfl rfl rfl (fun _ => g3) ?_ | refine pco rfl rfl rfl rfl rfl rfl rfl rfl (fun _ => g4) ?_ | ((repeat ((fail_if_success (refine hK _ _ ?_)); clear hK)); refine hK _ _ ?_; clear hK))))
    refine r1 ?_
    exact Sub.refl _

end Go.Proofs.YtjinaakebjfbiaaGreatDoor
