/-
  A line's statement.
-/
import Derived.Test.YtjinaakebjfbiaaGreatDoorPr1
namespace Go.Proofs.YtjinaakebjfbiaaGreatDoor
open Go.Ab

theorem getLastD_getD (t : TokR) (l : List TokR) : (t :: l).getD l.length default = (t :: l).getLastD tok0 := by
  rw [List.getD_eq_getElem?_getD, List.getLastD_eq_getLast?, List.getLast?_eq_getElem?]
  simp

theorem Sub.aggL {vs vs' : List AV} (h : SubL vs vs') : Sub (.agg vs) (.agg vs') := by
  intro st w c hr
  cases hr with
  | agg _ cs hl hh =>
    exact .agg vs' cs (by rw [hl, h.length]) fun j v' x hv hx => by
      obtain ⟨v, h1, h2⟩ := h.get j v' hv
      exact h2 _ _ _ (hh j v x h1 hx)

theorem kins1 (a : Int) : Sub (.slice 1 1 (chunk [.int .u8 a] 1) .full) (kinsV [a]) :=
  (Sub.view _ _ _ _).trans (Sub.els fun i hi => match i, hi with
    | 0, _ => SubL.refl _)

theorem kins2 (a b : Int) : Sub (.slice 1 2 (chunk [.int .u8 a, .int .u8 b] 1) .full) (kinsV [a, b]) :=
  (Sub.view _ _ _ _).trans (Sub.els fun i hi => match i, hi with
    | 0, _ => SubL.refl _
    | 1, _ => SubL.refl _)

theorem needK_ok {k : Int} {t : TokR} {r : List TokR} {e : Nat × Nat} {f : TokR → List TokR → (Nat × Nat) ⊕ StR} (hk : t.k = k) : needK k (t :: r) e f = f t r := by
  simp only [needK, if_pos hk]

theorem needK_no {k : Int} {r : List TokR} {e : Nat × Nat} {f : TokR → List TokR → (Nat × Nat) ⊕ StR} (h : ∀ t l', r = t :: l' → t.k ≠ k) : needK k r e f = .inl (atP e r) := by
  cases r with
  | nil => rfl
  | cons t r => simp only [needK, if_neg (h t r rfl), atP]

def stmtB (b : Nat) (v : List AV) : Ent := .box b 47 (.agg v)

end Go.Proofs.YtjinaakebjfbiaaGreatDoor
