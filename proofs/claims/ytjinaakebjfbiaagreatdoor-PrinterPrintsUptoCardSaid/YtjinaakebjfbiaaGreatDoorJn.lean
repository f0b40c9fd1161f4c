/-
  Plain law: the words of two scripts with a line end between; the statements of both.
-/
import Derived.Test.YtjinaakebjfbiaaGreatDoorRp4
import Derived.Test.YtjinaakebjfbiaaGreatDoorPq
import Derived.Test.YtjinaakebjfbiaaGreatDoorRp6
namespace Go.Proofs.YtjinaakebjfbiaaGreatDoor
open Go.Ab

def upD (d : Nat) (t : TokR) : TokR := { t with ln := t.ln + d }

def mapS {α β : Type} (d : Nat) (f : α → β) : (Nat × Nat) ⊕ α → (Nat × Nat) ⊕ β
  | .inl p => .inl (p.1 + d, p.2)
  | .inr x => .inr (f x)

def appS {α : Type} (x y : (Nat × Nat) ⊕ List α) : (Nat × Nat) ⊕ List α :=
  match x with
  | .inl p => .inl p
  | .inr r => preS r y

theorem linesG_app : ∀ (ps qs : List (List UInt8)) (n : Nat), linesG n (ps ++ qs) = appS (linesG n ps) (linesG (n + ps.length) qs)
  | [], qs, n => by simp only [List.nil_append, linesG, appS, preS_nil]; rfl
  | p :: ps, qs, n => by
    have e : n + (p :: ps).length = n + 1 + ps.length := by simp only [List.length_cons]; omega
    simp only [List.cons_append, linesG, linesG_app ps qs (n + 1), e]
    cases toksF (n + 1) (wordsF p) with
    | inl q => rfl
    | inr ts =>
      simp only
      cases linesG (n + 1) ps with
      | inl q => rfl
      | inr r =>
        simp only [appS]
        cases linesG (n + 1 + ps.length) qs with
        | inl q => rfl
        | inr r2 =>
          simp only [preS]
          by_cases h : ts = []
          · rw [if_pos h, if_pos h]
          · rw [if_neg h, if_neg h]; rfl

/-! Statements further down. -/

def downS (d : Nat) : (Nat × Nat) ⊕ StR → (Nat × Nat) ⊕ StR → Prop
  | .inl p, .inl q => q = (p.1 + d, p.2)
  | .inr a, .inr b => sameS b a true = true
  | _, _ => False

end Go.Proofs.YtjinaakebjfbiaaGreatDoor
