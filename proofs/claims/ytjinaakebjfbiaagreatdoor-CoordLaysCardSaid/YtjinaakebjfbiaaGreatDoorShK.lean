/-
  What is known of four scripts (printed by genshk.py).
-/
import Derived.Test.YtjinaakebjfbiaaGreatDoorShM
import Derived.Test.YtjinaakebjfbiaaGreatDoorRx1
namespace Go.Proofs.YtjinaakebjfbiaaGreatDoor
open Go.Ab

def toksP (f : List UInt8 → Option (Int × Int)) (n : Nat) : List (Nat × List UInt8) → (Nat × Nat) ⊕ List TokR
  | [] => .inr []
  | (c, w) :: l => match f w with
    | none => .inl (n, c)
    | some (k, v) => match toksP f n l with
      | .inl p => .inl p
      | .inr ts => .inr (⟨k, w, v, n, c⟩ :: ts)

def linesP (f : List UInt8 → Option (Int × Int)) (n : Nat) : List (List UInt8) → (Nat × Nat) ⊕ List (List TokR)
  | [] => .inr []
  | p :: ps => match toksP f (n + 1) (wordsF p) with
    | .inl e => .inl e
    | .inr ts => match linesP f (n + 1) ps with
      | .inl e => .inl e
      | .inr r => .inr (if ts = [] then r else ts :: r)

theorem toksF_P (n : Nat) : ∀ l, toksF n l = toksP tokF n l
  | [] => rfl
  | (c, w) :: l => by
    simp only [toksF, toksP]
    cases tokF w with
    | none => rfl
    | some q =>
      obtain ⟨k, v⟩ := q
      simp only [toksF_P n l]
      cases toksP tokF n l <;> rfl

theorem linesG_P : ∀ (ps : List (List UInt8)) (n : Nat), linesG n ps = linesP tokF n ps
  | [], _ => rfl
  | p :: ps, n => by
    simp only [linesG, linesP, toksF_P]
    cases toksP tokF (n + 1) (wordsF p) with
    | inl e => rfl
    | inr ts =>
      simp only [linesG_P ps]
      cases linesP tokF (n + 1) ps <;> rfl

def tokK (w : List UInt8) : Option (Int × Int) := if w == [61] then some (4, 0) else if allF smallR w 1 16 then some (2, 0) else if kind3 w then some (1, 0) else (refNum w).map fun v => (3, v)
theorem tokF_K : tokF = tokK := funext tokF_eq

def parseK (s : List UInt8) : (Nat × Nat) ⊕ List StR := match linesP tokK 0 (splitC 10 s) with
  | .inl e => .inl e
  | .inr ls => parseG ls
theorem parseF_K (s : List UInt8) : parseF s = parseK s := by
  unfold parseF parseK linesF
  rw [linesG_P, tokF_K]
  rfl

noncomputable def scriptK (s : List UInt8) : (Int × Int × Int) ⊕ List StR :=
  if s.length > 65536 then .inl (0, 0, 3) else match parseK s with
    | .inl (l, c) => .inl (l, c, 4)
    | .inr r => if (lookF (r.map StR.up)).e = 0 then .inr r else .inl ((lookF (r.map StR.up)).ln, (lookF (r.map StR.up)).co, (lookF (r.map StR.up)).e)
theorem scriptF_K (s : List UInt8) : scriptF s = scriptK s := by
  unfold scriptF scriptK
  rw [parseF_K]
  by_cases h : s.length > 65536
  · rw [if_pos h, if_pos h]
  · rw [if_neg h, if_neg h]
    cases parseK s <;> rfl

noncomputable def five (x : (Int × Int × Int) ⊕ List StR) : Bool := match x with
  | .inl _ => false
  | .inr r => decide (r.length = 5) && decide ((lookF (r.map StR.up)).ns.length = 3)

def shS1 : List UInt8 := [108, 105, 109, 105, 116, 115, 32, 49, 48, 48, 32, 49, 48, 32, 49, 48, 48, 32, 49, 48, 10, 109, 111, 100, 101, 32, 115, 105, 109, 112, 108, 101, 10, 112, 111, 105, 110, 116, 32, 65, 32, 66, 10, 77, 32, 61, 32, 109, 105, 100, 112, 111, 105, 110, 116, 32, 65, 32, 67, 10, 115, 104, 111, 119, 32, 115, 97, 109, 101, 32, 65, 32, 66]
def shS2 : List UInt8 := [108, 105, 109, 105, 116, 115, 32, 49, 48, 48, 32, 49, 48, 32, 49, 48, 48, 32, 49, 48, 10, 109, 111, 100, 101, 32, 115, 105, 109, 112, 108, 101, 10, 112, 111, 105, 110, 116, 32, 65, 32, 66, 10, 70, 32, 61, 32, 102, 111, 111, 116, 32, 65, 32, 66, 32, 66, 10, 115, 104, 111, 119, 32, 115, 97, 109, 101, 32, 65, 32, 66]
def shS3 : List UInt8 := [108, 105, 109, 105, 116, 115, 32, 49, 48, 48, 32, 49, 48, 32, 49, 48, 48, 32, 49, 48, 10, 109, 111, 100, 101, 32, 115, 105, 109, 112, 108, 101, 10, 112, 111, 105, 110, 116, 32, 65, 32, 66, 32, 65, 10, 115, 104, 111, 119, 32, 115, 97, 109, 101, 32, 65, 32, 66]
def shS4 : List UInt8 := [108, 105, 109, 105, 116, 115, 32, 49, 48, 48, 32, 49, 48, 32, 49, 48, 48, 32, 49, 48, 10, 109, 111, 100, 101, 32, 115, 105, 109, 112, 108, 101, 10, 112, 111, 105, 110, 116, 32, 65, 32, 66, 10, 77, 32, 61, 32, 109, 105, 100, 112, 111, 105, 110, 116, 32, 65, 32, 66, 10, 115, 104, 111, 119, 32, 99, 111, 108, 108, 105, 110, 101, 97, 114, 32, 65, 32, 66, 32, 77]

theorem scriptF_inr {s : List UInt8} {r : List StR} (h : scriptF s = .inr r) : s.length ≤ 65536 ∧ parseF s = .inr r ∧ (lookF (r.map StR.up)).e = 0 := by
  unfold scriptF at h
  split at h
  · cases h
  rename_i hl
  refine ⟨by omega, ?_⟩
  split at h
  · cases h
  · rename_i r' hp
    split at h
    · rename_i he
      cases h
      exact ⟨hp, he⟩
    · cases h


end Go.Proofs.YtjinaakebjfbiaaGreatDoor
