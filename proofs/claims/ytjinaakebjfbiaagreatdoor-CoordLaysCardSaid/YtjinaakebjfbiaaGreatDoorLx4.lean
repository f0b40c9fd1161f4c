/-
  The lexer's lines: what it tells of any script.
-/
import Derived.Test.YtjinaakebjfbiaaGreatDoorLx3
import Derived.Test.YtjinaakebjfbiaaGreatDoorAbB
namespace Go.Proofs.YtjinaakebjfbiaaGreatDoor
open Go.Ab

structure TokR where
  k : Int
  w : List UInt8
  n : Int
  ln : Nat
  co : Nat
  deriving DecidableEq, Inhabited

def tokE (t : TokR) : List AV := encT t.k t.w t.n t.ln t.co

def toksF (n : Nat) : List (Nat × List UInt8) → (Nat × Nat) ⊕ List TokR
  | [] => .inr []
  | (c, w) :: l => match tokF w with
    | none => .inl (n, c)
    | some (k, v) => match toksF n l with
      | .inl p => .inl p
      | .inr ts => .inr (⟨k, w, v, n, c⟩ :: ts)

def linesG (n : Nat) : List (List UInt8) → (Nat × Nat) ⊕ List (List TokR)
  | [] => .inr []
  | p :: ps => match toksF (n + 1) (wordsF p) with
    | .inl e => .inl e
    | .inr ts => match linesG (n + 1) ps with
      | .inl e => .inl e
      | .inr r => .inr (if ts = [] then r else ts :: r)

def linesF (s : List UInt8) : (Nat × Nat) ⊕ List (List TokR) := linesG 0 (splitC 10 s)

def preS {α ε : Type} (ts : List α) : ε ⊕ List α → ε ⊕ List α
  | .inl p => .inl p
  | .inr r => .inr (ts ++ r)

theorem preS_nil {α ε : Type} (x : ε ⊕ List α) : preS [] x = x := by cases x <;> rfl

def toksV (l : List TokR) : AV := sl tokE 5 l .view
def lineE (l : List TokR) : List AV := [toksV l]
def linesV (r : List (List TokR)) : AV := sl lineE 1 r .view
def placeV (l c : Int) : AV := .agg [.int .i64 l, .int .i64 c]

def linesR (s : List UInt8) : AV := if s.length > 65536 then .tuple [linesV [], placeV 0 0, .int .i64 3] else match linesF s with
  | .inl (l, c) => .tuple [linesV [], placeV l c, .int .i64 4]
  | .inr r => .tuple [linesV r, placeV 0 0, .int .i64 0]

theorem wordsG_len : ∀ (ps : List (List UInt8)) (k : Nat), (wordsG k ps).length ≤ ps.length
  | [], _ => Nat.le_refl _
  | p :: ps, k => by
    simp only [wordsG]
    split
    · simp
    · split
      · have := wordsG_len ps (k + 1); simp only [List.length_cons]; omega
      · have := wordsG_len ps (k + p.length + 1); simp only [List.length_cons]; omega

theorem splitC_count (c : UInt8) (l : List UInt8) : (splitC c l).length ≤ l.length + 1 := by
  have := splitC_len c l
  omega

theorem splitC_piece (c : UInt8) : ∀ (l p : List UInt8), p ∈ splitC c l → p.length ≤ l.length
  | [], p, h => by simp [splitC] at h; simp [h]
  | b :: l, p, h => by
    simp only [splitC] at h
    split at h
    · rcases List.mem_cons.1 h with rfl | h
      · simp
      · have := splitC_piece c l p h; simp; omega
    · split at h
      · simp at h; simp [h]
      · rename_i q qs hq
        rcases List.mem_cons.1 h with rfl | h
        · have := splitC_piece c l q (by rw [hq]; simp); simp; omega
        · have := splitC_piece c l p (by rw [hq]; simp [h]); simp; omega

theorem toksF_len (n : Nat) : ∀ (ws : List (Nat × List UInt8)) (ts : List TokR), toksF n ws = .inr ts → ts.length = ws.length
  | [], ts, h => by simp [toksF] at h; simp [← h]
  | (c, w) :: l, ts, h => by
    simp only [toksF] at h
    split at h
    · cases h
    · split at h
      · cases h
      · rename_i r hr
        simp only [Sum.inr.injEq] at h
        subst h
        simp [toksF_len n l r hr]

/-- The heap's part that lasts through the lines. -/
def linesCore (b2 b3 b4 b5 b6 : Nat) (k : Int) (outs : List (List TokR)) (a : Option Addr) (cap : Nat) : AHeap :=
  [.tok a cap outs.length 1 45, .box b6 3 (.int .i64 k), .box b5 126 (sl lineE 1 outs (.own a cap)), .box b4 29 (.int .i64 0), .box b3 39 (placeV 0 0), .box b2 126 .nils]

theorem linesR_inl {s : List UInt8} (h : ¬ s.length > 65536) {l c : Nat} (hf : linesF s = .inl (l, c)) : linesR s = .tuple [linesV [], placeV l c, .int .i64 4] := by
  unfold linesR
  rw [if_neg h, hf]
theorem linesR_inr {s : List UInt8} (h : ¬ s.length > 65536) {r : List (List TokR)} (hf : linesF s = .inr r) : linesR s = .tuple [linesV r, placeV 0 0, .int .i64 0] := by
  unfold linesR
  rw [if_neg h, hf]

end Go.Proofs.YtjinaakebjfbiaaGreatDoor
