/-
  LexerWord: a script of one word, and of two. The plain law.
-/
import Derived.Test.YtjinaakebjfbiaaGreatDoorLx4
import Derived.Test.YtjinaakebjfbiaaGreatDoorCa
import Derived.Lib.Join
namespace Go.Proofs.YtjinaakebjfbiaaGreatDoor
open Go.Ab

def remk : List UInt8 := [32, 35, 32, 97, 32, 114, 101, 109, 97, 114, 107]

/-- A word as the law takes it. -/
def plainW (w : List UInt8) : Prop := w ≠ [] ∧ w.getD 0 0 ≠ 35 ∧ (∀ b ∈ w, b ≠ 32) ∧ ∀ b ∈ w, b ≠ 10

end Go.Proofs.YtjinaakebjfbiaaGreatDoor

/-
  LexerBack, the plain law: words told with blanks between are read again as they are; lines ahead shift lines alone.
-/
namespace Go.Proofs.YtjinaakebjfbiaaGreatDoor
open Go.Ab

/-- What is known of a token that was read. -/
def goodT (t : TokR) : Prop := plainW t.w ∧ tokF t.w = some (t.k, t.n)

/-! Lines ahead. -/

def up2 (t : TokR) : TokR := { t with ln := t.ln + 2 }

end Go.Proofs.YtjinaakebjfbiaaGreatDoor

/-
  LexerBack, the plain law: words told with blanks between are read again.
-/
namespace Go.Proofs.YtjinaakebjfbiaaGreatDoor
open Go.Ab

def wordT (l : List TokR) : List UInt8 := Lib.join (l.map (·.w)) [32]
def toldT (r : List (List TokR)) : List UInt8 := Lib.join (r.map wordT) [10]

def reT (n : Nat) : Nat → List TokR → List TokR
  | _, [] => []
  | c, t :: l => ⟨t.k, t.w, t.n, n, c⟩ :: reT n (c + t.w.length + 1) l

def reL : Nat → List (List TokR) → List (List TokR)
  | _, [] => []
  | n, l :: r => reT (n + 1) 1 l :: reL (n + 1) r

def posW : Nat → List (List UInt8) → List (Nat × List UInt8)
  | _, [] => []
  | k, w :: ws => (k + 1, w) :: posW (k + w.length + 1) ws

/-! How long it is. -/

def cntL (xs : List (List UInt8)) : Nat := (xs.map fun x => x.length + 1).sum

/-! What the told words are. -/

end Go.Proofs.YtjinaakebjfbiaaGreatDoor
