/-
  Plain law of layer 20: lines whose words stand elsewhere have the same statements, but for places; a statement for each line.
-/
import Derived.Test.YtjinaakebjfbiaaGreatDoorRp4
import Derived.Test.YtjinaakebjfbiaaGreatDoorPq
import Derived.Test.YtjinaakebjfbiaaGreatDoorRp6
import Derived.Test.YtjinaakebjfbiaaGreatDoorBkM
namespace Go.Proofs.YtjinaakebjfbiaaGreatDoor
open Go.Ab

/-- A word without its place. -/
def erT (t : TokR) : TokR := { t with ln := 0, co := 0 }

/-- Both do not fit; or both are told, alike but for places. -/
def simS {α β γ : Type} (R : β → γ → Prop) : α ⊕ β → α ⊕ γ → Prop
  | .inl _, .inl _ => True
  | .inr a, .inr b => R a b
  | _, _ => False

/-! A statement for each line. -/

def headOf (k : Int) : Nat := if k = 2 then 2 else if k = 4 then 3 else if k = 5 then 2 else 1

/-- The words of a statement's line. -/
def stWords (s : StR) : List (List UInt8) :=
  if s.k = 1 then wLimits :: s.args.map (·.w) else if s.k = 2 then [wMode, s.word.w] else if s.k = 3 then wPoint :: s.args.map (·.w)
  else if s.k = 4 then s.new.w :: [61] :: s.word.w :: s.args.map (·.w) else if s.k = 5 then wShow :: s.word.w :: s.args.map (·.w) else []

structure StPl (l : List TokR) (x : StR) : Prop where
  ne : l ≠ []
  at' : x.at' = ((l.getD 0 default).ln, (l.getD 0 default).co)
  en : x.en = endOf l
  k1 : 1 ≤ x.k
  k5 : x.k ≤ 5
  len : headOf x.k ≤ l.length
  args : x.args = l.drop (headOf x.k)
  words : (∀ t ∈ l, t.k = 4 → t.w = [61]) → stWords x = l.map (·.w)

end Go.Proofs.YtjinaakebjfbiaaGreatDoor
