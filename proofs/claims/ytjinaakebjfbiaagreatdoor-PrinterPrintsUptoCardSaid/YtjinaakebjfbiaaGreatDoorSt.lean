/-
  Statements as any data: their cells; the line of any statement (parser.Line, porismref20.Line).
-/
import Derived.Test.YtjinaakebjfbiaaGreatDoorSm
import Derived.Test.YtjinaakebjfbiaaGreatDoorSi
import Derived.Test.YtjinaakebjfbiaaGreatDoorLj
namespace Go.Proofs.YtjinaakebjfbiaaGreatDoor
open Go.Ab

def lnWords (s : StI) : List (List UInt8) :=
  if s.k = 1 then wLimits :: s.args.map (·.w) else if s.k = 2 then [wMode, s.word.w] else if s.k = 3 then wPoint :: s.args.map (·.w)
  else if s.k = 4 then s.new.w :: [61] :: s.word.w :: s.args.map (·.w) else if s.k = 5 then wShow :: s.word.w :: s.args.map (·.w) else []

/-- A statement's line. -/
def lineI (s : StI) : List UInt8 := Lib.join (lnWords s) [32]

theorem lnWords_up (s : StR) : lnWords s.up = stWords s := by
  have e : (s.args.map TokR.up).map (·.w) = s.args.map (·.w) := by rw [List.map_map]; rfl
  simp only [lnWords, stWords, StR.up, e]
  rfl

/-- The words of a statement's line, added up. -/
def lenI (s : StI) : Nat := s.new.w.length + s.word.w.length + cntL (s.args.map (·.w))

theorem lineI_len (s : StI) : (lineI s).length ≤ lenI s + 20 := by
  have h := (join_cnt 32 (lnWords s)).1
  have e1 : ∀ (x : List UInt8) xs, cntL (x :: xs) = x.length + 1 + cntL xs := fun _ _ => rfl
  have e0 : cntL [] = 0 := rfl
  have l1 : wLimits.length = 6 := rfl
  have l2 : wMode.length = 4 := rfl
  have l3 : wPoint.length = 5 := rfl
  have l4 : wShow.length = 4 := rfl
  have l5 : ([61] : List UInt8).length = 1 := rfl
  unfold lineI
  refine Nat.le_trans h ?_
  unfold lnWords lenI
  split
  · rw [e1]; omega
  split
  · rw [e1, e1, e0]; omega
  split
  · rw [e1]; omega
  split
  · rw [e1, e1, e1]; omega
  split
  · rw [e1, e1]; omega
  · rw [e0]; omega

end Go.Proofs.YtjinaakebjfbiaaGreatDoor
