/-
  Statements as any data: their cells; the line of any statement (parser.Line, porismref20.Line).
-/
import Derived.Test.YtjinaakebjfbiaaGreatDoorSm
import Derived.Test.YtjinaakebjfbiaaGreatDoorSi
import Derived.Test.YtjinaakebjfbiaaGreatDoorLj
namespace Go.Proofs.YtjinaakebjfbiaaGreatDoor
open Go.Ab

def lnWords (s : StI) : List (List UInt8) :=
  if s.k = 1 then wLimits :: s.args.map (·.w) else if s.k = 2 then [wMode, s.word.w] else if s.k = 3 then wPoint :: s.args.map (·.w)
  else if s.k = 4 then s.new.w :: [61] :: s.word.w :: s.args.map (·.w) else if s.k = 5 then wShow :: s.word.w :: s.args.map (·.w) else []

/-- A statement's line. -/
def lineI (s : StI) : List UInt8 := Lib.join (lnWords s) [32]

/-- The words of a statement's line, added up. -/
def lenI (s : StI) : Nat := s.new.w.length + s.word.w.length + cntL (s.args.map (·.w))

end Go.Proofs.YtjinaakebjfbiaaGreatDoor
