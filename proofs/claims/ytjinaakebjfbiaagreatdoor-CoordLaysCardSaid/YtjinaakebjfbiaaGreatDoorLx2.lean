/-
  The lexer's kinds of words, and what a word is.
-/
import Derived.Test.YtjinaakebjfbiaaGreatDoorLx1
import Derived.Lib.AtoiAll
import Derived.Lib.ItoaNum
namespace Go.Proofs.YtjinaakebjfbiaaGreatDoor
open Go.Ab

def kind3 (s : List UInt8) : Bool := allF namedR s 1 8 && decide (((s.getD 0 0).toNat : Int) ≥ 65) && decide (((s.getD 0 0).toNat : Int) ≤ 90)

def tokF (w : List UInt8) : Option (Int × Int) :=
  if w == [61] then some (4, 0)
  else if allF smallR w 1 16 then some (2, 0)
  else if kind3 w then some (1, 0)
  else match Lib.atoiAll w with
    | .ok v => if (!(Lib.itoa v == w) || decide (v > 1000000)) || decide (v < -1000000) then none else some (3, v)
    | _ => none

def encT (k : Int) (w : List UInt8) (n line col : Int) : List AV := [.int .u8 k, .str w, .int .i64 n, .int .i64 line, .int .i64 col]

def tokV (w : List UInt8) : AV := match tokF w with
  | some (k, n) => .tuple [.agg (encT k w n 0 0), .bool true]
  | none => .tuple [.agg (encT 0 [] 0 0 0), .bool false]

end Go.Proofs.YtjinaakebjfbiaaGreatDoor
