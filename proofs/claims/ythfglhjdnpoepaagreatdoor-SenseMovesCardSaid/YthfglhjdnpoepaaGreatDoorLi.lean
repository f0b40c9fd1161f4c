/-
  How long a statement's words are.
-/
import Derived.Test.YthfglhjdnpoepaaGreatDoorSi
namespace Go.Proofs.YthfglhjdnpoepaaGreatDoor
def cntL (xs:List (List UInt8)):Nat:=(xs.map fun x=>x.length+1).sum
def lenI (s:StI):Nat:=s.new.w.length+s.word.w.length+cntL (s.args.map (·.w))
end Go.Proofs.YthfglhjdnpoepaaGreatDoor
