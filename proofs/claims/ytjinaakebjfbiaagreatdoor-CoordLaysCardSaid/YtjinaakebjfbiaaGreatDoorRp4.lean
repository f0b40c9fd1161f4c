/-
  The document's parser: the same statements?
-/
import Derived.Test.YtjinaakebjfbiaaGreatDoorPr0
import Derived.Test.YtjinaakebjfbiaaGreatDoorRx3
namespace Go.Proofs.YtjinaakebjfbiaaGreatDoor
open Go.Ab

def sameT (a b : TokR) (bare : Bool) : Bool := a.k == b.k && a.w == b.w && a.n == b.n && (bare || (a.ln == b.ln && a.co == b.co))

def sameA (a b : List TokR) (bare : Bool) : Bool := (List.range a.length).all fun k => sameT (a.getD k default) (b.getD k default) bare
def sameS (a b : StR) (bare : Bool) : Bool := a.k == b.k && sameT a.new b.new bare && sameT a.word b.word bare && a.args.length == b.args.length && (bare || (a.at' == b.at' && a.en == b.en)) && sameA a.args b.args bare
def sameL (a b : List StR) (bare : Bool) : Bool := a.length == b.length && (List.range a.length).all fun i => sameS (a.getD i default) (b.getD i default) bare

end Go.Proofs.YtjinaakebjfbiaaGreatDoor
