/-
  What package-level variables hold throughout.
-/
import Derived.WalkKit
import Derived.Lib.LaidTab
namespace Go.Ab
structure GFact where
 b:Nat
 p:Array Value→Prop
def globs:List GFact:=
 []
end Go.Ab
