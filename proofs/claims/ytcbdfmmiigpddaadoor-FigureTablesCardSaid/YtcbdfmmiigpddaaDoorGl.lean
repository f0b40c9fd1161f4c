/-
  What package-level variables hold throughout.
-/
import Derived.WalkKit
import Derived.Lib.LaidTab
import Derived.Lib.Space
namespace Go.Ab
structure GFact where
 b:Nat
 p:Array Value→Prop
def globs:List GFact:=
 ⟨2,fun c=>∃m,c= #[.int .i64 m]⟩::
 ⟨0,fun c=>c=(Lib.asciiSpaceTab.map fun z=>Value.int .u8 z).toArray⟩::
 []
end Go.Ab
