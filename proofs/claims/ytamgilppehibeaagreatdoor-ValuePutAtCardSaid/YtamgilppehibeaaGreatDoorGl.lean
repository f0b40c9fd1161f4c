/-
  What package-level variables hold throughout.
-/
import Derived.WalkKit
import Derived.Lib.LaidTab
import Derived.Lib.ItoaNum
namespace Go.Ab
structure GFact where
 b:Nat
 p:Array Value→Prop
def globs:List GFact:=
 ⟨1,fun c=>∃m,c= #[.int .i64 m]⟩::
 ⟨4,fun c=>∃t v,c= #[.iface t v]⟩::
 ⟨5,fun c=>∃t v,c= #[.iface t v]⟩::
 ⟨0,fun c=>c=(Lib.pow10Tab.map fun z=>Value.int .u64 z).toArray⟩::
 []
end Go.Ab
