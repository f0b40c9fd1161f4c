/-
  The library's functions that are called, with abstract values: by the contracts of the library.
-/
import Derived.Test.YtkbdklmdcbmgkaaGreatTy
import Derived.Test.YtkbdklmdcbmgkaaGreatShelf
import Derived.Lib.SmallJoins
import Derived.Lib.QuietBelow
namespace Go.Proofs.YtkbdklmdcbmgkaaGreat
open Go.Ab Go.RowKit
theorem repL1 {st:Stab} {w:World} {a:AV} {xs:List Value} (h:RepL st w [a] xs):∃x,xs=[x]∧Rep st w a x:=by
 match xs,h with
 |[x],h=>exact⟨x,rfl,h.2 0 a x rfl rfl⟩
end Go.Proofs.YtkbdklmdcbmgkaaGreat
