/-
  Statements as any data: their cells.
-/
import Derived.Test.YthfglhjdnpoepaaGreatDoorAbC
import Derived.Test.YthfglhjdnpoepaaGreatDoorSd
namespace Go.Proofs.YthfglhjdnpoepaaGreatDoor
open Go.Ab
structure TokI where
 k:Int
 w:List UInt8
 n:Int
 ln:Int
 co:Int
 deriving DecidableEq,Inhabited
structure StI where
 k:Int
 new:TokI
 word:TokI
 args:List TokI
 l1:Int
 c1:Int
 l2:Int
 c2:Int
 deriving DecidableEq,Inhabited
def tokEI (t:TokI):List AV:=encT t.k t.w t.n t.ln t.co
def stmtEI (s:StI):List AV:=.int .u8 s.k::(tokEI s.new++(tokEI s.word++[sl tokEI 5 s.args .view,.int .i64 s.l1,.int .i64 s.c1,.int .i64 s.l2,.int .i64 s.c2]))
def stmtsI (l:List StI):AV:=sl stmtEI 16 l .view
end Go.Proofs.YthfglhjdnpoepaaGreatDoor
