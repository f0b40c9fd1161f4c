/-
  Words and places as data: their cells.
-/
import Derived.Test.YtlnhgdiklfaeeaaDoorAbB
namespace Go.Proofs.YtlnhgdiklfaeeaaDoor
open Go.Ab
def encT (k:Int) (w:List UInt8) (n line col:Int):List AV:=[.int .u8 k,.str w,.int .i64 n,.int .i64 line,.int .i64 col]
def placeV (l c:Int):AV:=.agg [.int .i64 l,.int .i64 c]
end Go.Proofs.YtlnhgdiklfaeeaaDoor
