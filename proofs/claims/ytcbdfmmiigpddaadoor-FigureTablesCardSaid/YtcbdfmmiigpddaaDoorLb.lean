/-
  The library's functions that are called, with abstract values: by the contracts of the library.
-/
import Derived.Test.YtcbdfmmiigpddaaDoorTy
import Derived.Test.YtcbdfmmiigpddaaDoorShelf
import Derived.Lib.SmallJoins
import Derived.Lib.QuietBelow
namespace Go.Proofs.YtcbdfmmiigpddaaDoor
open Go.Ab Go.RowKit
theorem repL1 {st:Stab} {w:World} {a:AV} {xs:List Value} (h:RepL st w [a] xs):∃x,xs=[x]∧Rep st w a x:=by
 match xs,h with
 |[x],h=>exact⟨x,rfl,h.2 0 a x rfl rfl⟩
theorem repL2 {st:Stab} {w:World} {a b:AV} {xs:List Value} (h:RepL st w [a,b] xs):∃x y,xs=[x,y]∧Rep st w a x∧Rep st w b y:=by
 match xs,h with
 |[x,y],h=>exact⟨x,y,rfl,h.2 0 a x rfl rfl,h.2 1 b y rfl rfl⟩
theorem repL_s {st:Stab} {w:World} {s:List UInt8} {xs:List Value} (h:RepL st w [.str s] xs):xs=[.string ⟨s.toArray⟩]:=by
 obtain⟨x,rfl,h1⟩:=repL1 h
 rw[h1.str_eq]
theorem repL_ss {st:Stab} {w:World} {s t:List UInt8} {xs:List Value} (h:RepL st w [.str s,.str t] xs):xs=[.string ⟨s.toArray⟩,.string ⟨t.toArray⟩]:=by
 obtain⟨x,y,rfl,h1,h2⟩:=repL2 h
 rw[h1.str_eq,h2.str_eq]
theorem gl_at {H:AHeap} {w:World} (h:Gl H w) (i:Nat) {g:GFact} (hi:globs[i]?=some g):∃c t f,w.heap[g.b]?=some (.cells c t f)∧g.p c:=(h g (List.mem_of_getElem? hi)).2
theorem cell_of_block {w:World} {b:Nat} {c:Array Value} {t:TypeId} {f:Nat×Nat} (h:w.heap[b]?=some (.cells c t f)) (o:Nat):w.cell? ⟨b,o,none⟩=c[o]?:=by
 unfold World.cell?
 rw[h]
 rfl
theorem index1_c (s:List UInt8) (c:UInt8):PCalls Tryd.prog 42 [.str s,.str [c]] (.int .i64 (Lib.indexByte s c)):=
 pcalls_of_below (fun _ _=>by kernel_rfl) fun st w xs hx _=>by
  rw[repL_ss hx]
  refine(Tryd.strings_Index_one ⟨s.toArray⟩ c w).mono ?_
  rintro e w' ⟨rfl,rfl⟩
  exact⟨_,rfl,fun _ _=>.int _ _,Below.refl _ _⟩
theorem count1_c (s:List UInt8) (c:UInt8):PCalls Tryd.prog 44 [.str s,.str [c]] (.int .i64 (Lib.countByte s c)):=
 pcalls_of_below (fun _ _=>by kernel_rfl) fun st w xs hx _=>by
  rw[repL_ss hx]
  refine(Tryd.strings_Count_one ⟨s.toArray⟩ c w).mono ?_
  rintro e w' ⟨rfl,rfl⟩
  exact⟨_,rfl,fun _ _=>.int _ _,Below.refl _ _⟩
end Go.Proofs.YtcbdfmmiigpddaaDoor
