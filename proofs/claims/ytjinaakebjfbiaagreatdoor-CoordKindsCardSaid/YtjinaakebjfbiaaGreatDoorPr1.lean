/-
  The parser's reader: where it stands, the next word, all that is left.
-/
import Derived.Test.YtjinaakebjfbiaaGreatDoorPr0
import Derived.Test.YtjinaakebjfbiaaGreatDoorAbB
namespace Go.Proofs.YtjinaakebjfbiaaGreatDoor
open Go.Ab

def rdV (l : List TokR) (e : Nat × Nat) : AV := .agg [toksV l, .int .i64 e.1, .int .i64 e.2]
theorem sl_tail_eq {α : Type} [Inhabited α] (f : α → List AV) (sz : Nat) (x : α) (xs : List α) (o : Go.Ab.Own) :
    AV.slice sz ((x :: xs).length - (1 : Int).toNat) (fun i => f ((x :: xs).getD ((1 : Int).toNat + i) default)) o = sl f sz xs o := by
  unfold sl
  congr 1
  funext i
  rw [show (1 : Int).toNat + i = i + 1 by omega]
  rfl

/-- The kinds that are let in. -/
def kinE (k : Int) : List AV := [.int .u8 k]
def kinsV (ks : List Int) : AV := sl kinE 1 ks .view

def anyK (ks : List Int) (j : Nat) (k : Int) : Bool := (ks.take j).any fun x => k == x

theorem anyK_succ (ks : List Int) (j : Nat) (k : Int) (h : j < ks.length) : anyK ks (j + 1) k = (anyK ks j k || k == ks.getD j default) := by
  unfold anyK
  rw [List.take_add_one, List.any_append, List.getElem?_eq_getElem h]
  simp [List.getD, List.getElem?_eq_getElem h]

theorem anyK_all (ks : List Int) (k : Int) : anyK ks ks.length k = ks.contains k := by
  unfold anyK
  rw [List.take_length, List.contains_eq_any_beq]

end Go.Proofs.YtjinaakebjfbiaaGreatDoor
