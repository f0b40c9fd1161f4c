/-
  strings.ContainsAny(s, " \n") over any bytes.
-/
import Derived.Test.YtjinaakebjfbiaaGreatDoorLb
import Derived.Test.YtjinaakebjfbiaaGreatDoorAbB
import Derived.Test.YtjinaakebjfbiaaGreatDoorRn
import Derived.Lib.TrimUEq
import Derived.Lib.SpaceUEq
import Derived.Lib.MapLaws
import Derived.Shelf.Strings.IndexAnyAll
namespace Go.Proofs.YtjinaakebjfbiaaGreatDoor
open Go.Ab Go.RowKit

section
variable {P : Program} {ty : TypeId → Option TyI} {N : Nat} {l0 : List Oper} {LD : LDs} {W : Bool} {l : List (Nat × Oper)} {n : Nat} {T : Tmps} {H : AHeap} {Q : APost} {o : Oper}

theorem qself {p : Prop} {α : Type} [BEq α] [ReflBEq α] {a : α} {d : Nat} (k : TR P N ty l0 LD W Q l ((d, .bool true) :: T) H) (hg : o.guard = none := by exact rfl) (hd : o.dst = some d := by exact rfl) (hN : Nat.ble (d + 1) N = true := by exact rfl)
    (hv : aeval ty (opvL (tmpsOf o.op) T) o.op = some (p, .bool (a == a)) := by exact rfl) (ho : optN True T (tmpsOf o.op) := by (first | exact True.intro | exact ⟨id, True.intro⟩ | exact ⟨id, id, True.intro⟩ | exact ⟨id, id, id, True.intro⟩)) (hp : p := by (first | exact True.intro | assumption | omega | (simp only [List.length_cons, List.length_nil]; omega) | (simp only [inK]; omega) | exact fun _ => True.intro | (intro _; omega) | (intro h1 h2; rw [h1, h2]; rfl) | (intro h1 h2; simp only [h1, h2]; done) | (intro h1 h2; simp [h1, h2]; done) | (intro _; simp only [inK]; omega) | (intro hx; simp only [Bool.and_eq_true, Bool.or_eq_false_iff, Bool.and_eq_false_imp, Bool.or_eq_true, decide_eq_true_eq, decide_eq_false_iff_not, bne_iff_ne, beq_iff_eq, bne_eq_false_iff_eq, beq_eq_false_iff_ne, ne_eq, Bool.not_eq_true', Bool.not_eq_false'] at hx; (try simp only [inK]); omega) | exact id | decide | (intro _; decide) )) : TR P N ty l0 LD W Q ((n, o) :: l) T H :=
  TR.pureB true hg hd hN hv ho (beq_self_eq_true a) hp k

end

section
variable {P : Program} {b : Frame} {a : Act} {k : List Item} {cs : List Frame} {w : World} {F : Fence} {n : Nat} {Q : Exit → Act → World → Prop}

end

def retQ (Q : APost) : APost
  | .ret, T, H => Q .ret T H
  | _, _, _ => False

/-- The first place of a blank or a line end. -/
def anyF (s : List UInt8) : Bool := s.any fun b => b == 32 || b == 10

def idxA (s : List UInt8) : Int := if anyF s then s.findIdx (fun b => b == 32 || b == 10) else -1

end Go.Proofs.YtjinaakebjfbiaaGreatDoor
