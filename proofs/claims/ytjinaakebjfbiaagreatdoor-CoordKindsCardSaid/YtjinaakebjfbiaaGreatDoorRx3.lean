/-
  The test that two scripts' words are the same (porismref19.Same).
-/
import Derived.Test.YtjinaakebjfbiaaGreatDoorLx4
namespace Go.Proofs.YtjinaakebjfbiaaGreatDoor
open Go.Ab

def eqT (a b : TokR) : Bool := (a.k == b.k) && ((a.w == b.w) && ((a.n == b.n) && ((((a.ln : Int) == (b.ln : Int)) && (((a.co : Int) == (b.co : Int)) && true)) && true)))

theorem eqT_iff (a b : TokR) : eqT a b = true ↔ a = b := by
  obtain ⟨k, w, n, l, c⟩ := a
  obtain ⟨k', w', n', l', c'⟩ := b
  simp only [eqT, Bool.and_eq_true, beq_iff_eq, Bool.and_true, TokR.mk.injEq]
  constructor
  · rintro ⟨h1, h2, h3, h4, h5⟩
    exact ⟨h1, h2, h3, by omega, by omega⟩
  · rintro ⟨h1, h2, h3, h4, h5⟩
    exact ⟨h1, h2, h3, by omega, by omega⟩

theorem getD_def {α : Type} [Inhabited α] {l : List α} {i : Nat} (h : i < l.length) : l.getD i default = l[i] := by simp [List.getD, h]

theorem list_ext_take {α : Type} {a b : List α} (hl : a.length = b.length) (h : a.take a.length = b.take a.length) : a = b := by
  rw [List.take_length, hl, List.take_length] at h
  exact h

theorem take_step {α : Type} [Inhabited α] {a b : List α} {k : Nat} (ha : k < a.length) (hb : k < b.length) (h : a.take k = b.take k) (e : a.getD k default = b.getD k default) : a.take (k + 1) = b.take (k + 1) := by
  rw [getD_def ha, getD_def hb] at e
  rw [List.take_succ_eq_append_getElem ha, List.take_succ_eq_append_getElem hb, h, e]

end Go.Proofs.YtjinaakebjfbiaaGreatDoor
