/-
  The figures: all words; a construction, a predicate.
-/
import Derived.Test.YtjinaakebjfbiaaGreatDoorFg5
namespace Go.Proofs.YtjinaakebjfbiaaGreatDoor
open Go.Ab

noncomputable def made21 : List UInt8 := (Tryz.f23.body.bind codeArg).getD []
noncomputable def asked21 : List UInt8 := (Tryz.f129.body.bind codeArg).getD []

set_option maxRecDepth 100000 in
theorem made_len : made21.length ≤ 100000 := by decide +kernel
set_option maxRecDepth 100000 in
theorem asked_len : asked21.length ≤ 100000 := by decide +kernel

def rowsOk (R : List (List UInt8) → Option FigR) (t : List UInt8) : Bool := (rowsF t).all fun l => (R l).isSome && l.all fun x => Nat.ble x.length 1000

set_option maxRecDepth 100000 in
theorem made_ok : rowsOk conR made21 = true := by decide +kernel
set_option maxRecDepth 100000 in
theorem asked_ok : rowsOk preR asked21 = true := by decide +kernel

theorem rowsOk_at {R : List (List UInt8) → Option FigR} {t w : List UInt8} {l : List (List UInt8)} (h : rowsOk R t = true) (hr : rowF t w = some l) : (∃ f, R l = some f) ∧ ∀ x ∈ l, x.length ≤ 1000 := by
  have := List.all_eq_true.1 h l (rowG_mem hr)
  simp only [Bool.and_eq_true, List.all_eq_true] at this
  exact ⟨Option.isSome_iff_exists.1 this.1, fun x hx => Nat.le_of_ble_eq_true (this.2 x hx)⟩

/-- What figure a word is. -/
noncomputable def conF (w : List UInt8) : Option FigR := match rowF made21 w with
  | none => none
  | some l => match conR l with
    | none => none
    | some f => some { f with word := w }
noncomputable def preF (w : List UInt8) : Option FigR := match rowF asked21 w with
  | none => none
  | some l => match preR l with
    | none => none
    | some f => some { f with word := w }

theorem conF_none {w : List UInt8} (h : rowF made21 w = none) : conF w = none := by
  unfold conF
  rw [h]
theorem conF_some {w : List UInt8} {l : List (List UInt8)} {f : FigR} (h : rowF made21 w = some l) (hf : conR l = some f) : conF w = some { f with word := w } := by
  unfold conF
  rw [h]
  simp only [hf]
theorem preF_none {w : List UInt8} (h : rowF asked21 w = none) : preF w = none := by
  unfold preF
  rw [h]
theorem preF_some {w : List UInt8} {l : List (List UInt8)} {f : FigR} (h : rowF asked21 w = some l) (hf : preR l = some f) : preF w = some { f with word := w } := by
  unfold preF
  rw [h]
  simp only [hf]

def figZ : FigR := ⟨[], 0, 0, [], [], [], []⟩
def figV : Option FigR → AV
  | some f => .tuple [.agg (figE f), .bool true]
  | none => .tuple [.agg (figE figZ), .bool false]

theorem figZ_sub : Sub (.agg [.str [], .int .i64 0, .int .i64 0, .nils, .nils, .str [], .nils]) (.agg (figE figZ)) :=
  subAgg (.cons (Sub.refl _) (.cons (Sub.refl _) (.cons (Sub.refl _) (.cons (Sub.nilsv _ _) (.cons (Sub.nilsv _ _) (.cons (Sub.refl _) (.cons (Sub.nilsv _ _) .nil)))))))

end Go.Proofs.YtjinaakebjfbiaaGreatDoor
