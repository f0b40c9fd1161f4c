/-
  strings.Join of a slice of strings.
-/
import Derived.Test.YtjinaakebjfbiaaGreatDoorLb
import Derived.Test.YtjinaakebjfbiaaGreatDoorAbB
import Derived.Lib.Join
namespace Go.Proofs.YtjinaakebjfbiaaGreatDoor
open Go.Ab Go.RowKit

def strE (x : List UInt8) : List AV := [.str x]

theorem join_c (xs : List (List UInt8)) (sep : List UInt8) (o : Ab.Own) (hN : xs.length ≤ 1000000000) (hlen : (Lib.join xs sep).length ≤ 1000000000) :
    PCalls Tryz.prog 60 [sl strE 1 xs o, .str sep] (.str (Lib.join xs sep)) :=
  pcalls_of_below (fun _ _ => by kernel_rfl) fun st w xv hx _ => by
    obtain ⟨x, y, rfl, h1, h2⟩ := repL2 hx
    rw [h2.str_eq]
    cases h1 with
    | slice _ _ _ _ a cap b off c hn hbase hlen1 hcell hrep hown hone =>
    cases hxs : xs with
    | nil =>
      rw [hxs] at hn hbase
      refine (Tryz.strings_Join_none a cap ⟨sep.toArray⟩ w).mono ?_
      rintro e w' ⟨rfl, rfl⟩
      exact ⟨_, rfl, fun _ _ => .str _, Below.refl _ _⟩
    | cons x0 r0 =>
      have hpos : 0 < xs.length := by rw [hxs]; simp
      rw [← hxs]
      obtain rfl : a = some ⟨b, off, none⟩ := hbase.resolve_left (by omega)
      have hc : ∀ i, i < xs.length → w.cell? ⟨b, off + i, none⟩ = some (.string ⟨(xs.getD i default).toArray⟩) := by
        intro i hi
        have g := (hcell i 0 hi (by omega)).2
        have gr := hrep i 0 (.str (xs.getD i default)) hi rfl
        rw [gr.str_eq] at g
        simpa using g
      have hb : b < w.heap.size := by
        have := hc 0 hpos
        unfold World.cell? at this
        cases hh : w.heap[b]? with
        | none => rw [hh] at this; cases this
        | some o => exact (Array.getElem?_eq_some_iff.1 hh).1
      have e : (xs.map fun l => (⟨l.toArray⟩ : ByteArray)).map (·.data.toList) = xs := by simp [List.map_map, Function.comp_def]
      have hj := Tryz.strings_Join b off cap (xs.map fun l => ⟨l.toArray⟩) ⟨sep.toArray⟩ w (fun j x hx => ?_) hb (by simp; omega) (by simpa using hn) (by rw [e]; show (Lib.join xs sep).length ≤ _; omega)
      · rw [e, List.length_map] at hj
        refine hj.mono ?_
        rintro e w' ⟨rfl, hw⟩
        exact ⟨_, rfl, fun _ _ => .str _, hw⟩
      · simp only [List.getElem?_map, Option.map_eq_some_iff] at hx
        obtain ⟨l, hl, rfl⟩ := hx
        have hj := (List.getElem?_eq_some_iff.1 hl).1
        have := hc j hj
        rw [this]
        simp [List.getD, hl]

end Go.Proofs.YtjinaakebjfbiaaGreatDoor
