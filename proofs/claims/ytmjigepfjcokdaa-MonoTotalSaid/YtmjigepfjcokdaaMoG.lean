/-
  A slice of powers that is handed in, read as a list.
-/
import Derived.Test.YtmjigepfjcokdaaRows
import Derived.Test.YtmjigepfjcokdaaMo1
import Derived.Test.YtmjigepfjcokdaaAb8
import Derived.ProofKit
import Derived.Deep.SlicePairs
namespace Go.Proofs.Ytmjigepfjcokdaa
open Go.Ab Go.ChangeShapes Go.WideShapes Go.ChangeAt Go.RowKit Go.Deep

theorem own : ownKnob Try.prog.godebug = none := by kernel_rfl
theorem laidOut : laidOutB Try.prog = true := by kernel_rfl
theorem cells48 : Try.prog.cellsOf 48 = 2 := by kernel_rfl
theorem cells3 : Try.prog.cellsOf 3 = 1 := by kernel_rfl

def stOf (W : World) : Stab := fun b _ => b < W.heap.size

theorem conc_start (W : World) : Conc (Env0.of W (stOf W) []) (stOf W) [] W :=
  ⟨rfl, rfl, rfl, Nat.le_refl _, fun _ _ _ => rfl, fun _ _ _ => rfl, fun _ _ h => h, fun _ _ h => .inl h, fun _ _ h => h, fun k ⟨_, h, _⟩ => (by cases h), fun k ⟨_, h, _⟩ => (by cases h), fun _ h => (by cases h), .nil⟩

theorem cell_lt {W : World} {a : Addr} {v : Value} (h : W.cell? a = some v) : a.block < W.heap.size ∧ a.spot = none := by
  unfold World.cell? at h
  cases hb : W.heap[a.block]? with
  | none => rw [hb] at h; cases h
  | some o =>
    refine ⟨(Array.getElem?_eq_some_iff.1 hb).1, ?_⟩
    rw [hb] at h
    cases o <;> simp at h
    cases hs : a.spot with
    | none => rfl
    | some s => simp [hs] at h

theorem open_mono {H : Type} {enc : TypeId × Value → H} {W : World} {a0 : Option Addr} {len cap : Nat} {x : DataW H × List MemPlace} {fuel : Nat}
    (h : DataW.trod enc Try.prog W 0 (fun _ => true) true fuel 23 [.slice a0 len cap] = some x) : ∃ m : List Pw, Rep (stOf W) W (mono m) (.slice a0 len cap) := by
  rcases open_slice_pairs Try.underlying23 Try.underlying48 cells48 rfl rfl cells3 cells3 h with ⟨hc, _⟩ | ⟨a, len', cap', m, n, V0, V1, D0, D1, P0, P1, hc, _, hl, _, hm, _, hall⟩
  · simp only [List.cons.injEq, and_true] at hc
    rw [hc]
    exact ⟨[], Sub.nilsv 2 _ _ _ _ .nils⟩
  · simp only [List.cons.injEq, and_true, Value.slice.injEq] at hc
    obtain ⟨rfl, rfl, rfl⟩ := hc
    simp only [if_true] at hm
    subst hm
    have hint : ∀ i, i < len → ∃ p : Pw, V0 i = .int .i64 p.1 ∧ V1 i = .int .i64 p.2 := fun i hi => by
      obtain ⟨_, _, t0, t1⟩ := hall i (by omega)
      obtain ⟨x0, e0, _, _⟩ := DataW.trod_int Try.underlying3 t0
      obtain ⟨x1, e1, _, _⟩ := DataW.trod_int Try.underlying3 t1
      simp only [List.cons.injEq, and_true] at e0 e1
      exact ⟨(x0, x1), e0, e1⟩
    obtain ⟨q, hq⟩ : ∃ q : Nat → Pw, ∀ i, i < len → V0 i = .int .i64 (q i).1 ∧ V1 i = .int .i64 (q i).2 :=
      ⟨fun i => if h : i < len then Classical.choose (hint i h) else default, fun i hi => by simp only [dif_pos hi]; exact Classical.choose_spec (hint i hi)⟩
    have hbase : len = 0 ∨ a = ⟨a.block, a.off, none⟩ := by
      by_cases h0 : len = 0
      · exact .inl h0
      · obtain ⟨c0, _⟩ := hall 0 (by omega)
        have := (cell_lt c0).2
        obtain ⟨b, off, spot⟩ := a
        simp only [Addr.add, Nat.zero_mul, if_true] at this
        subst this
        exact .inr rfl
    have hsp : ∀ i, i < len → ∀ j, j < 2 → stOf W a.block (a.off + (i * 2 + j)) ∧ W.cell? ⟨a.block, a.off + (i * 2 + j), none⟩ = some (if j = 0 then V0 i else V1 i) := by
      intro i hi j hj
      obtain ⟨c0, c1, _, _⟩ := hall i (by omega)
      have ha := hbase.resolve_left (by omega)
      rw [ha, addr_add] at c0 c1
      refine ⟨(cell_lt c0).1, ?_⟩
      rcases (by omega : j = 0 ∨ j = 1) with rfl | rfl
      · exact c0
      · exact c1
    refine ⟨(List.range len).map q, ?_⟩
    show Rep (stOf W) W (.slice 2 ((List.range len).map q).length (fun i => encP (((List.range len).map q).getD i default)) .view) _
    rw [List.length_map, List.length_range]
    refine (Sub.el (el := fun i => encP (q i)) fun i hi => ?_) _ _ _ (.slice 2 len (fun i => encP (q i)) .view (some a) _ a.block a.off (fun i j => if j = 0 then V0 i else V1 i) hl ?_ (fun _ _ => rfl) (fun i j hi hj => hsp i hi j hj) ?_ trivial ?_)
    · simp [List.getD, hi]
    · exact hbase.imp id (congrArg some)
    · intro i j v hi hv
      obtain ⟨h0, h1⟩ := hq i hi
      match j, hv with
      | 0, hv => simp [encP] at hv; subst hv; simp only [if_true]; rw [h0]; exact .int _ _
      | 1, hv => simp [encP] at hv; subst hv; simp only [Nat.one_ne_zero, if_false]; rw [h1]; exact .int _ _
    · intro i j hi _
      obtain ⟨h0, h1⟩ := hq i hi
      by_cases hj : j = 0
      · simp only [hj, if_true, h0]; rfl
      · simp only [if_neg hj, h1]; rfl

theorem below_of {W W' : World} {st' : Stab} {H' : AHeap} (h : Conc (Env0.of W (stOf W) []) st' H' W') : Below W.heap.size W W' :=
  ⟨h.os, h.tape, h.output, h.size, fun k hk => h.old k hk fun ⟨_, h, _⟩ => (by cases h)⟩

end Go.Proofs.Ytmjigepfjcokdaa
