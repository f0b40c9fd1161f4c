/-
  A slice that is handed in, read as a list; texts; a layout.
-/
import Derived.Test.YtjinaakebjfbiaaGreatDoorOs
import Derived.Test.YtjinaakebjfbiaaGreatDoorCdM
namespace Go.Proofs.YtjinaakebjfbiaaGreatDoor
open Go.Ab Go.ChangeShapes Go.WideShapes Go.ChangeAt Go.RowKit Go.Deep

section
variable {H : Type} {enc : TypeId × Value → H} {W : World}

/-- A row of elements, each read by itself, is a list. -/
theorem open_rows {α : Type} [Inhabited α] {C : α → List Value} {E : α → List AV} {sz : Nat} {Q : α → Prop} (hpos : 0 < sz) (hC : ∀ t, Q t → (C t).length = sz) (hE : ∀ t, (E t).length = sz)
    (hR : ∀ t, Q t → ∀ j v, (E t)[j]? = some v → Rep (stOf W) W v ((C t).getD j default)) (hO : ∀ t, Q t → ∀ j, j < sz → ((C t).getD j default).oneCell' = true) {a : Addr} {len cap : Nat} (hl : len ≤ cap)
    (hex : ∀ i, i < len → ∃ t, W.cells? 0 (a.add (i * sz)) sz = some (C t) ∧ Q t) : ∃ l : List α, l.length = len ∧ Rep (stOf W) W (sl E sz l .view) (.slice (some a) len cap) ∧ ∀ t ∈ l, Q t := by
  obtain ⟨q, hq⟩ : ∃ q : Nat → α, ∀ i, i < len → W.cells? 0 (a.add (i * sz)) sz = some (C (q i)) ∧ Q (q i) :=
    ⟨fun i => if h : i < len then Classical.choose (hex i h) else default, fun i hi => by simp only [dif_pos hi]; exact Classical.choose_spec (hex i hi)⟩
  have hc0 : ∀ i, i < len → ∀ j, j < sz → W.cell? ((a.add (i * sz)).add j) = (C (q i))[j]? := fun i hi j hj => by
    have h1 := (hq i hi).1
    unfold World.cells? at h1
    rw [if_pos (Nat.zero_le _)] at h1
    exact mapM_some_get h1 j j (by simp [hj])
  have hget : ∀ i, i < len → ∀ j, j < sz → (C (q i))[j]? = some ((C (q i)).getD j default) := fun i hi j hj => by
    have hjl : j < (C (q i)).length := by rw [hC _ (hq i hi).2]; exact hj
    rw [List.getD_eq_getElem?_getD, List.getElem?_eq_getElem hjl]
    rfl
  have hbase : len = 0 ∨ a = ⟨a.block, a.off, none⟩ := by
    by_cases h0 : len = 0
    · exact .inl h0
    · have c0 := hc0 0 (by omega) 0 hpos
      rw [hget 0 (by omega) 0 hpos] at c0
      have := (cell_lt c0).2
      obtain ⟨b, off, spot⟩ := a
      simp only [Addr.add, Nat.zero_mul, if_true] at this
      subst this
      exact .inr rfl
  have hsp : ∀ i, i < len → ∀ j, j < sz → stOf W a.block (a.off + (i * sz + j)) ∧ W.cell? ⟨a.block, a.off + (i * sz + j), none⟩ = some ((C (q i)).getD j default) := by
    intro i hi j hj
    have c0 := hc0 i hi j hj
    rw [hget i hi j hj] at c0
    have ha := hbase.resolve_left (by omega)
    rw [add_add, ha, addr_add] at c0
    exact ⟨(cell_lt c0).1, c0⟩
  refine ⟨(List.range len).map q, by simp, ?_, fun t ht => ?_⟩
  · show Rep (stOf W) W (.slice sz ((List.range len).map q).length (fun i => E (((List.range len).map q).getD i default)) .view) _
    rw [List.length_map, List.length_range]
    refine (Sub.el (el := fun i => E (q i)) fun i hi => ?_) _ _ _ (.slice sz len (fun i => E (q i)) .view (some a) cap a.block a.off (fun i j => (C (q i)).getD j default) hl ?_ (fun _ _ => hE _) (fun i j hi hj => hsp i hi j hj) (fun i j v hi hv => hR _ (hq i hi).2 j v hv) trivial (fun i j hi hj => hO _ (hq i hi).2 j hj))
    · simp [List.getD, hi]
    · exact hbase.imp id (congrArg some)
  · obtain ⟨i, hi, rfl⟩ := List.mem_map.1 ht
    exact (hq i (List.mem_range.1 hi)).2

theorem cellsStrs : Tryz.prog.cellsOf 23 = 1 := by kernel_rfl
theorem cellsCoord : Tryz.prog.cellsOf 34 = 2 := by kernel_rfl
theorem cellsCoords : Tryz.prog.cellsOf 24 = 1 := by kernel_rfl
theorem cellsLayout : Tryz.prog.cellsOf 26 = 4 := by kernel_rfl

theorem open_strs {fuel : Nat} {v : Value} {x : DataW H × List MemPlace} (h : DataW.trod enc Tryz.prog W 0 (fun _ => true) true fuel 23 [v] = some x) (hw : ∀ m ∈ x.1.weights Tryz.prog 23, m ≤ reachBytes) :
    ∃ l : List (List UInt8), Rep (stOf W) W (sl txtE 1 l .view) v ∧ ∀ t ∈ l, t.length ≤ reachBytes := by
  rcases open_slice Tryz.underlying23 h with ⟨hc, _⟩ | ⟨a, len, cap, m, n, D, Pl, hc, _, hl, _, hm, hx, hall⟩
  · simp only [List.cons.injEq, and_true] at hc
    rw [hc]
    exact ⟨[], Sub.nilsv 1 _ _ _ _ .nils, fun t ht => absurd ht List.not_mem_nil⟩
  · simp only [List.cons.injEq, and_true] at hc
    subst hc
    simp only [if_true] at hm
    subst hm
    rw [cellsStr] at hx hall
    subst hx
    rw [weights_slice Tryz.underlying23] at hw
    have hwi : ∀ i, i < len → ∀ k ∈ (D i).weights Tryz.prog 9, k ≤ reachBytes := fun i hi k hk => hw k (List.mem_cons_of_mem _ (List.mem_append.2 (.inl (weightsAll_mem (List.mem_map.2 ⟨i, List.mem_range.2 hi, rfl⟩) hk))))
    obtain ⟨l, _, h1, h2⟩ := open_rows (W := W) (C := fun t : List UInt8 => [Value.string ⟨t.toArray⟩]) (E := txtE) (sz := 1) (Q := fun t => t.length ≤ reachBytes) (a := a) (len := len) (cap := m) (by decide) (fun _ _ => rfl) (fun _ => rfl)
      (fun t _ j v hv => by
        match j, hv with
        | 0, hv => cases hv; exact .str _
        | j + 1, hv => cases hv)
      (fun t _ j hj => by
        match j, hj with
        | 0, _ => rfl
        | j + 1, hj => exact absurd hj (by omega)) hl fun i hi => by
      obtain ⟨cs', h1, h2⟩ := hall i (by omega)
      obtain ⟨s, e1, e2, _⟩ := DataW.trod_string Tryz.underlying9 h2
      refine ⟨s.data.toList, by rw [h1, e1], ?_⟩
      have e3 : D i = _ := congrArg Prod.fst e2
      have := hwi i hi s.data.toList.length (by rw [e3]; simp [DataW.weights])
      exact this
    exact ⟨l, h1, h2⟩

set_option maxRecDepth 100000 in
theorem open_coords {fuel : Nat} {v : Value} {x : DataW H × List MemPlace} (h : DataW.trod enc Tryz.prog W 0 (fun _ => true) true fuel 24 [v] = some x) :
    ∃ l : List (Int × Int), Rep (stOf W) W (sl cooE 2 l .view) v := by
  rcases open_slice Tryz.underlying24 h with ⟨hc, _⟩ | ⟨a, len, cap, m, n, D, Pl, hc, _, hl, _, hm, hx, hall⟩
  · simp only [List.cons.injEq, and_true] at hc
    rw [hc]
    exact ⟨[], Sub.nilsv 2 _ _ _ _ .nils⟩
  · simp only [List.cons.injEq, and_true] at hc
    subst hc
    simp only [if_true] at hm
    subst hm
    rw [cellsCoord] at hx hall
    obtain ⟨l, _, h1, _⟩ := open_rows (W := W) (C := fun t : Int × Int => [Value.int .i64 t.1, .int .i64 t.2]) (E := cooE) (sz := 2) (Q := fun _ => True) (a := a) (len := len) (cap := m) (by decide) (fun _ _ => rfl) (fun _ => rfl)
      (fun t _ j v hv => by
        match j, hv with
        | 0, hv => cases hv; exact .int _ _
        | 1, hv => cases hv; exact .int _ _
        | j + 2, hv => cases hv)
      (fun t _ j hj => by
        match j, hj with
        | 0, _ => rfl
        | 1, _ => rfl
        | j + 2, hj => exact absurd hj (by omega)) hl fun i hi => by
      obtain ⟨cs', h1, h2⟩ := hall i (by omega)
      obtain ⟨xs, n', rfl, _, hl2, hx2, hf⟩ := DataW.trod_struct Tryz.underlying34 h2
      rw [cellsCoord] at hl2
      match cs', hl2 with
      | [c0, c1], _ =>
      have hx3 : xs.length = 2 := hx2
      match xs, hx3 with
      | [x0, x1], _ =>
      have f0 : DataW.trod enc Tryz.prog W 0 (fun _ => true) true n' 3 (([c0, c1].drop 0).take (Tryz.prog.cellsOf 3)) = some x0 := hf 0 _ rfl
      rw [cellsInt] at f0
      have f1 : DataW.trod enc Tryz.prog W 0 (fun _ => true) true n' 3 (([c0, c1].drop 1).take (Tryz.prog.cellsOf 3)) = some x1 := hf 1 _ rfl
      rw [cellsInt] at f1
      obtain ⟨p, e0, _⟩ := DataW.trod_int Tryz.underlying3 f0
      obtain ⟨q, e1, _⟩ := DataW.trod_int Tryz.underlying3 f1
      simp at e0 e1
      exact ⟨(p, q), by rw [h1, e0, e1], trivial⟩
    exact ⟨l, h1⟩

set_option maxRecDepth 100000 in
/-- A layout that was handed in. -/
theorem open_layout {fuel : Nat} {v : Value} {x : DataW H × List MemPlace} (h : DataW.trod enc Tryz.prog W 0 (fun _ => true) true fuel 26 v.cells.toList = some x) (hw : ∀ m ∈ x.1.weights Tryz.prog 26, m ≤ reachBytes) :
    ∃ (ns : List (List UInt8)) (cs : List (Int × Int)) (p q : Int), Rep (stOf W) W (layV ns cs p q) v ∧ ∀ t ∈ ns, t.length ≤ reachBytes := by
  obtain ⟨xs, n, rfl, rfl, hl, hx, hf⟩ := DataW.trod_struct Tryz.underlying26 h
  rw [cellsLayout] at hl
  obtain ⟨cs, rfl⟩ : ∃ cs, v = .agg ⟨cs⟩ := by
    cases v with
    | agg a => exact ⟨a.toList, rfl⟩
    | _ => exact absurd hl (by show ¬ (1 = 4); decide)
  have hl2 : cs.length = 4 := hl
  clear hl h
  match cs, hl2 with
  | [c0, c1, c2, c3], _ =>
  have hx2 : xs.length = 4 := hx
  clear hx
  match xs, hx2 with
  | [x0, x1, x2, x3], _ =>
  have f0 : DataW.trod enc Tryz.prog W 0 (fun _ => true) true n 23 (([c0, c1, c2, c3].drop 0).take (Tryz.prog.cellsOf 23)) = some x0 := hf 0 _ rfl
  rw [cellsStrs] at f0
  have f1 : DataW.trod enc Tryz.prog W 0 (fun _ => true) true n 24 (([c0, c1, c2, c3].drop 1).take (Tryz.prog.cellsOf 24)) = some x1 := hf 1 _ rfl
  rw [cellsCoords] at f1
  have f2 : DataW.trod enc Tryz.prog W 0 (fun _ => true) true n 3 (([c0, c1, c2, c3].drop 2).take (Tryz.prog.cellsOf 3)) = some x2 := hf 2 _ rfl
  rw [cellsInt] at f2
  have f3 : DataW.trod enc Tryz.prog W 0 (fun _ => true) true n 3 (([c0, c1, c2, c3].drop 3).take (Tryz.prog.cellsOf 3)) = some x3 := hf 3 _ rfl
  rw [cellsInt] at f3
  rw [weights_agg Tryz.underlying26] at hw
  have hw' : ∀ m ∈ DataW.weightsEach Tryz.prog [23, 24, 3, 3] [x0.1, x1.1, x2.1, x3.1], m ≤ reachBytes := hw
  clear hw
  simp only [DataW.weightsEach] at hw'
  obtain ⟨ns, r0, b0⟩ := open_strs (v := c0) f0 fun m hm => hw' m (List.mem_append.2 (.inl hm))
  obtain ⟨ps, r1⟩ := open_coords (v := c1) f1
  obtain ⟨p, e2, _⟩ := DataW.trod_int Tryz.underlying3 f2
  obtain ⟨q, e3, _⟩ := DataW.trod_int Tryz.underlying3 f3
  simp at e2 e3
  subst e2
  subst e3
  refine ⟨ns, ps, p, q, .agg _ _ rfl fun j u z hv hz => ?_, b0⟩
  match j, hv, hz with
  | 0, hv, hz => cases hv; cases hz; exact r0
  | 1, hv, hz => cases hv; cases hz; exact r1
  | 2, hv, hz => cases hv; cases hz; exact .int _ _
  | 3, hv, hz => cases hv; cases hz; exact .int _ _
  | j + 4, hv, hz => cases hv

end
end Go.Proofs.YtjinaakebjfbiaaGreatDoor
