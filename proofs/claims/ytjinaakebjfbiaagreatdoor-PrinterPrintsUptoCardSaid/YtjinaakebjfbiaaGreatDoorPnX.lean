/-
  A statement that is handed in, read as data.
-/
import Derived.Test.YtjinaakebjfbiaaGreatDoorCg
import Derived.Test.YtjinaakebjfbiaaGreatDoorSt
import Derived.Deep.Slices
import Derived.ChangeArms
import Derived.Test.YtjinaakebjfbiaaGreatDoorSi
import Derived.Test.YtjinaakebjfbiaaGreatDoorAbC
import Derived.Test.YtjinaakebjfbiaaGreatDoorCa
import Derived.Test.YtjinaakebjfbiaaGreatDoorPnM
import Derived.Test.YtjinaakebjfbiaaGreatDoorPk
import Derived.Test.YtjinaakebjfbiaaGreatDoorPy
namespace Go.Proofs.YtjinaakebjfbiaaGreatDoor
open Go.Ab Go.ChangeShapes Go.WideShapes Go.ChangeAt Go.RowKit Go.Deep

theorem cellsTok : Tryz.prog.cellsOf 44 = 5 := by kernel_rfl
theorem cellsPlace : Tryz.prog.cellsOf 39 = 2 := by kernel_rfl
theorem cellsStmt : Tryz.prog.cellsOf 47 = 16 := by kernel_rfl
theorem cellsU8 : Tryz.prog.cellsOf 5 = 1 := by kernel_rfl
theorem cellsStr : Tryz.prog.cellsOf 9 = 1 := by kernel_rfl
theorem cellsInt : Tryz.prog.cellsOf 3 = 1 := by kernel_rfl
theorem cellsToks : Tryz.prog.cellsOf 45 = 1 := by kernel_rfl

theorem cell_lt {W : World} {a : Addr} {v : Value} (h : W.cell? a = some v) : a.block < W.heap.size ∧ a.spot = none := by
  unfold World.cell? at h
  cases hb : W.heap[a.block]? with
  | none => rw [hb] at h; cases h
  | some o =>
    refine ⟨(Array.getElem?_eq_some_iff.1 hb).1, ?_⟩
    rw [hb] at h
    cases o <;> simp at h
    cases hs : a.spot with
    | none => rfl
    | some s => simp [hs] at h

section
variable {H : Type} {enc : TypeId × Value → H} {W : World} {base : Nat} {spare : Nat → Bool} {held : Bool}

theorem weights_agg {P : Program} {t : TypeId} {fs : Array Field} {parts : List (DataW H)} (hu : P.underlying t = some (.struct fs)) : (DataW.agg parts).weights P t = DataW.weightsEach P (fs.toList.map (·.type)) parts := by
  unfold DataW.weights
  rw [hu]

theorem weights_slice {P : Program} {t e : TypeId} {xs ys : List (DataW H)} (hu : P.underlying t = some (.slice e)) : (DataW.slice xs ys).weights P t = (xs.length + ys.length) * P.bytesOf e :: (DataW.weightsAll P e xs ++ DataW.weightsAll P e ys) := by
  unfold DataW.weights
  rw [hu]

theorem weightsAll_mem {P : Program} {e : TypeId} {d : DataW H} {k : Nat} : ∀ {xs : List (DataW H)}, d ∈ xs → k ∈ d.weights P e → k ∈ DataW.weightsAll P e xs
  | [], h, _ => absurd h List.not_mem_nil
  | x :: xs, h, hk => by
    unfold DataW.weightsAll
    rcases List.mem_cons.1 h with rfl | h
    · exact List.mem_append.2 (.inl hk)
    · exact List.mem_append.2 (.inr (weightsAll_mem h hk))

set_option maxRecDepth 100000 in
theorem open_place {fuel : Nat} {cs : List Value} {x : DataW H × List MemPlace} (h : DataW.trod enc Tryz.prog W base spare held fuel 39 cs = some x) : ∃ a b : Int, cs = [.int .i64 a, .int .i64 b] := by
  obtain ⟨xs, n, rfl, rfl, hl, hx, hf⟩ := DataW.trod_struct Tryz.underlying39 h
  rw [cellsPlace] at hl
  match cs, hl with
  | [c0, c1], _ =>
  have hx2 : xs.length = 2 := hx
  clear hx
  match xs, hx2 with
  | [x0, x1], _ =>
  have f0 : DataW.trod enc Tryz.prog W base spare held n 3 (([c0, c1].drop 0).take (Tryz.prog.cellsOf 3)) = some x0 := hf 0 _ rfl
  rw [cellsInt] at f0
  have f1 : DataW.trod enc Tryz.prog W base spare held n 3 (([c0, c1].drop 1).take (Tryz.prog.cellsOf 3)) = some x1 := hf 1 _ rfl
  rw [cellsInt] at f1
  obtain ⟨a, e0, _⟩ := DataW.trod_int Tryz.underlying3 f0
  obtain ⟨b, e1, _⟩ := DataW.trod_int Tryz.underlying3 f1
  simp at e0 e1
  exact ⟨a, b, by rw [e0, e1]⟩

def tokC (t : TokI) : List Value := [.int .u8 t.k, .string ⟨t.w.toArray⟩, .int .i64 t.n, .int .i64 t.ln, .int .i64 t.co]

set_option maxRecDepth 100000 in
theorem open_tok {fuel : Nat} {cs : List Value} {x : DataW H × List MemPlace} (h : DataW.trod enc Tryz.prog W base spare held fuel 44 cs = some x) (hw : ∀ m ∈ x.1.weights Tryz.prog 44, m ≤ reachBytes) :
    ∃ t : TokI, cs = tokC t ∧ t.w.length ≤ reachBytes ∧ t.w.length + 1 ≤ Rows.uptoBulk x.1 := by
  obtain ⟨xs, n, rfl, rfl, hl, hx, hf⟩ := DataW.trod_struct Tryz.underlying44 h
  rw [cellsTok] at hl
  match cs, hl with
  | [c0, c1, c2, c3, c4], _ =>
  have hx2 : xs.length = 4 := hx
  clear hx
  match xs, hx2 with
  | [x0, x1, x2, x3], _ =>
  have f0 : DataW.trod enc Tryz.prog W base spare held n 5 (([c0, c1, c2, c3, c4].drop 0).take (Tryz.prog.cellsOf 5)) = some x0 := hf 0 _ rfl
  rw [cellsU8] at f0
  have f1 : DataW.trod enc Tryz.prog W base spare held n 9 (([c0, c1, c2, c3, c4].drop 1).take (Tryz.prog.cellsOf 9)) = some x1 := hf 1 _ rfl
  rw [cellsStr] at f1
  have f2 : DataW.trod enc Tryz.prog W base spare held n 3 (([c0, c1, c2, c3, c4].drop 2).take (Tryz.prog.cellsOf 3)) = some x2 := hf 2 _ rfl
  rw [cellsInt] at f2
  have f3 : DataW.trod enc Tryz.prog W base spare held n 39 (([c0, c1, c2, c3, c4].drop 3).take (Tryz.prog.cellsOf 39)) = some x3 := hf 3 _ rfl
  rw [cellsPlace] at f3
  obtain ⟨a, e0, _⟩ := DataW.trod_int Tryz.underlying5 f0
  obtain ⟨s, e1, rfl, _⟩ := DataW.trod_string Tryz.underlying9 f1
  obtain ⟨b, e2, _⟩ := DataW.trod_int Tryz.underlying3 f2
  obtain ⟨p, q, e3⟩ := open_place f3
  simp at e0 e1 e2 e3
  obtain ⟨e3, e4⟩ := e3
  refine ⟨⟨a, s.data.toList, b, p, q⟩, by rw [e0, e1, e2, e3, e4]; rfl, hw _ ?_, ?_⟩
  rotate_left
  · show _ ≤ Rows.uptoBulk (.agg [x0.1, .lit (.string s.data.toList), x2.1, x3.1])
    simp only [Rows.uptoBulk, Rows.uptoBulkAll]
    omega
  rw [weights_agg Tryz.underlying44]
  show _ ∈ DataW.weightsEach Tryz.prog [5, 9, 3, 39] [x0.1, .lit (.string s.data.toList), x2.1, x3.1]
  simp only [DataW.weightsEach]
  refine List.mem_append.2 (.inr (List.mem_append.2 (.inl ?_)))
  simp [DataW.weights]

theorem bulk_cnt {D : Nat → DataW H} {q : Nat → TokI} : ∀ (ns : List Nat), (∀ i ∈ ns, (q i).w.length + 1 ≤ Rows.uptoBulk (D i)) → cntL ((ns.map q).map (·.w)) ≤ Rows.uptoBulkAll (ns.map D)
  | [], _ => Nat.zero_le _
  | i :: ns, h => by
    have h1 := h i (List.mem_cons_self ..)
    have h2 := bulk_cnt ns fun j hj => h j (List.mem_cons_of_mem _ hj)
    have e : cntL (((i :: ns).map q).map (·.w)) = (q i).w.length + 1 + cntL ((ns.map q).map (·.w)) := rfl
    rw [e]
    simp only [List.map_cons, Rows.uptoBulkAll]
    omega

theorem open_toks {fuel : Nat} {v : Value} {x : DataW H × List MemPlace} (h : DataW.trod enc Tryz.prog W 0 (fun _ => true) true fuel 45 [v] = some x) (hw : ∀ m ∈ x.1.weights Tryz.prog 45, m ≤ reachBytes) :
    ∃ l : List TokI, Rep (stOf W) W (sl tokEI 5 l .view) v ∧ l.length ≤ reachBytes ∧ (∀ t ∈ l, t.w.length ≤ reachBytes) ∧ cntL (l.map (·.w)) ≤ Rows.uptoBulk x.1 := by
  rcases open_slice Tryz.underlying45 h with ⟨hc, _⟩ | ⟨a, len, cap, m, n, D, Pl, hc, _, hl, _, hm, hx, hall⟩
  · simp only [List.cons.injEq, and_true] at hc
    rw [hc]
    exact ⟨[], Sub.nilsv 5 _ _ _ _ .nils, Nat.zero_le _, fun t ht => absurd ht List.not_mem_nil, Nat.zero_le _⟩
  · simp only [List.cons.injEq, and_true] at hc
    subst hc
    simp only [if_true] at hm
    subst hm
    rw [cellsTok] at hx hall
    subst hx
    rw [weights_slice Tryz.underlying45] at hw
    have hwi : ∀ i, i < len → ∀ k ∈ (D i).weights Tryz.prog 44, k ≤ reachBytes := fun i hi k hk => hw k (List.mem_cons_of_mem _ (List.mem_append.2 (.inl (weightsAll_mem (List.mem_map.2 ⟨i, List.mem_range.2 hi, rfl⟩) hk))))
    have hex : ∀ i, i < len → ∃ t : TokI, W.cells? 0 (a.add (i * 5)) 5 = some (tokC t) ∧ t.w.length ≤ reachBytes ∧ t.w.length + 1 ≤ Rows.uptoBulk (D i) := fun i hi => by
      obtain ⟨cs', h1, h2⟩ := hall i (by omega)
      obtain ⟨t, rfl, h3⟩ := open_tok h2 (hwi i hi)
      exact ⟨t, h1, h3⟩
    obtain ⟨q, hq⟩ : ∃ q : Nat → TokI, ∀ i, i < len → W.cells? 0 (a.add (i * 5)) 5 = some (tokC (q i)) ∧ (q i).w.length ≤ reachBytes ∧ (q i).w.length + 1 ≤ Rows.uptoBulk (D i) :=
      ⟨fun i => if h : i < len then Classical.choose (hex i h) else default, fun i hi => by simp only [dif_pos hi]; exact Classical.choose_spec (hex i hi)⟩
    have hc0 : ∀ i, i < len → ∀ j, j < 5 → W.cell? ((a.add (i * 5)).add j) = (tokC (q i))[j]? := fun i hi j hj => by
      have h1 := (hq i hi).1
      unfold World.cells? at h1
      rw [if_pos (Nat.zero_le _)] at h1
      exact mapM_some_get h1 j j (by simp [hj])
    have hbase : len = 0 ∨ a = ⟨a.block, a.off, none⟩ := by
      by_cases h0 : len = 0
      · exact .inl h0
      · have c0 := hc0 0 (by omega) 0 (by omega)
        have := (cell_lt (v := .int .u8 (q 0).k) c0).2
        obtain ⟨b, off, spot⟩ := a
        simp only [Addr.add, Nat.zero_mul, if_true] at this
        subst this
        exact .inr rfl
    have hsp : ∀ i, i < len → ∀ j, j < 5 → stOf W a.block (a.off + (i * 5 + j)) ∧ W.cell? ⟨a.block, a.off + (i * 5 + j), none⟩ = some ((tokC (q i)).getD j default) := by
      intro i hi j hj
      have c0 := hc0 i hi j hj
      have hjl : j < (tokC (q i)).length := hj
      rw [List.getElem?_eq_getElem hjl] at c0
      have ha := hbase.resolve_left (by omega)
      rw [add_add, ha, addr_add] at c0
      refine ⟨(cell_lt c0).1, ?_⟩
      rw [c0, List.getD_eq_getElem?_getD, List.getElem?_eq_getElem hjl]
      rfl
    refine ⟨(List.range len).map q, ?_, ?_, ?_, ?_⟩
    rotate_left 3
    · have := bulk_cnt (D := D) (q := q) (List.range len) fun i hi => (hq i (List.mem_range.1 hi)).2.2
      simp only [Rows.uptoBulk]
      omega
    · show Rep (stOf W) W (.slice 5 ((List.range len).map q).length (fun i => tokEI (((List.range len).map q).getD i default)) .view) _
      rw [List.length_map, List.length_range]
      refine (Sub.el (el := fun i => tokEI (q i)) fun i hi => ?_) _ _ _ (.slice 5 len (fun i => tokEI (q i)) .view (some a) _ a.block a.off (fun i j => (tokC (q i)).getD j default) hl ?_ (fun _ _ => rfl) (fun i j hi hj => hsp i hi j hj) ?_ trivial ?_)
      · simp [List.getD, hi]
      · exact hbase.imp id (congrArg some)
      · intro i j v hi hv
        match j, hv with
        | 0, hv => cases hv; exact .int _ _
        | 1, hv => cases hv; exact .str _
        | 2, hv => cases hv; exact .int _ _
        | 3, hv => cases hv; exact .int _ _
        | 4, hv => cases hv; exact .int _ _
        | j + 5, hv => cases hv
      · intro i j hi hj
        match j, hj with
        | 0, _ => rfl
        | 1, _ => rfl
        | 2, _ => rfl
        | 3, _ => rfl
        | 4, _ => rfl
    · rw [List.length_map, List.length_range]
      have h1 := hw _ (List.mem_cons_self ..)
      rw [List.length_map, List.length_map, List.length_range, List.length_range] at h1
      have hbt : Tryz.prog.bytesOf 44 = 48 := by kernel_rfl
      rw [hbt] at h1
      omega
    · intro t ht
      obtain ⟨i, hi, rfl⟩ := List.mem_map.1 ht
      exact (hq i (List.mem_range.1 hi)).2.1

set_option maxRecDepth 100000 in
theorem open_stmt {fuel : Nat} {v : Value} {x : DataW H × List MemPlace} (h : DataW.trod enc Tryz.prog W 0 (fun _ => true) true fuel 47 v.cells.toList = some x) (hw : ∀ m ∈ x.1.weights Tryz.prog 47, m ≤ reachBytes) :
    ∃ y : StI, Rep (stOf W) W (.agg (stmtEI y)) v ∧ y.args.length ≤ reachBytes ∧ y.new.w.length ≤ reachBytes ∧ y.word.w.length ≤ reachBytes ∧ (∀ t ∈ y.args, t.w.length ≤ reachBytes) ∧ lenI y + 1 ≤ Rows.uptoBulk x.1 := by
  obtain ⟨xs, n, rfl, rfl, hl, hx, hf⟩ := DataW.trod_struct Tryz.underlying47 h
  rw [cellsStmt] at hl
  obtain ⟨cs, rfl⟩ : ∃ cs, v = .agg ⟨cs⟩ := by
    cases v with
    | agg a => exact ⟨a.toList, rfl⟩
    | _ => exact absurd hl (by show ¬ (1 = 16); decide)
  have hl2 : cs.length = 16 := hl
  clear hl h
  match cs, hl2 with
  | [c0, c1, c2, c3, c4, c5, c6, c7, c8, c9, c10, c11, c12, c13, c14, c15], _ =>
  have hx2 : xs.length = 6 := hx
  clear hx
  match xs, hx2 with
  | [x0, x1, x2, x3, x4, x5], _ =>
  have f0 : DataW.trod enc Tryz.prog W 0 (fun _ => true) true n 5 (([c0, c1, c2, c3, c4, c5, c6, c7, c8, c9, c10, c11, c12, c13, c14, c15].drop 0).take (Tryz.prog.cellsOf 5)) = some x0 := hf 0 _ rfl
  rw [cellsU8] at f0
  have f1 : DataW.trod enc Tryz.prog W 0 (fun _ => true) true n 44 (([c0, c1, c2, c3, c4, c5, c6, c7, c8, c9, c10, c11, c12, c13, c14, c15].drop 1).take (Tryz.prog.cellsOf 44)) = some x1 := hf 1 _ rfl
  rw [cellsTok] at f1
  have f2 : DataW.trod enc Tryz.prog W 0 (fun _ => true) true n 44 (([c0, c1, c2, c3, c4, c5, c6, c7, c8, c9, c10, c11, c12, c13, c14, c15].drop 6).take (Tryz.prog.cellsOf 44)) = some x2 := hf 2 _ rfl
  rw [cellsTok] at f2
  have f3 : DataW.trod enc Tryz.prog W 0 (fun _ => true) true n 45 (([c0, c1, c2, c3, c4, c5, c6, c7, c8, c9, c10, c11, c12, c13, c14, c15].drop 11).take (Tryz.prog.cellsOf 45)) = some x3 := hf 3 _ rfl
  rw [cellsToks] at f3
  have f4 : DataW.trod enc Tryz.prog W 0 (fun _ => true) true n 39 (([c0, c1, c2, c3, c4, c5, c6, c7, c8, c9, c10, c11, c12, c13, c14, c15].drop 12).take (Tryz.prog.cellsOf 39)) = some x4 := hf 4 _ rfl
  rw [cellsPlace] at f4
  have f5 : DataW.trod enc Tryz.prog W 0 (fun _ => true) true n 39 (([c0, c1, c2, c3, c4, c5, c6, c7, c8, c9, c10, c11, c12, c13, c14, c15].drop 14).take (Tryz.prog.cellsOf 39)) = some x5 := hf 5 _ rfl
  rw [cellsPlace] at f5
  rw [weights_agg Tryz.underlying47] at hw
  have hw' : ∀ m ∈ DataW.weightsEach Tryz.prog [5, 44, 44, 45, 39, 39] [x0.1, x1.1, x2.1, x3.1, x4.1, x5.1], m ≤ reachBytes := hw
  clear hw
  simp only [DataW.weightsEach] at hw'
  obtain ⟨a, e0, _⟩ := DataW.trod_int Tryz.underlying5 f0
  obtain ⟨t1, e1, b1, u1⟩ := open_tok f1 fun m hm => hw' m (List.mem_append.2 (.inr (List.mem_append.2 (.inl hm))))
  obtain ⟨t2, e2, b2, u2⟩ := open_tok f2 fun m hm => hw' m (List.mem_append.2 (.inr (List.mem_append.2 (.inr (List.mem_append.2 (.inl hm))))))
  obtain ⟨l, hr, b3, b4, u3⟩ := open_toks (v := c11) f3 fun m hm => hw' m (List.mem_append.2 (.inr (List.mem_append.2 (.inr (List.mem_append.2 (.inr (List.mem_append.2 (.inl hm))))))))
  obtain ⟨p1, q1, e4⟩ := open_place f4
  obtain ⟨p2, q2, e5⟩ := open_place f5
  simp only [tokC] at e1 e2
  simp at e0 e1 e2 e4 e5
  obtain ⟨rfl, rfl, rfl, rfl, rfl⟩ := e1
  obtain ⟨rfl, rfl, rfl, rfl, rfl⟩ := e2
  obtain ⟨rfl, rfl⟩ := e4
  obtain ⟨rfl, rfl⟩ := e5
  subst e0
  refine ⟨⟨a, t1, t2, l, p1, q1, p2, q2⟩, .agg _ _ rfl fun j u z hv hz => ?_, b3, b1, b2, b4, ?_⟩
  rotate_left
  · show _ ≤ Rows.uptoBulk (.agg [x0.1, x1.1, x2.1, x3.1, x4.1, x5.1])
    simp only [Rows.uptoBulk, Rows.uptoBulkAll, lenI]
    omega
  match j, hv, hz with
    | 0, hv, hz => cases hv; cases hz; exact .int _ _
    | 1, hv, hz => cases hv; cases hz; exact .int _ _
    | 2, hv, hz => cases hv; cases hz; exact .str _
    | 3, hv, hz => cases hv; cases hz; exact .int _ _
    | 4, hv, hz => cases hv; cases hz; exact .int _ _
    | 5, hv, hz => cases hv; cases hz; exact .int _ _
    | 6, hv, hz => cases hv; cases hz; exact .int _ _
    | 7, hv, hz => cases hv; cases hz; exact .str _
    | 8, hv, hz => cases hv; cases hz; exact .int _ _
    | 9, hv, hz => cases hv; cases hz; exact .int _ _
    | 10, hv, hz => cases hv; cases hz; exact .int _ _
    | 11, hv, hz => cases hv; cases hz; exact hr
    | 12, hv, hz => cases hv; cases hz; exact .int _ _
    | 13, hv, hz => cases hv; cases hz; exact .int _ _
    | 14, hv, hz => cases hv; cases hz; exact .int _ _
    | 15, hv, hz => cases hv; cases hz; exact .int _ _
    | j + 16, hv, hz => cases hv

end
end Go.Proofs.YtjinaakebjfbiaaGreatDoor

/-
  Statements that are handed in, read as data.
-/
namespace Go.Proofs.YtjinaakebjfbiaaGreatDoor
open Go.Ab Go.ChangeShapes Go.WideShapes Go.ChangeAt Go.RowKit Go.Deep

/-- What is known of a statement that was handed in. -/
structure StB (y : StI) : Prop where
  args : y.args.length ≤ reachBytes
  new : y.new.w.length ≤ reachBytes
  word : y.word.w.length ≤ reachBytes
  argw : ∀ t ∈ y.args, t.w.length ≤ reachBytes

def bulkL (l : List StI) : Nat := (l.map fun x => lenI x + 1).sum

theorem rep_one {st : Stab} {w : World} {v : AV} {c : Value} (h : Rep st w v c) : (match v with | .int .. => True | .str _ => True | .slice .. => True | _ => False) → c.oneCell' = true := by
  intro hv
  cases h <;> first | exact hv.elim | rfl

section
variable {H : Type} {enc : TypeId × Value → H} {W : World}

theorem bulk_stmts {D : Nat → DataW H} {q : Nat → StI} : ∀ (ns : List Nat), (∀ i ∈ ns, lenI (q i) + 1 ≤ Rows.uptoBulk (D i)) → bulkL (ns.map q) ≤ Rows.uptoBulkAll (ns.map D)
  | [], _ => Nat.zero_le _
  | i :: ns, h => by
    have h1 := h i (List.mem_cons_self ..)
    have h2 := bulk_stmts ns fun j hj => h j (List.mem_cons_of_mem _ hj)
    simp only [bulkL, List.map_cons, List.sum_cons, Rows.uptoBulkAll] at h2 ⊢
    omega

set_option maxRecDepth 100000 in
theorem open_stmts {fuel : Nat} {v : Value} {x : DataW H × List MemPlace} (h : DataW.trod enc Tryz.prog W 0 (fun _ => true) true fuel 22 [v] = some x) (hw : ∀ m ∈ x.1.weights Tryz.prog 22, m ≤ reachBytes) :
    ∃ l : List StI, Rep (stOf W) W (stmtsI l) v ∧ l.length ≤ reachBytes ∧ (∀ y ∈ l, StB y) ∧ bulkL l ≤ Rows.uptoBulk x.1 := by
  rcases open_slice Tryz.underlying22 h with ⟨hc, _⟩ | ⟨a, len, cap, m, n, D, Pl, hc, _, hl, _, hm, hx, hall⟩
  · simp only [List.cons.injEq, and_true] at hc
    rw [hc]
    exact ⟨[], Sub.nilsv 16 _ _ _ _ .nils, Nat.zero_le _, (fun t ht => absurd ht List.not_mem_nil), Nat.zero_le _⟩
  · simp only [List.cons.injEq, and_true] at hc
    subst hc
    simp only [if_true] at hm
    subst hm
    rw [cellsStmt] at hx hall
    subst hx
    rw [weights_slice Tryz.underlying22] at hw
    have hwi : ∀ i, i < len → ∀ k ∈ (D i).weights Tryz.prog 47, k ≤ reachBytes := fun i hi k hk => hw k (List.mem_cons_of_mem _ (List.mem_append.2 (.inl (weightsAll_mem (List.mem_map.2 ⟨i, List.mem_range.2 hi, rfl⟩) hk))))
    have hex : ∀ i, i < len → ∃ q : StI × List Value, W.cells? 0 (a.add (i * 16)) 16 = some q.2 ∧ Rep (stOf W) W (.agg (stmtEI q.1)) (.agg ⟨q.2⟩) ∧ StB q.1 ∧ lenI q.1 + 1 ≤ Rows.uptoBulk (D i) := fun i hi => by
      obtain ⟨cs', h1, h2⟩ := hall i (by omega)
      obtain ⟨y, h3, h4, h5, h6, h7, h8⟩ := open_stmt (v := .agg ⟨cs'⟩) h2 (hwi i hi)
      exact ⟨(y, cs'), h1, h3, ⟨h4, h5, h6, h7⟩, h8⟩
    obtain ⟨q, hq⟩ : ∃ q : Nat → StI × List Value, ∀ i, i < len → W.cells? 0 (a.add (i * 16)) 16 = some (q i).2 ∧ Rep (stOf W) W (.agg (stmtEI (q i).1)) (.agg ⟨(q i).2⟩) ∧ StB (q i).1 ∧ lenI (q i).1 + 1 ≤ Rows.uptoBulk (D i) :=
      ⟨fun i => if h : i < len then Classical.choose (hex i h) else (default, []), fun i hi => by simp only [dif_pos hi]; exact Classical.choose_spec (hex i hi)⟩
    have hcl : ∀ i, i < len → (q i).2.length = 16 := fun i hi => by
      have := (hq i hi).2.1
      generalize (q i).2 = cs at this
      cases this with
      | agg _ _ hl _ => exact hl
    have hrp : ∀ i, i < len → ∀ j u z, (stmtEI (q i).1)[j]? = some u → (q i).2[j]? = some z → Rep (stOf W) W u z := fun i hi => by
      have := (hq i hi).2.1
      generalize (q i).2 = cs at this
      cases this with
      | agg _ _ _ h => exact h
    have hc0 : ∀ i, i < len → ∀ j, j < 16 → W.cell? ((a.add (i * 16)).add j) = (q i).2[j]? := fun i hi j hj => by
      have h1 := (hq i hi).1
      unfold World.cells? at h1
      rw [if_pos (Nat.zero_le _)] at h1
      exact mapM_some_get h1 j j (by simp [hj])
    have hbase : len = 0 ∨ a = ⟨a.block, a.off, none⟩ := by
      by_cases h0 : len = 0
      · exact .inl h0
      · have c0 := hc0 0 (by omega) 0 (by omega)
        rw [List.getElem?_eq_getElem (by rw [hcl 0 (by omega)]; omega)] at c0
        have := (cell_lt c0).2
        obtain ⟨b, off, spot⟩ := a
        simp only [Addr.add, Nat.zero_mul, if_true] at this
        subst this
        exact .inr rfl
    have hsp : ∀ i, i < len → ∀ j, j < 16 → stOf W a.block (a.off + (i * 16 + j)) ∧ W.cell? ⟨a.block, a.off + (i * 16 + j), none⟩ = some ((q i).2.getD j default) := by
      intro i hi j hj
      have c0 := hc0 i hi j hj
      have hjl : j < (q i).2.length := by rw [hcl i hi]; exact hj
      rw [List.getElem?_eq_getElem hjl] at c0
      have ha := hbase.resolve_left (by omega)
      rw [add_add, ha, addr_add] at c0
      refine ⟨(cell_lt c0).1, ?_⟩
      rw [c0, List.getD_eq_getElem?_getD, List.getElem?_eq_getElem hjl]
      rfl
    have hgd : ∀ i, i < len → ∀ j, j < 16 → (q i).2[j]? = some ((q i).2.getD j default) := fun i hi j hj => by
      have hjl : j < (q i).2.length := by rw [hcl i hi]; exact hj
      rw [List.getD_eq_getElem?_getD, List.getElem?_eq_getElem hjl]
      rfl
    refine ⟨(List.range len).map fun i => (q i).1, ?_, ?_, ?_, ?_⟩
    rotate_left 3
    · have := bulk_stmts (D := D) (q := fun i => (q i).1) (List.range len) fun i hi => (hq i (List.mem_range.1 hi)).2.2.2
      simp only [Rows.uptoBulk]
      omega
    · show Rep (stOf W) W (.slice 16 ((List.range len).map fun i => (q i).1).length (fun i => stmtEI (((List.range len).map fun i => (q i).1).getD i default)) .view) _
      rw [List.length_map, List.length_range]
      refine (Sub.el (el := fun i => stmtEI (q i).1) fun i hi => ?_) _ _ _ (.slice 16 len (fun i => stmtEI (q i).1) .view (some a) _ a.block a.off (fun i j => (q i).2.getD j default) hl ?_ (fun _ _ => rfl) (fun i j hi hj => hsp i hi j hj) ?_ trivial ?_)
      · simp [List.getD, hi]
      · exact hbase.imp id (congrArg some)
      · intro i j v hi hv
        have hj : j < 16 := (List.getElem?_eq_some_iff.1 hv).1
        exact hrp i hi j v _ hv (hgd i hi j hj)
      · intro i j hi hj
        have hjl : j < (stmtEI (q i).1).length := hj
        have := hrp i hi j _ _ (List.getElem?_eq_getElem hjl) (hgd i hi j hj)
        refine rep_one this ?_
        match j, hj with
        | 0, _ => trivial
        | 1, _ => trivial
        | 2, _ => trivial
        | 3, _ => trivial
        | 4, _ => trivial
        | 5, _ => trivial
        | 6, _ => trivial
        | 7, _ => trivial
        | 8, _ => trivial
        | 9, _ => trivial
        | 10, _ => trivial
        | 11, _ => trivial
        | 12, _ => trivial
        | 13, _ => trivial
        | 14, _ => trivial
        | 15, _ => trivial
        | j + 16, hj => exact absurd hj (by omega)
    · rw [List.length_map, List.length_range]
      have h1 := hw _ (List.mem_cons_self ..)
      rw [List.length_map, List.length_map, List.length_range, List.length_range] at h1
      have hbt : Tryz.prog.bytesOf 47 = 160 := by kernel_rfl
      rw [hbt] at h1
      omega
    · intro y hy
      obtain ⟨i, hi, rfl⟩ := List.mem_map.1 hy
      exact (hq i (List.mem_range.1 hi)).2.2.1

end
end Go.Proofs.YtjinaakebjfbiaaGreatDoor

/-
  Whether statements are more than is looked at (porismref22.Great).
-/
namespace Go.Proofs.YtjinaakebjfbiaaGreatDoor
open Go.Ab

def grT (n : Int) (t : TokI) : Int := IntKind.i64.wrap (n + (t.w.length : Int) / 8)
def grS (n : Int) (x : StI) : Int := x.args.foldl grT (IntKind.i64.wrap (IntKind.i64.wrap (n + 1) + x.args.length))
def grL (l : List StI) : Int := l.foldl grS 0

theorem foldl_take {α β : Type} [Inhabited α] (f : β → α → β) (b : β) {l : List α} {i : Nat} (h : i < l.length) : (l.take (i + 1)).foldl f b = f ((l.take i).foldl f b) (l.getD i default) := by
  rw [List.take_succ_eq_append_getElem h, List.foldl_append, show l.getD i default = l[i] by simp [List.getD, h]]
  rfl

theorem getD_in {α : Type} [Inhabited α] {l : List α} {i : Nat} (h : i < l.length) : l.getD i default ∈ l := by
  rw [List.getD_eq_getElem?_getD, List.getElem?_eq_getElem h]
  exact List.getElem_mem h

theorem cbGrt : Callable Tryz.prog 12 := fun _ _ => by kernel_rfl
set_option maxHeartbeats 3200000 in
set_option maxRecDepth 100000 in
theorem great_c (l : List StI) (hl : l.length ≤ 1000000000000000) (hA : ∀ x ∈ l, x.args.length ≤ 1000000000000000) (hT : ∀ x ∈ l, ∀ t ∈ x.args, t.w.length ≤ 1000000000000000) : PCalls Tryz.prog 12 [stmtsI l] (.bool (decide (grL l > 1000))) := by
  refine pcalls_of_awp tyok cbGrt Tryz.func12 rfl rfl ?_
  repeat (first | refine wK ?_ | refine awp_seq_k (fun K hK => ?_) | refine areg_text mixed tyok (by decide +kernel) ?_ | refine qal tyok (fun bx => ?_) | refine qbox (fun bx => ?_) | refine qboxV (fun bx => ?_) | ((repeat ((fail_if_success (refine hK _ _ ?_)); clear hK)); refine hK _ _ ?_; clear hK))
  refine awp_loop0 (ι := { i : Nat // i ≤ l.length }) (fun i => [(0, stmtsI l), (3, .int .i64 ((l.take i.1).foldl grS 0)), (4, .int .i64 i.1)]) (fun _ => []) (fun i => l.length - i.1) ⟨0, Nat.zero_le _⟩ (by (repeat (first | exact True.intro | refine ⟨⟨_, rfl, Sub.refl _⟩, ?_⟩ | refine ⟨⟨_, rfl, Sub.nilso _ _⟩, ?_⟩ | refine ⟨⟨_, rfl, sl_tail _ _ _ _ _⟩, ?_⟩ | refine ⟨⟨_, rfl, Sub.of_eq (by first | rfl | (congr 1; first | omega | (simp only; omega)) | (simp; done) | (simp; omega))⟩, ?_⟩ | refine ⟨⟨_, rfl, Sub.view _ _ _ _⟩, ?_⟩))) (by (first | exact ⟨0, rfl⟩ | exact ⟨1, rfl⟩ | exact ⟨2, rfl⟩ | exact ⟨3, rfl⟩ | exact ⟨4, rfl⟩)) ?_
  rintro ⟨i, hi⟩
  simp only at hi ⊢
  by_cases hlt : i < l.length
  · have hlt' : (i : Int) < l.length := by omega
    have hst := foldl_take grS 0 hlt
    have hm := getD_in hlt
    have hx := hA _ hm
    have hgt : l.getD ((i : Int)).toNat default = l.getD i default := rfl
    repeat (first | refine wKB ?_ | refine awp_seq_k (fun K hK => ?_) | refine areg_text mixed tyok (by decide +kernel) ?_ | refine qal tyok (fun bx => ?_) | refine qbox (fun bx => ?_) | refine qboxV (fun bx => ?_) | ((repeat ((fail_if_success (refine hK _ _ ?_)); clear hK)); refine hK _ _ ?_; clear hK))
    refine qaddw ?_
    repeat (first | refine wKB ?_ | refine awp_seq_k (fun K hK => ?_) | refine areg_text mixed tyok (by decide +kernel) ?_ | refine qal tyok (fun bx => ?_) | refine qbox (fun bx => ?_) | refine qboxV (fun bx => ?_) | ((repeat ((fail_if_success (refine hK _ _ ?_)); clear hK)); refine hK _ _ ?_; clear hK))
    refine qaddw ?_
    repeat (first | refine wKB ?_ | refine awp_seq_k (fun K hK => ?_) | refine areg_text mixed tyok (by decide +kernel) ?_ | refine qal tyok (fun bx => ?_) | refine qbox (fun bx => ?_) | refine qboxV (fun bx => ?_) | ((repeat ((fail_if_success (refine hK _ _ ?_)); clear hK)); refine hK _ _ ?_; clear hK))
    refine awp_loop0 (ι := { k : Nat // k ≤ (l.getD i default).args.length })
      (fun k => [(0, stmtsI l), (3, .int .i64 (((l.getD i default).args.take k.1).foldl grT (IntKind.i64.wrap (IntKind.i64.wrap ((l.take i).foldl grS 0 + 1) + (l.getD i default).args.length)))), (4, .int .i64 i), (5, .int .i64 k.1)])
      (fun _ => []) (fun k => (l.getD i default).args.length - k.1) ⟨0, Nat.zero_le _⟩ (by (repeat (first | exact True.intro | refine ⟨⟨_, rfl, Sub.refl _⟩, ?_⟩ | refine ⟨⟨_, rfl, Sub.nilso _ _⟩, ?_⟩ | refine ⟨⟨_, rfl, sl_tail _ _ _ _ _⟩, ?_⟩ | refine ⟨⟨_, rfl, Sub.of_eq (by first | rfl | (congr 1; first | omega | (simp only; omega)) | (simp; done) | (simp; omega))⟩, ?_⟩ | refine ⟨⟨_, rfl, Sub.view _ _ _ _⟩, ?_⟩))) (by (first | exact ⟨0, rfl⟩ | exact ⟨1, rfl⟩ | exact ⟨2, rfl⟩ | exact ⟨3, rfl⟩ | exact ⟨4, rfl⟩)) ?_
    rintro ⟨k, hk⟩
    simp only at hk ⊢
    by_cases hkl : k < (l.getD i default).args.length
    · have hkl' : (k : Int) < (l.getD i default).args.length := by omega
      have hw := hT _ hm _ (getD_in hkl)
      have hk2 : (k : Int) < (l.getD ((i : Int)).toNat default).args.length := hkl'
      have hw' : ((l.getD ((i : Int)).toNat default).args.getD ((k : Int)).toNat default).w.length ≤ 1000000000000000 := hw
      have hkt := foldl_take grT (IntKind.i64.wrap (IntKind.i64.wrap ((l.take i).foldl grS 0 + 1) + (l.getD i default).args.length)) hkl
      repeat (first | refine wKB ?_ | refine awp_seq_k (fun K hK => ?_) | refine areg_text mixed tyok (by decide +kernel) ?_ | refine qal tyok (fun bx => ?_) | refine qbox (fun bx => ?_) | refine qboxV (fun bx => ?_) | ((repeat ((fail_if_success (refine hK _ _ ?_)); clear hK)); refine hK _ _ ?_; clear hK))
      refine qaddw ?_
      repeat (first | refine wKB ?_ | refine awp_seq_k (fun K hK => ?_) | refine areg_text mixed tyok (by decide +kernel) ?_ | refine qal tyok (fun bx => ?_) | refine qbox (fun bx => ?_) | refine qboxV (fun bx => ?_) | ((repeat ((fail_if_success (refine hK _ _ ?_)); clear hK)); refine hK _ _ ?_; clear hK))
      refine ⟨⟨k + 1, hkl⟩, ⟨⟨_, rfl, Sub.refl _⟩, ⟨_, rfl, Sub.of_eq (congrArg _ hkt.symm)⟩, (by (repeat (first | exact True.intro | refine ⟨⟨_, rfl, Sub.refl _⟩, ?_⟩ | refine ⟨⟨_, rfl, Sub.nilso _ _⟩, ?_⟩ | refine ⟨⟨_, rfl, sl_tail _ _ _ _ _⟩, ?_⟩ | refine ⟨⟨_, rfl, Sub.of_eq (by first | rfl | (congr 1; first | omega | (simp only; omega)) | (simp; done) | (simp; omega))⟩, ?_⟩ | refine ⟨⟨_, rfl, Sub.view _ _ _ _⟩, ?_⟩)))⟩, (by (first | exact ⟨0, rfl⟩ | exact ⟨1, rfl⟩ | exact ⟨2, rfl⟩ | exact ⟨3, rfl⟩ | exact ⟨4, rfl⟩)), by simp only; omega⟩
    · have hkg : ¬ (k : Int) < (l.getD i default).args.length := by omega
      obtain rfl : k = (l.getD i default).args.length := by omega
      rw [List.take_length]
      repeat (first | refine wKB ?_ | refine awp_seq_k (fun K hK => ?_) | refine areg_text mixed tyok (by decide +kernel) ?_ | refine qal tyok (fun bx => ?_) | refine qbox (fun bx => ?_) | refine qboxV (fun bx => ?_) | ((repeat ((fail_if_success (refine hK _ _ ?_)); clear hK)); refine hK _ _ ?_; clear hK))
      refine ⟨⟨i + 1, hlt⟩, ⟨⟨_, rfl, Sub.refl _⟩, ⟨_, rfl, Sub.of_eq (congrArg _ hst.symm)⟩, (by (repeat (first | exact True.intro | refine ⟨⟨_, rfl, Sub.refl _⟩, ?_⟩ | refine ⟨⟨_, rfl, Sub.nilso _ _⟩, ?_⟩ | refine ⟨⟨_, rfl, sl_tail _ _ _ _ _⟩, ?_⟩ | refine ⟨⟨_, rfl, Sub.of_eq (by first | rfl | (congr 1; first | omega | (simp only; omega)) | (simp; done) | (simp; omega))⟩, ?_⟩ | refine ⟨⟨_, rfl, Sub.view _ _ _ _⟩, ?_⟩)))⟩, (by (first | exact ⟨0, rfl⟩ | exact ⟨1, rfl⟩ | exact ⟨2, rfl⟩ | exact ⟨3, rfl⟩ | exact ⟨4, rfl⟩)), by simp only; omega⟩
  · have hge : ¬ (i : Int) < l.length := by omega
    obtain rfl : i = l.length := by omega
    rw [List.take_length]
    repeat (first | refine wKB ?_ | refine awp_seq_k (fun K hK => ?_) | refine areg_text mixed tyok (by decide +kernel) ?_ | refine qal tyok (fun bx => ?_) | refine qbox (fun bx => ?_) | refine qboxV (fun bx => ?_) | ((repeat ((fail_if_success (refine hK _ _ ?_)); clear hK)); refine hK _ _ ?_; clear hK))
    refine r1 ?_
    exact Sub.refl _

end Go.Proofs.YtjinaakebjfbiaaGreatDoor

/-
  The document's Same (porismref23): line by line.
-/
namespace Go.Proofs.YtjinaakebjfbiaaGreatDoor
open Go.Ab

theorem cbSame23 : Callable Tryz.prog 32 := fun _ _ => by kernel_rfl
set_option maxHeartbeats 3200000 in
set_option maxRecDepth 100000 in
theorem rsame23_c (a b : List StI) (hl : a.length ≤ 1000000000) (ha : ∀ x ∈ a, x.args.length ≤ 2000000 ∧ lenI x ≤ 2000000) (hb : ∀ x ∈ b, x.args.length ≤ 2000000 ∧ lenI x ≤ 2000000) :
    PCalls Tryz.prog 32 [stmtsI a, stmtsI b] (.bool (sameLn a b)) := by
  refine pcalls_of_awp tyok cbSame23 Tryz.func32 rfl rfl ?_
  by_cases hab : a.length = b.length
  rotate_left
  · have e : sameLn a b = false := by
      unfold sameLn
      rw [show (a.length == b.length) = false by simpa using hab]
      rfl
    have hab' : ¬ (a.length : Int) = b.length := by omega
    repeat (first | refine wKB ?_ | refine awp_seq_k (fun K hK => ?_) | refine areg_text mixed tyok (by decide +kernel) ?_ | refine qal tyok (fun bx => ?_) | refine qbox (fun bx => ?_) | refine qboxV (fun bx => ?_) | ((repeat ((fail_if_success (refine hK _ _ ?_)); clear hK)); refine hK _ _ ?_; clear hK))
    refine r1 ?_
    exact Sub.of_eq (by rw [e])
  repeat (first | refine wKB ?_ | refine awp_seq_k (fun K hK => ?_) | refine areg_text mixed tyok (by decide +kernel) ?_ | refine qal tyok (fun bx => ?_) | refine qbox (fun bx => ?_) | refine qboxV (fun bx => ?_) | ((repeat ((fail_if_success (refine hK _ _ ?_)); clear hK)); refine hK _ _ ?_; clear hK))
  refine awp_loop0 (ι := { i : Nat // i ≤ a.length ∧ ∀ j, j < i → (lineI (a.getD j default) == lineI (b.getD j default)) = true })
    (fun i => [(0, stmtsI a), (1, stmtsI b), (5, .int .i64 i.1)]) (fun _ => []) (fun i => a.length - i.1) ⟨0, Nat.zero_le _, fun j hj => absurd hj (by omega)⟩ (by (repeat (first | exact True.intro | refine ⟨⟨_, rfl, Sub.refl _⟩, ?_⟩ | refine ⟨⟨_, rfl, Sub.nilso _ _⟩, ?_⟩ | refine ⟨⟨_, rfl, sl_tail _ _ _ _ _⟩, ?_⟩ | refine ⟨⟨_, rfl, Sub.of_eq (by first | rfl | (congr 1; first | omega | (simp only; omega)) | (simp; done) | (simp; omega))⟩, ?_⟩ | refine ⟨⟨_, rfl, Sub.view _ _ _ _⟩, ?_⟩))) (by (first | exact ⟨0, rfl⟩ | exact ⟨1, rfl⟩ | exact ⟨2, rfl⟩ | exact ⟨3, rfl⟩ | exact ⟨4, rfl⟩)) ?_
  rintro ⟨i, hi, hn⟩
  simp only at hi hn ⊢
  by_cases hlt : i < a.length
  · have hlt' : (i : Int) < a.length := by omega
    have hlb : (i : Int) < b.length := by omega
    have h1 := ha (a.getD i default) (by rw [getD_at hlt]; exact List.getElem_mem hlt)
    have h2 := hb (b.getD i default) (by rw [getD_at (by omega)]; exact List.getElem_mem _)
    have g1 := rline_c (a.getD i default) h1.1 h1.2
    have g2 := rline_c (b.getD i default) h2.1 h2.2
    repeat (first | refine wKB ?_ | refine awp_seq_k (fun K hK => ?_) | refine qal tyok (fun bx => ?_) | refine qbox (fun bx => ?_) | refine qboxV (fun bx => ?_) | ((repeat ((fail_if_success (refine hK _ _ ?_)); clear hK)); refine hK _ _ ?_; clear hK))
    refine areg_soft mixed tyok [4, 9] [] [0, 1, 2, 3, 4, 5, 6, 7, 8, 9, 10] (by decide +kernel) ?_
    repeat (first | refine wKB ?_ | refine awp_seq_k (fun K hK => ?_) | refine areg_text mixed tyok (by decide +kernel) ?_ | refine qal tyok (fun bx => ?_) | refine qbox (fun bx => ?_) | refine qboxV (fun bx => ?_) | refine TR.pcall rfl rfl rfl rfl True.intro rfl rfl (g1) ?_ | refine TR.pcall rfl rfl rfl rfl True.intro rfl rfl (g2) ?_ | refine pco rfl rfl rfl rfl rfl rfl rfl rfl (fun _ => g1) ?_ | refine pco rfl rfl rfl rfl rfl rfl rfl rfl (fun _ => g2) ?_ | ((repeat ((fail_if_success (refine hK _ _ ?_)); clear hK)); refine hK _ _ ?_; clear hK))
    refine awp_cond rfl (fun hc => ?_) (fun hc => ?_)
    · have hne : (lineI (a.getD i default) == lineI (b.getD i default)) = false := by simpa using hc
      have e : sameLn a b = false := by
        unfold sameLn
        rw [Bool.and_eq_false_imp]
        intro _
        rw [List.all_eq_false]
        exact ⟨i, List.mem_range.2 hlt, by rw [hne]; decide⟩
      repeat (first | refine wKB ?_ | refine awp_seq_k (fun K hK => ?_) | refine areg_text mixed tyok (by decide +kernel) ?_ | refine qal tyok (fun bx => ?_) | refine qbox (fun bx => ?_) | refine qboxV (fun bx => ?_) | ((repeat ((fail_if_success (refine hK _ _ ?_)); clear hK)); refine hK _ _ ?_; clear hK))
      refine r1 ?_
      exact Sub.of_eq (by rw [e])
    · have he : (lineI (a.getD i default) == lineI (b.getD i default)) = true := by simpa using hc
      repeat (first | refine wKB ?_ | refine awp_seq_k (fun K hK => ?_) | refine areg_text mixed tyok (by decide +kernel) ?_ | refine qal tyok (fun bx => ?_) | refine qbox (fun bx => ?_) | refine qboxV (fun bx => ?_) | ((repeat ((fail_if_success (refine hK _ _ ?_)); clear hK)); refine hK _ _ ?_; clear hK))
      refine ⟨⟨i + 1, hlt, fun j hj => ?_⟩, (by (repeat (first | exact True.intro | refine ⟨⟨_, rfl, Sub.refl _⟩, ?_⟩ | refine ⟨⟨_, rfl, Sub.nilso _ _⟩, ?_⟩ | refine ⟨⟨_, rfl, sl_tail _ _ _ _ _⟩, ?_⟩ | refine ⟨⟨_, rfl, Sub.of_eq (by first | rfl | (congr 1; first | omega | (simp only; omega)) | (simp; done) | (simp; omega))⟩, ?_⟩ | refine ⟨⟨_, rfl, Sub.view _ _ _ _⟩, ?_⟩))), (by (first | exact ⟨0, rfl⟩ | exact ⟨1, rfl⟩ | exact ⟨2, rfl⟩ | exact ⟨3, rfl⟩ | exact ⟨4, rfl⟩)), by simp only; omega⟩
      by_cases e : j = i
      · rw [e]; exact he
      · exact hn j (by omega)
  · have hge : ¬ (i : Int) < a.length := by omega
    have e : sameLn a b = true := by
      unfold sameLn
      rw [Bool.and_eq_true]
      refine ⟨by simpa using hab, List.all_eq_true.2 fun j hj => hn j ?_⟩
      have := List.mem_range.1 hj
      omega
    repeat (first | refine wKB ?_ | refine awp_seq_k (fun K hK => ?_) | refine areg_text mixed tyok (by decide +kernel) ?_ | refine qal tyok (fun bx => ?_) | refine qbox (fun bx => ?_) | refine qboxV (fun bx => ?_) | ((repeat ((fail_if_success (refine hK _ _ ?_)); clear hK)); refine hK _ _ ?_; clear hK))
    refine r1 ?_
    exact Sub.of_eq (by rw [e])

end Go.Proofs.YtjinaakebjfbiaaGreatDoor

/-
  PrinterPrints returns true where what is read is not too much.
-/
namespace Go.Proofs.YtjinaakebjfbiaaGreatDoor
open Go.Ab

theorem small_bulk {l : List StI} (h : bulkL l ≤ 1048576) : Small l := by
  have key : ∀ l : List StI, l.length ≤ bulkL l ∧ sumLen l ≤ 21 * bulkL l ∧ ∀ x ∈ l, lenI x + 1 ≤ bulkL l := by
    intro l
    induction l with
    | nil => exact ⟨Nat.zero_le _, Nat.zero_le _, fun x hx => absurd hx List.not_mem_nil⟩
    | cons y l ih =>
      have e : bulkL (y :: l) = lenI y + 1 + bulkL l := rfl
      have e2 : sumLen (y :: l) = lenI y + 21 + sumLen l := rfl
      refine ⟨by rw [e, List.length_cons]; omega, by rw [e, e2]; omega, fun x hx => ?_⟩
      rcases List.mem_cons.1 hx with rfl | hx
      · omega
      · have := ih.2.2 x hx
        omega
  obtain ⟨h1, h2, h3⟩ := key l
  have hc : ∀ xs : List (List UInt8), xs.length ≤ cntL xs := by
    intro xs
    induction xs with
    | nil => exact Nat.zero_le _
    | cons x xs ih =>
      have e : cntL (x :: xs) = x.length + 1 + cntL xs := rfl
      simp only [List.length_cons]
      omega
  refine ⟨by omega, fun x hx => ?_, fun x hx => ?_, fun x hx => ?_, fun x hx => ?_, fun x hx t ht => ?_, by omega⟩
  · have a1 := h3 x hx
    have a2 := hc (x.args.map (·.w))
    rw [List.length_map] at a2
    unfold lenI at a1
    omega
  · have a1 := h3 x hx
    omega
  · have a1 := h3 x hx
    unfold lenI at a1
    omega
  · have a1 := h3 x hx
    unfold lenI at a1
    omega
  · have a1 := h3 x hx
    have a2 : t.w.length + 1 ≤ cntL (x.args.map (·.w)) := cnt_mem (List.mem_map_of_mem (f := fun t : TokI => t.w) ht)
    unfold lenI at a1
    omega

theorem great_small (l : List StI) (h : Small l) : PCalls Tryz.prog 12 [stmtsI l] (.bool (decide (grL l > 1000))) :=
  great_c l (by have := h.len; omega) (fun x hx => by have := h.args x hx; omega) (fun x hx t ht => by have := h.args' x hx t ht; omega)

theorem cbPnP : Callable Tryz.prog 6 := fun _ _ => by kernel_rfl
set_option maxHeartbeats 6400000 in
set_option maxRecDepth 100000 in
theorem printerPrints_c (l m : List StI) (hl : bulkL l ≤ 1048576) (hm : bulkL m ≤ 1048576) : PCalls Tryz.prog 6 [stmtsI l, stmtsI m] (.bool true) := by
  refine pcalls_of_awp tyok cbPnP Tryz.func6 rfl rfl ?_
  have sl := small_bulk hl
  have sm := small_bulk hm
  have g1 := great_small l sl
  have g2 := great_small m sm
  cases h1 : decide (grL l > 1000) with
  | true =>
    rw [h1] at g1
    repeat (first | refine wKB ?_ | refine awp_seq_k (fun K hK => ?_) | refine areg_text mixed tyok (by decide +kernel) ?_ | refine qal tyok (fun bx => ?_) | refine qbox (fun bx => ?_) | refine qboxV (fun bx => ?_) | refine TR.pcall rfl rfl rfl rfl True.intro rfl rfl (known23_c) ?_ | refine TR.pcall rfl rfl rfl rfl True.intro rfl rfl (g1) ?_ | refine TR.pcall rfl rfl rfl rfl True.intro rfl rfl (g2) ?_ | refine pco rfl rfl rfl rfl rfl rfl rfl rfl (fun _ => known23_c) ?_ | refine pco rfl rfl rfl rfl rfl rfl rfl rfl (fun _ => g1) ?_ | refine pco rfl rfl rfl rfl rfl rfl rfl rfl (fun _ => g2) ?_ | ((repeat ((fail_if_success (refine hK _ _ ?_)); clear hK)); refine hK _ _ ?_; clear hK))
    refine r1 ?_
    exact Sub.refl _
  | false =>
  cases h2 : decide (grL m > 1000) with
  | true =>
    rw [h1] at g1
    rw [h2] at g2
    repeat (first | refine wKB ?_ | refine awp_seq_k (fun K hK => ?_) | refine areg_text mixed tyok (by decide +kernel) ?_ | refine qal tyok (fun bx => ?_) | refine qbox (fun bx => ?_) | refine qboxV (fun bx => ?_) | refine TR.pcall rfl rfl rfl rfl True.intro rfl rfl (known23_c) ?_ | refine TR.pcall rfl rfl rfl rfl True.intro rfl rfl (g1) ?_ | refine TR.pcall rfl rfl rfl rfl True.intro rfl rfl (g2) ?_ | refine pco rfl rfl rfl rfl rfl rfl rfl rfl (fun _ => known23_c) ?_ | refine pco rfl rfl rfl rfl rfl rfl rfl rfl (fun _ => g1) ?_ | refine pco rfl rfl rfl rfl rfl rfl rfl rfl (fun _ => g2) ?_ | ((repeat ((fail_if_success (refine hK _ _ ?_)); clear hK)); refine hK _ _ ?_; clear hK))
    refine r1 ?_
    exact Sub.refl _
  | false =>
  rw [h1] at g1
  rw [h2] at g2
  have fa : ∀ {l : List StI}, Small l → ∀ x ∈ l, x.args.length ≤ 2000000 ∧ lenI x ≤ 2000000 := fun h x hx => ⟨h.args x hx, h.line x hx⟩
  have p1 := print_c l sl
  have p2 := rprint_c l sl
  have q1 := psame_c l m (by have := sl.len; omega) (fa sl) (fa sm)
  have q2 := rsame23_c l m (by have := sl.len; omega) (fa sl) (fa sm)
  have q3 := psame_c l l (by have := sl.len; omega) (fa sl) (fa sl)
  rw [sameLn_refl] at q3
  have g3 := look22_c l (by have := sl.len; omega) (fun x hx => by have := sl.args x hx; omega)
  rw [lookR_of] at g3
  have v3 := full_c l (by have := sl.len; omega) (fun x hx => by have := sl.args x hx; omega)
  have v4 := plimits_c l (by have := sl.len; omega) (fun x hx => by have := sl.args x hx; omega)
  generalize hP : printF l = pf at p1 p2
  obtain ⟨pe, pt⟩ := pf
  simp only at p1 p2
  by_cases h : (lookF l).e = 0
  rotate_left
  · rw [if_neg h] at g3
    simp only [oneV] at g3
    rw [decide_eq_false h] at v3
    simp only [limsV, decide_eq_false h] at v4
    cases hS : sameLn l m with
    | true =>
      rw [hS] at q1 q2
      repeat (first | refine wKE ?_ | refine awp_seq_k (fun K hK => ?_) | refine areg_text mixed tyok (by decide +kernel) ?_ | refine qal tyok (fun bx => ?_) | refine qbox (fun bx => ?_) | refine qboxV (fun bx => ?_) | refine TR.pcall rfl rfl rfl rfl True.intro rfl rfl (known23_c) ?_ | refine TR.pcall rfl rfl rfl rfl True.intro rfl rfl (g1) ?_ | refine TR.pcall rfl rfl rfl rfl True.intro rfl rfl (g2) ?_ | refine TR.pcall rfl rfl rfl rfl True.intro rfl rfl (p1) ?_ | refine TR.pcall rfl rfl rfl rfl True.intro rfl rfl (p2) ?_ | refine TR.pcall rfl rfl rfl rfl True.intro rfl rfl (q1) ?_ | refine TR.pcall rfl rfl rfl rfl True.intro rfl rfl (q2) ?_ | refine TR.pcall rfl rfl rfl rfl True.intro rfl rfl (q3) ?_ | refine pco rfl rfl rfl rfl rfl rfl rfl rfl (fun _ => known23_c) ?_ | refine pco rfl rfl rfl rfl rfl rfl rfl rfl (fun _ => g1) ?_ | refine pco rfl rfl rfl rfl rfl rfl rfl rfl (fun _ => g2) ?_ | refine pco rfl rfl rfl rfl rfl rfl rfl rfl (fun _ => p1) ?_ | refine pco rfl rfl rfl rfl rfl rfl rfl rfl (fun _ => p2) ?_ | refine pco rfl rfl rfl rfl rfl rfl rfl rfl (fun _ => q1) ?_ | refine pco rfl rfl rfl rfl rfl rfl rfl rfl (fun _ => q2) ?_ | refine pco rfl rfl rfl rfl rfl rfl rfl rfl (fun _ => q3) ?_ | ((repeat ((fail_if_success (refine hK _ _ ?_)); clear hK)); refine hK _ _ ?_; clear hK))
      repeat (first | refine wKB ?_ | refine awp_seq_k (fun K hK => ?_) | refine areg_text mixed tyok (by decide +kernel) ?_ | refine qal tyok (fun bx => ?_) | refine qbox (fun bx => ?_) | refine qboxV (fun bx => ?_) | refine TR.pcall rfl rfl rfl rfl True.intro rfl rfl (known23_c) ?_ | refine TR.pcall rfl rfl rfl rfl True.intro rfl rfl (g3) ?_ | refine TR.pcall rfl rfl rfl rfl True.intro rfl rfl (v3) ?_ | refine TR.pcall rfl rfl rfl rfl True.intro rfl rfl (v4) ?_ | refine pco rfl rfl rfl rfl rfl rfl rfl rfl (fun _ => known23_c) ?_ | refine pco rfl rfl rfl rfl rfl rfl rfl rfl (fun _ => g3) ?_ | refine pco rfl rfl rfl rfl rfl rfl rfl rfl (fun _ => v3) ?_ | refine pco rfl rfl rfl rfl rfl rfl rfl rfl (fun _ => v4) ?_ | ((repeat ((fail_if_success (refine hK _ _ ?_)); clear hK)); refine hK _ _ ?_; clear hK))
      refine fnQ_ret 4 rfl (.tmp rfl .nil) (Sub.of_eq ?_) ⟨rfl, rfl⟩
      rfl
    | false =>
      rw [hS] at q1 q2
      repeat (first | refine wKE ?_ | refine awp_seq_k (fun K hK => ?_) | refine areg_text mixed tyok (by decide +kernel) ?_ | refine qal tyok (fun bx => ?_) | refine qbox (fun bx => ?_) | refine qboxV (fun bx => ?_) | refine TR.pcall rfl rfl rfl rfl True.intro rfl rfl (known23_c) ?_ | refine TR.pcall rfl rfl rfl rfl True.intro rfl rfl (g1) ?_ | refine TR.pcall rfl rfl rfl rfl True.intro rfl rfl (g2) ?_ | refine TR.pcall rfl rfl rfl rfl True.intro rfl rfl (p1) ?_ | refine TR.pcall rfl rfl rfl rfl True.intro rfl rfl (p2) ?_ | refine TR.pcall rfl rfl rfl rfl True.intro rfl rfl (q1) ?_ | refine TR.pcall rfl rfl rfl rfl True.intro rfl rfl (q2) ?_ | refine TR.pcall rfl rfl rfl rfl True.intro rfl rfl (q3) ?_ | refine pco rfl rfl rfl rfl rfl rfl rfl rfl (fun _ => known23_c) ?_ | refine pco rfl rfl rfl rfl rfl rfl rfl rfl (fun _ => g1) ?_ | refine pco rfl rfl rfl rfl rfl rfl rfl rfl (fun _ => g2) ?_ | refine pco rfl rfl rfl rfl rfl rfl rfl rfl (fun _ => p1) ?_ | refine pco rfl rfl rfl rfl rfl rfl rfl rfl (fun _ => p2) ?_ | refine pco rfl rfl rfl rfl rfl rfl rfl rfl (fun _ => q1) ?_ | refine pco rfl rfl rfl rfl rfl rfl rfl rfl (fun _ => q2) ?_ | refine pco rfl rfl rfl rfl rfl rfl rfl rfl (fun _ => q3) ?_ | ((repeat ((fail_if_success (refine hK _ _ ?_)); clear hK)); refine hK _ _ ?_; clear hK))
      repeat (first | refine wKB ?_ | refine awp_seq_k (fun K hK => ?_) | refine areg_text mixed tyok (by decide +kernel) ?_ | refine qal tyok (fun bx => ?_) | refine qbox (fun bx => ?_) | refine qboxV (fun bx => ?_) | refine TR.pcall rfl rfl rfl rfl True.intro rfl rfl (known23_c) ?_ | refine TR.pcall rfl rfl rfl rfl True.intro rfl rfl (g3) ?_ | refine TR.pcall rfl rfl rfl rfl True.intro rfl rfl (v3) ?_ | refine TR.pcall rfl rfl rfl rfl True.intro rfl rfl (v4) ?_ | refine pco rfl rfl rfl rfl rfl rfl rfl rfl (fun _ => known23_c) ?_ | refine pco rfl rfl rfl rfl rfl rfl rfl rfl (fun _ => g3) ?_ | refine pco rfl rfl rfl rfl rfl rfl rfl rfl (fun _ => v3) ?_ | refine pco rfl rfl rfl rfl rfl rfl rfl rfl (fun _ => v4) ?_ | ((repeat ((fail_if_success (refine hK _ _ ?_)); clear hK)); refine hK _ _ ?_; clear hK))
      refine fnQ_ret 4 rfl (.tmp rfl .nil) (Sub.of_eq ?_) ⟨rfl, rfl⟩
      rfl
  rw [if_pos h] at g3
  simp only [oneV] at g3
  rw [decide_eq_true h] at v3
  simp only [limsV, decide_eq_true h] at v4
  obtain ⟨n3, _, _, _, hpl⟩ := lookF_id h
  have h4 : (l.getD 0 default).args.length = 4 := by
    have := ((place_k (hpl 0 (by omega)).1).1 rfl).2
    rw [getD_at (by omega)]
    exact this
  have n3' : (1 : Int) < l.length := by omega
  have g4 := limits22_c (l.getD 0 default)
  have hlim : limV (l.getD 0 default) = .agg [.int .i64 ((l.getD 0 default).args.getD 0 default).n, .int .i64 ((l.getD 0 default).args.getD 1 default).n, .int .i64 ((l.getD 0 default).args.getD 2 default).n, .int .i64 ((l.getD 0 default).args.getD 3 default).n] := by
    have hk1 : (l.getD 0 default).k = 1 := by
      have := ((place_k (hpl 0 (by omega)).1).1 rfl).1
      rw [getD_at (by omega)]
      exact this
    unfold limV
    match hA : (l.getD 0 default).args, h4 with
    | [a, b, c, d], _ =>
      simp only
      rw [if_pos hk1]
      rfl
  rw [hlim] at g4
  cases hS : sameLn l m with
  | true =>
    rw [hS] at q1 q2
    repeat (first | refine wKE ?_ | refine awp_seq_k (fun K hK => ?_) | refine areg_text mixed tyok (by decide +kernel) ?_ | refine qal tyok (fun bx => ?_) | refine qbox (fun bx => ?_) | refine qboxV (fun bx => ?_) | refine TR.pcall rfl rfl rfl rfl True.intro rfl rfl (known23_c) ?_ | refine TR.pcall rfl rfl rfl rfl True.intro rfl rfl (g1) ?_ | refine TR.pcall rfl rfl rfl rfl True.intro rfl rfl (g2) ?_ | refine TR.pcall rfl rfl rfl rfl True.intro rfl rfl (p1) ?_ | refine TR.pcall rfl rfl rfl rfl True.intro rfl rfl (p2) ?_ | refine TR.pcall rfl rfl rfl rfl True.intro rfl rfl (q1) ?_ | refine TR.pcall rfl rfl rfl rfl True.intro rfl rfl (q2) ?_ | refine TR.pcall rfl rfl rfl rfl True.intro rfl rfl (q3) ?_ | refine pco rfl rfl rfl rfl rfl rfl rfl rfl (fun _ => known23_c) ?_ | refine pco rfl rfl rfl rfl rfl rfl rfl rfl (fun _ => g1) ?_ | refine pco rfl rfl rfl rfl rfl rfl rfl rfl (fun _ => g2) ?_ | refine pco rfl rfl rfl rfl rfl rfl rfl rfl (fun _ => p1) ?_ | refine pco rfl rfl rfl rfl rfl rfl rfl rfl (fun _ => p2) ?_ | refine pco rfl rfl rfl rfl rfl rfl rfl rfl (fun _ => q1) ?_ | refine pco rfl rfl rfl rfl rfl rfl rfl rfl (fun _ => q2) ?_ | refine pco rfl rfl rfl rfl rfl rfl rfl rfl (fun _ => q3) ?_ | ((repeat ((fail_if_success (refine hK _ _ ?_)); clear hK)); refine hK _ _ ?_; clear hK))
    repeat (first | refine wKB ?_ | refine awp_seq_k (fun K hK => ?_) | refine qal tyok (fun bx => ?_) | refine qbox (fun bx => ?_) | refine qboxV (fun bx => ?_) | refine TR.pcall rfl rfl rfl rfl True.intro rfl rfl (known23_c) ?_ | refine TR.pcall rfl rfl rfl rfl True.intro rfl rfl (g3) ?_ | refine TR.pcall rfl rfl rfl rfl True.intro rfl rfl (g4) ?_ | refine TR.pcall rfl rfl rfl rfl True.intro rfl rfl (v3) ?_ | refine TR.pcall rfl rfl rfl rfl True.intro rfl rfl (v4) ?_ | refine pco rfl rfl rfl rfl rfl rfl rfl rfl (fun _ => known23_c) ?_ | refine pco rfl rfl rfl rfl rfl rfl rfl rfl (fun _ => g3) ?_ | refine pco rfl rfl rfl rfl rfl rfl rfl rfl (fun _ => g4) ?_ | refine pco rfl rfl rfl rfl rfl rfl rfl rfl (fun _ => v3) ?_ | refine pco rfl rfl rfl rfl rfl rfl rfl rfl (fun _ => v4) ?_ | ((repeat ((fail_if_success (refine hK _ _ ?_)); clear hK)); refine hK _ _ ?_; clear hK))
    refine areg_kept mixed tyok [(1, []), (6, []), (16, [])] [0, 2, 1, 3, 4, 5, 7, 8, 9, 10, 11, 12, 6, 13, 14, 15, 16, 17, 18] (by decide +kernel) ?_
    repeat (first | refine wKB ?_ | refine awp_seq_k (fun K hK => ?_) | refine areg_text mixed tyok (by decide +kernel) ?_ | refine qal tyok (fun bx => ?_) | refine qbox (fun bx => ?_) | refine qboxV (fun bx => ?_) | refine TR.pcall rfl rfl rfl rfl True.intro rfl rfl (known23_c) ?_ | refine TR.pcall rfl rfl rfl rfl True.intro rfl rfl (g3) ?_ | refine TR.pcall rfl rfl rfl rfl True.intro rfl rfl (g4) ?_ | refine TR.pcall rfl rfl rfl rfl True.intro rfl rfl (v3) ?_ | refine TR.pcall rfl rfl rfl rfl True.intro rfl rfl (v4) ?_ | refine pco rfl rfl rfl rfl rfl rfl rfl rfl (fun _ => known23_c) ?_ | refine pco rfl rfl rfl rfl rfl rfl rfl rfl (fun _ => g3) ?_ | refine pco rfl rfl rfl rfl rfl rfl rfl rfl (fun _ => g4) ?_ | refine pco rfl rfl rfl rfl rfl rfl rfl rfl (fun _ => v3) ?_ | refine pco rfl rfl rfl rfl rfl rfl rfl rfl (fun _ => v4) ?_ | ((repeat ((fail_if_success (refine hK _ _ ?_)); clear hK)); refine hK _ _ ?_; clear hK))
    refine fnQ_ret 2 rfl (.tmp rfl .nil) (Sub.of_eq (congrArg AV.bool ?_)) ⟨rfl, rfl⟩
    simp [wFull]
  | false =>
    rw [hS] at q1 q2
    repeat (first | refine wKE ?_ | refine awp_seq_k (fun K hK => ?_) | refine areg_text mixed tyok (by decide +kernel) ?_ | refine qal tyok (fun bx => ?_) | refine qbox (fun bx => ?_) | refine qboxV (fun bx => ?_) | refine TR.pcall rfl rfl rfl rfl True.intro rfl rfl (known23_c) ?_ | refine TR.pcall rfl rfl rfl rfl True.intro rfl rfl (g1) ?_ | refine TR.pcall rfl rfl rfl rfl True.intro rfl rfl (g2) ?_ | refine TR.pcall rfl rfl rfl rfl True.intro rfl rfl (p1) ?_ | refine TR.pcall rfl rfl rfl rfl True.intro rfl rfl (p2) ?_ | refine TR.pcall rfl rfl rfl rfl True.intro rfl rfl (q1) ?_ | refine TR.pcall rfl rfl rfl rfl True.intro rfl rfl (q2) ?_ | refine TR.pcall rfl rfl rfl rfl True.intro rfl rfl (q3) ?_ | refine pco rfl rfl rfl rfl rfl rfl rfl rfl (fun _ => known23_c) ?_ | refine pco rfl rfl rfl rfl rfl rfl rfl rfl (fun _ => g1) ?_ | refine pco rfl rfl rfl rfl rfl rfl rfl rfl (fun _ => g2) ?_ | refine pco rfl rfl rfl rfl rfl rfl rfl rfl (fun _ => p1) ?_ | refine pco rfl rfl rfl rfl rfl rfl rfl rfl (fun _ => p2) ?_ | refine pco rfl rfl rfl rfl rfl rfl rfl rfl (fun _ => q1) ?_ | refine pco rfl rfl rfl rfl rfl rfl rfl rfl (fun _ => q2) ?_ | refine pco rfl rfl rfl rfl rfl rfl rfl rfl (fun _ => q3) ?_ | ((repeat ((fail_if_success (refine hK _ _ ?_)); clear hK)); refine hK _ _ ?_; clear hK))
    repeat (first | refine wKB ?_ | refine awp_seq_k (fun K hK => ?_) | refine qal tyok (fun bx => ?_) | refine qbox (fun bx => ?_) | refine qboxV (fun bx => ?_) | refine TR.pcall rfl rfl rfl rfl True.intro rfl rfl (known23_c) ?_ | refine TR.pcall rfl rfl rfl rfl True.intro rfl rfl (g3) ?_ | refine TR.pcall rfl rfl rfl rfl True.intro rfl rfl (g4) ?_ | refine TR.pcall rfl rfl rfl rfl True.intro rfl rfl (v3) ?_ | refine TR.pcall rfl rfl rfl rfl True.intro rfl rfl (v4) ?_ | refine pco rfl rfl rfl rfl rfl rfl rfl rfl (fun _ => known23_c) ?_ | refine pco rfl rfl rfl rfl rfl rfl rfl rfl (fun _ => g3) ?_ | refine pco rfl rfl rfl rfl rfl rfl rfl rfl (fun _ => g4) ?_ | refine pco rfl rfl rfl rfl rfl rfl rfl rfl (fun _ => v3) ?_ | refine pco rfl rfl rfl rfl rfl rfl rfl rfl (fun _ => v4) ?_ | ((repeat ((fail_if_success (refine hK _ _ ?_)); clear hK)); refine hK _ _ ?_; clear hK))
    refine areg_kept mixed tyok [(1, []), (6, []), (16, [])] [0, 2, 1, 3, 4, 5, 7, 8, 9, 10, 11, 12, 6, 13, 14, 15, 16, 17, 18] (by decide +kernel) ?_
    repeat (first | refine wKB ?_ | refine awp_seq_k (fun K hK => ?_) | refine areg_text mixed tyok (by decide +kernel) ?_ | refine qal tyok (fun bx => ?_) | refine qbox (fun bx => ?_) | refine qboxV (fun bx => ?_) | refine TR.pcall rfl rfl rfl rfl True.intro rfl rfl (known23_c) ?_ | refine TR.pcall rfl rfl rfl rfl True.intro rfl rfl (g3) ?_ | refine TR.pcall rfl rfl rfl rfl True.intro rfl rfl (g4) ?_ | refine TR.pcall rfl rfl rfl rfl True.intro rfl rfl (v3) ?_ | refine TR.pcall rfl rfl rfl rfl True.intro rfl rfl (v4) ?_ | refine pco rfl rfl rfl rfl rfl rfl rfl rfl (fun _ => known23_c) ?_ | refine pco rfl rfl rfl rfl rfl rfl rfl rfl (fun _ => g3) ?_ | refine pco rfl rfl rfl rfl rfl rfl rfl rfl (fun _ => g4) ?_ | refine pco rfl rfl rfl rfl rfl rfl rfl rfl (fun _ => v3) ?_ | refine pco rfl rfl rfl rfl rfl rfl rfl rfl (fun _ => v4) ?_ | ((repeat ((fail_if_success (refine hK _ _ ?_)); clear hK)); refine hK _ _ ?_; clear hK))
    refine fnQ_ret 2 rfl (.tmp rfl .nil) (Sub.of_eq (congrArg AV.bool ?_)) ⟨rfl, rfl⟩
    simp [wFull]

end Go.Proofs.YtjinaakebjfbiaaGreatDoor
