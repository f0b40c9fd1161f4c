/-
  Slices that are made and appended to.
-/
import Derived.Test.YtgbmanmcioailaaDoorAb6
namespace Go.Ab

/-- A list as a slice: each element's cells by f. -/
def sl {α : Type} [Inhabited α] (f : α → List AV) (sz : Nat) (xs : List α) (o : Own) : AV := .slice sz xs.length (fun i => f (xs.getD i default)) o

theorem Sub.el {sz n : Nat} {el el' : Nat → List AV} {o : Own} (h : ∀ i, i < n → el' i = el i) : Sub (.slice sz n el o) (.slice sz n el' o) := by
  intro st w c hr
  cases hr with
  | slice _ _ _ _ a cap b off c hn hbase hlen hcell hrep hown hone =>
    exact .slice sz n el' o a cap b off c hn hbase (fun i hi => by rw [h i hi]; exact hlen i hi) hcell (fun i j v hi hv => hrep i j v hi (by rw [← h i hi]; exact hv)) hown hone

/-- The cells of a slice, one behind the other. -/
structure RowOf (st : Stab) (w : World) (sz n : Nat) (el : Nat → List AV) (a : Option Addr) (b off : Nat) (C : Nat → Value) : Prop where
  base : n = 0 ∨ a = some ⟨b, off, none⟩
  len : ∀ i, i < n → (el i).length = sz
  cell : ∀ k, k < n * sz → st b (off + k) ∧ w.cell? ⟨b, off + k, none⟩ = some (C k)
  rep : ∀ i j v, i < n → (el i)[j]? = some v → Rep st w v (C (i * sz + j))
  one : ∀ k, k < n * sz → (C k).oneCell' = true

theorem row_of {st : Stab} {w : World} {sz n : Nat} {el : Nat → List AV} {o : Own} {x : Value} (h : Rep st w (.slice sz n el o) x) (hsz : 0 < sz) :
    ∃ a cap b off C, x = .slice a n cap ∧ n ≤ cap ∧ o.ok a n cap ∧ RowOf st w sz n el a b off C := by
  cases h with
  | slice _ _ _ _ a cap b off c hn hbase hlen hcell hrep hown hone =>
    have hdm : ∀ k, k < n * sz → k / sz < n ∧ k % sz < sz := fun k hk => ⟨Nat.div_lt_of_lt_mul (by rw [Nat.mul_comm]; exact hk), Nat.mod_lt _ hsz⟩
    refine ⟨a, cap, b, off, fun k => c (k / sz) (k % sz), rfl, hn, hown, hbase, hlen, fun k hk => ?_, fun i j v hi hv => ?_, fun k hk => hone _ _ (hdm k hk).1 (hdm k hk).2⟩
    · have := hcell (k / sz) (k % sz) (hdm k hk).1 (hdm k hk).2
      rwa [Nat.mul_comm, Nat.div_add_mod] at this
    · have hj : j < sz := by
        have := (List.getElem?_eq_some_iff.1 hv).1
        rw [hlen i hi] at this
        exact this
      have e1 : (i * sz + j) / sz = i := by
        rw [Nat.mul_comm, Nat.mul_add_div hsz, Nat.div_eq_of_lt hj, Nat.add_zero]
      have e2 : (i * sz + j) % sz = j := by
        rw [Nat.mul_comm, Nat.mul_add_mod, Nat.mod_eq_of_lt hj]
      rw [e1, e2]
      exact hrep i j v hi hv

theorem rep_of_row {st : Stab} {w : World} {sz n : Nat} {el : Nat → List AV} {o : Own} {a : Option Addr} {cap b off : Nat} {C : Nat → Value} (hn : n ≤ cap) (ho : o.ok a n cap)
    (h : RowOf st w sz n el a b off C) : Rep st w (.slice sz n el o) (.slice a n cap) := by
  have hb : ∀ i j, i < n → j < sz → i * sz + j < n * sz := fun i j hi hj => by
    have : (i + 1) * sz ≤ n * sz := Nat.mul_le_mul_right _ hi
    rw [Nat.add_mul] at this
    omega
  exact .slice sz n el o a cap b off (fun i j => C (i * sz + j)) hn h.base h.len (fun i j hi hj => h.cell _ (hb i j hi hj)) h.rep ho (fun i j hi hj => h.one _ (hb i j hi hj))

theorem map_range_get {C : Nat → Value} {n : Nat} : ∀ (j : Nat) (u : Value), ((List.range n).map C)[j]? = some u → j < n ∧ u = C j := by
  intro j u h
  rw [List.getElem?_map] at h
  by_cases hj : j < n
  · simp [hj] at h; exact ⟨hj, h.symm⟩
  · simp [List.getElem?_eq_none (l := List.range n) (by simpa using hj)] at h

def glue (n : Nat) (el el2 : Nat → List AV) (i : Nat) : List AV := if i < n then el i else el2 (i - n)

/-- A row, and another one laid behind it. -/
theorem RowOf.glue {st st' : Stab} {w w' : World} {sz n m : Nat} {el el2 : Nat → List AV} {a a2 a' : Option Addr} {b off b2 off2 b' off' : Nat} {C C2 D : Nat → Value}
    (h1 : RowOf st w sz n el a b off C) (h2 : RowOf st w sz m el2 a2 b2 off2 C2) (k : Keeps st st' w w') (ha : n + m = 0 ∨ a' = some ⟨b', off', none⟩)
    (hD1 : ∀ j, j < n * sz → D j = C j) (hD2 : ∀ j, j < m * sz → D (n * sz + j) = C2 j) (hst : ∀ j, j < (n + m) * sz → st' b' (off' + j) ∧ w'.cell? ⟨b', off' + j, none⟩ = some (D j)) :
    RowOf st' w' sz (n + m) (Go.Ab.glue n el el2) a' b' off' D := by
  have hjlt : ∀ (i j n : Nat), i < n → j < sz → i * sz + j < n * sz := fun i j n hi hj => by
    have : (i + 1) * sz ≤ n * sz := Nat.mul_le_mul_right _ hi
    rw [Nat.add_mul] at this
    omega
  refine ⟨ha, fun i hi => ?_, hst, fun i j v hi hv => ?_, fun j hj => ?_⟩
  · unfold Go.Ab.glue
    split
    · rename_i h; exact h1.len i h
    · exact h2.len _ (by omega)
  · unfold Go.Ab.glue at hv
    split at hv
    · rename_i h
      have hjs : j < sz := by
        have := (List.getElem?_eq_some_iff.1 hv).1
        rw [h1.len i h] at this
        exact this
      rw [hD1 _ (hjlt i j n h hjs)]
      exact (h1.rep i j v h hv).mono k
    · rename_i h
      have him : i - n < m := by omega
      have hjs : j < sz := by
        have := (List.getElem?_eq_some_iff.1 hv).1
        rw [h2.len _ him] at this
        exact this
      have e : i * sz + j = n * sz + ((i - n) * sz + j) := by
        rw [← Nat.add_assoc, ← Nat.add_mul]
        congr 2
        omega
      rw [e, hD2 _ (hjlt (i - n) j m him hjs)]
      exact (h2.rep (i - n) j v him hv).mono k
  · by_cases h : j < n * sz
    · rw [hD1 j h]; exact h1.one j h
    · have e : j = n * sz + (j - n * sz) := by omega
      rw [Nat.add_mul] at hj
      rw [e, hD2 _ (by omega)]
      exact h2.one _ (by omega)

theorem row_base {st : Stab} {w : World} {sz n : Nat} {el : Nat → List AV} {a : Option Addr} {b off : Nat} {C : Nat → Value} (h : RowOf st w sz n el a b off C) (hn : n ≠ 0) : a = some ⟨b, off, none⟩ := h.base.resolve_left hn

section
variable {P : Program} {ty : TypeId → Option TyI} {o : Oper} {F : Operand → Option AV} {H : AHeap}

theorem run_append_zero {w : World} {t tt e : TypeId} {inf : TypeInfo} (hd : P.underlying t = some (.slice e)) (hinf : P.info? e = some inf) {a a2 : Option Addr} {n cap cap2 : Nat} (hn : n ≤ cap) :
    (Builtin.append_ #[t, t] tt #[.slice a n cap, .slice a2 0 cap2]).run P w = .ok (.slice a n cap) w := by
  cases a <;> cases a2 <;> simp [Builtin.append_, run_underlying hd, sizeOf, typeInfo, hinf, Builtin.lenOf, hn, Builtin.firstCells, loadCells, loadCellsFrom, storeCells]

theorem append_grow {E : Env0} {st : Stab} {w : World} {t tt e : TypeId} {inf : TypeInfo} {z : Value} {sz n m cap cap2 : Nat} {el el2 : Nat → List AV} {a a2 : Option Addr} {b off b2 off2 : Nat} {C C2 : Nat → Value}
    (hc : Conc E st H w) (hd : P.underlying t = some (.slice e)) (hinf : P.info? e = some inf) (hz : inf.zero = some z) (hsz : inf.size = sz) (hzs : z.cells.size = sz) (_hpos : 0 < sz)
    (h1 : RowOf st w sz n el a b off C) (h2 : RowOf st w sz m el2 a2 b2 off2 C2) (hnil : a = none → cap = 0) (hg : cap < n + m) (hcap : n ≤ cap) (hmax : n + m ≤ maxLen) (hb : (n + m) * inf.bytes ≤ 140737488355328) :
    ∃ w' st' cap' D, (Builtin.append_ #[t, t] tt #[.slice a n cap, .slice a2 m cap2]).run P w = .ok (.slice (some ⟨w.heap.size, 0, none⟩) (n + m) cap') w' ∧
      Conc E st' (.tok (some ⟨w.heap.size, 0, none⟩) cap' (n + m) sz e :: H) w' ∧ Keeps st st' w w' ∧ n + m ≤ cap' ∧
      RowOf st' w' sz (n + m) (glue n el el2) (some ⟨w.heap.size, 0, none⟩) w.heap.size 0 D := by
  have hm0 : m ≠ 0 := by omega
  obtain rfl := row_base h2 hm0
  let olds := (List.range (n * sz)).map C
  let news := (List.range (m * sz)).map C2
  have hol : olds.length = n * inf.size := by simp [olds, hsz]
  have hnl : news.length = m * inf.size := by simp [news, hsz]
  have hnews : ∀ j v, news[j]? = some v → w.cell? ((⟨b2, off2, none⟩ : Addr).add j) = some v := by
    intro j v hv
    obtain ⟨hj, rfl⟩ := map_range_get j v hv
    rw [addr_add]
    exact (h2.cell j hj).2
  obtain ⟨cap', hcap', hcm, hrun⟩ : ∃ cap', n + m ≤ cap' ∧ cap' ≤ maxLen ∧ (Builtin.append_ #[t, t] tt #[.slice a n cap, .slice (some ⟨b2, off2, none⟩) m cap2]).run P w =
      .ok (.slice (some ⟨w.heap.size, 0, none⟩) (n + m) cap') (w.drew.alloc (.cells (olds.toArray ++ news.toArray ++ Builtin.zeroCells z.cells (cap' - (n + m))) e)) := by
    have h63 : ((n + m : Nat) : Int) ≤ 9223372036854775807 := by simp only [maxLen] at hmax; omega
    cases ha : a with
    | none =>
      have hn0 : n = 0 := by have := hnil ha; omega
      have hc0 := hnil ha
      subst hn0
      subst hc0
      have ho0 : olds = [] := by simp [olds]
      refine ⟨grownCap w m 0 e, by simpa using grownCap_ge w m 0 e, grownCap_le_maxLen w m 0 e (by simpa using hmax), ?_⟩
      have hr := run_append_nil (P := P) w t tt e inf z hd hinf hz ⟨b2, off2, none⟩ m cap2 news hnl hnews (by omega) (by simpa using h63) (by simp only [Nat.zero_add] at hb; omega)
      simpa [ho0] using hr
    | some ad =>
      have holds : ∃ ad', (n = 0 ∨ ad' = ad) ∧ ad' = ad ∧ ∀ j v, olds[j]? = some v → w.cell? (ad'.add j) = some v := by
        refine ⟨ad, .inr rfl, rfl, fun j v hv => ?_⟩
        obtain ⟨hj, rfl⟩ := map_range_get j v hv
        have hn0 : n ≠ 0 := by rintro rfl; simp at hj
        have := row_base h1 hn0
        rw [ha] at this
        simp at this
        subst this
        rw [addr_add]
        exact (h1.cell j hj).2
      obtain ⟨_, _, rfl, holds⟩ := holds
      refine ⟨grownCap w (n + m) cap e, grownCap_ge w (n + m) cap e, grownCap_le_maxLen w (n + m) cap e hmax, ?_⟩
      exact run_append_grow (P := P) w t tt e inf z hd hinf hz _ n cap olds hol holds ⟨b2, off2, none⟩ m cap2 news hnl hnews hg h63 (growslice_fits hg hb)
  let D : Nat → Value := fun j => if j < n * sz then C j else C2 (j - n * sz)
  let arr := olds.toArray ++ news.toArray ++ Builtin.zeroCells z.cells (cap' - (n + m))
  have harr : ∀ j, j < (n + m) * sz → arr[j]? = some (D j) := by
    intro j hj
    rw [Nat.add_mul] at hj
    have e1 : arr[j]? = (olds ++ news)[j]? := by
      simp only [arr]
      rw [Array.getElem?_append_left (by simp [olds, news]; omega)]
      simp
    rw [e1]
    simp only [D]
    split
    · rename_i h
      rw [List.getElem?_append_left (by simpa [olds] using h)]
      simp [olds, h]
    · rename_i h
      have hl : olds.length = n * sz := by simp [olds]
      rw [List.getElem?_append_right (by omega), hl]
      have : j - n * sz < m * sz := by omega
      simp [news, this]
  have hasz : arr.size = cap' * sz := by
    simp only [arr, Array.size_append, List.size_toArray, size_zeroCells, hzs, hol, hnl, hsz, ← Nat.add_mul]
    congr 1
    omega
  let st' : Stab := fun b o => st b o ∨ (b = w.heap.size ∧ o < (n + m) * sz)
  have hw : (w.drew.alloc (.cells arr e)).heap[w.heap.size]? = some (.cells arr e) := heap_alloc_new w.drew _
  have hgrow := Conc.grow (st' := st') (w' := w.drew.alloc (.cells arr e)) (Hn := [.tok (some ⟨w.heap.size, 0, none⟩) cap' (n + m) sz e]) hc rfl rfl rfl (by simp) (fun k hk => heap_alloc_old w.drew _ hk)
    (fun b o h => .inl h) (fun b o h => by
      rcases h with h | ⟨rfl, h⟩
      · exact .inl h
      · exact .inr ⟨Nat.le_refl _, by simp⟩) ?_ ?_ (by simp)
  · refine ⟨_, st', cap', D, hrun, hgrow.1, hgrow.2, hcap', ?_⟩
    refine RowOf.glue h1 h2 hgrow.2 (.inr rfl) (fun j hj => if_pos hj) (fun j hj => (if_neg (by omega)).trans (by rw [Nat.add_sub_cancel_left])) (fun j hj => ⟨.inr ⟨rfl, by simpa using hj⟩, ?_⟩)
    rw [Nat.zero_add]
    have := cell_of_row _ w.heap.size j arr e (0, 0) hw
    rw [this]
    exact harr j hj
  · intro e1 he1
    simp at he1
    subst he1
    by_cases h : cap' = n + m
    · exact .inl h
    · refine .inr ⟨by omega, w.heap.size, arr, rfl, hw, hcm, hasz, fun o ho hs => ?_⟩
      rcases hs with hs | ⟨_, hs⟩
      · exact absurd (hc.stlt _ _ hs) (by omega)
      · omega
  · rintro k ⟨e1, he1, hk⟩
    simp at he1
    subst he1
    obtain ⟨_, ad, had, rfl⟩ := hk
    simp at had
    subst had
    simp

theorem append_room {E : Env0} {st : Stab} {w : World} {t tt e : TypeId} {inf : TypeInfo} {sz n m cap cap2 : Nat} {el el2 : Nat → List AV} {a a2 : Option Addr} {b off b2 off2 : Nat} {C C2 : Nat → Value} {G : AHeap}
    (hc : Conc E st (.tok a cap n sz e :: G) w) (hd : P.underlying t = some (.slice e)) (hinf : P.info? e = some inf) (hsz : inf.size = sz)
    (h1 : RowOf st w sz n el a b off C) (h2 : RowOf st w sz m el2 a2 b2 off2 C2) (hm : m ≠ 0) (hroom : n + m ≤ cap) :
    ∃ w' st' D b' off', (Builtin.append_ #[t, t] tt #[.slice a n cap, .slice a2 m cap2]).run P w = .ok (.slice a (n + m) cap) w' ∧
      Conc E st' (.tok a cap (n + m) sz e :: G) w' ∧ Keeps st st' w w' ∧ RowOf st' w' sz (n + m) (glue n el el2) a b' off' D := by
  obtain rfl := row_base h2 hm
  have hown : Ent.holds st w (.tok a cap n sz e) := hc.ents _ (by simp)
  rcases hown with h | ⟨hlt, g, cur, rfl, hg, hcm, hcs, hns⟩
  · omega
  let news := (List.range (m * sz)).map C2
  have hnl : news.length = m * inf.size := by simp [news, hsz]
  have hnews : ∀ j v, news[j]? = some v → w.cell? ((⟨b2, off2, none⟩ : Addr).add j) = some v := by
    intro j v hv
    obtain ⟨hj, rfl⟩ := map_range_get j v hv
    rw [addr_add]
    exact (h2.cell j hj).2
  have hone : ∀ u ∈ news, u.oneCell' = true := by
    intro u hu
    obtain ⟨j, hj, rfl⟩ := List.mem_map.1 hu
    exact h2.one j (by simpa using hj)
  have hle : (n + m) * sz ≤ cap * sz := Nat.mul_le_mul_right _ hroom
  have hfit : n * inf.size + news.length ≤ cur.size := by rw [hnl, hcs, hsz, ← Nat.add_mul]; exact hle
  have hrun := run_append_room (P := P) w t tt e inf hd hinf g n cap cur hg ⟨b2, off2, none⟩ m cap2 news hnl hnews hone hroom hfit
  let arr := (cur.toList.take (n * inf.size) ++ news ++ cur.toList.drop (n * inf.size + news.length)).toArray
  have hcurC : ∀ j, j < n * sz → cur[j]? = some (C j) := by
    intro j hj
    have hn0 : n ≠ 0 := by rintro rfl; simp at hj
    have hb := row_base h1 hn0
    simp at hb
    obtain ⟨rfl, rfl⟩ := hb
    have := (h1.cell j hj).2
    rw [Nat.zero_add, cell_of_row w g j cur e (0, 0) hg] at this
    exact this
  let D : Nat → Value := fun j => if j < n * sz then C j else C2 (j - n * sz)
  have hcl : n * sz ≤ cur.size := by rw [hcs]; rw [Nat.add_mul] at hle; omega
  have harr : ∀ j, j < (n + m) * sz → arr[j]? = some (D j) := by
    intro j hj
    rw [Nat.add_mul] at hj
    simp only [arr, D, hsz]
    rw [List.getElem?_toArray, List.getElem?_append_left (by simp [news]; omega)]
    split
    · rename_i h
      rw [List.getElem?_append_left (by simp; omega), List.getElem?_take, if_pos h]
      simpa using hcurC j h
    · rename_i h
      rw [List.getElem?_append_right (by simp; omega)]
      have e1 : (cur.toList.take (n * sz)).length = n * sz := by simp; omega
      rw [e1]
      have : j - n * sz < m * sz := by omega
      simp [news, this]
  have hsize : arr.size = cap * sz := by
    simp only [arr, List.size_toArray, List.length_append, List.length_take, List.length_drop, Array.length_toList]
    omega
  have hkeepC : ∀ o, o < n * sz → arr[o]? = cur[o]? := by
    intro o ho
    rw [harr o (by rw [Nat.add_mul]; omega), hcurC o ho]
    simp [D, ho]
  let st' : Stab := fun b o => st b o ∨ (b = g ∧ n * sz ≤ o ∧ o < (n + m) * sz)
  have hw : (w.setRow g arr).heap[g]? = some (.cells arr e (0, 0)) := setRow_heap w g cur arr e (0, 0) hg
  have hmod := Conc.mod (st' := st') (e' := .tok (some ⟨g, 0, none⟩) cap (n + m) sz e) (g := g) (w' := w.setRow g arr) hc ⟨hlt, _, rfl, rfl⟩ rfl rfl rfl setRow_keep (fun k hk => setRow_other w g k arr hk)
    (fun o hs => by
      have ho : o < n * sz := by
        rcases Nat.lt_or_ge o (n * sz) with h | h
        · exact h
        · exact absurd hs (hns o h)
      rw [cell_of_row _ g o arr e (0, 0) hw, cell_of_row _ g o cur e (0, 0) hg]
      exact hkeepC o ho)
    (fun b o h => .inl h) (fun b o h => by
      rcases h with h | ⟨h, _⟩
      · exact .inl h
      · exact .inr h) ?_ (fun k ⟨hk, ad, had, hb⟩ => ⟨hlt, ad, had, hb⟩) (fun k ⟨_, ad, had, hb⟩ => by simp at had; subst had; exact hb.symm)
  · refine ⟨_, st', D, g, 0, hrun, hmod.1, hmod.2, ?_⟩
    refine RowOf.glue h1 h2 hmod.2 (.inr rfl) (fun j hj => if_pos hj) (fun j hj => (if_neg (by omega)).trans (by rw [Nat.add_sub_cancel_left])) (fun j hj => ⟨?_, ?_⟩)
    · rw [Nat.zero_add]
      by_cases h : j < n * sz
      · refine .inl ?_
        have hn0 : n ≠ 0 := by rintro rfl; simp at h
        have hb := row_base h1 hn0
        simp at hb
        obtain ⟨rfl, rfl⟩ := hb
        simpa using (h1.cell j h).1
      · exact .inr ⟨rfl, by omega, hj⟩
    · rw [Nat.zero_add, cell_of_row _ g j arr e (0, 0) hw]
      exact harr j hj
  · by_cases h : cap = n + m
    · exact .inl h
    · refine .inr ⟨by omega, g, arr, rfl, hw, hcm, hsize, fun o ho hs => ?_⟩
      rcases hs with hs | ⟨_, _, hs⟩
      · exact hns o (by have : n * sz ≤ (n + m) * sz := Nat.mul_le_mul_right _ (by omega); omega) hs
      · omega


def asSl (sz : Nat) : AV → Option (Nat × (Nat → List AV) × Own)
  | .nils => some (0, fun _ => [], .full)
  | .slice sz' n el o => cond (Nat.beq sz sz') (some (n, el, o)) none
  | _ => none

theorem asSl_rep {st : Stab} {w : World} {sz n : Nat} {v : AV} {el : Nat → List AV} {o : Own} {x : Value} (h : asSl sz v = some (n, el, o)) (hr : Rep st w v x) : Rep st w (.slice sz n el o) x := by
  unfold asSl at h
  split at h
  · simp at h
    obtain ⟨rfl, rfl, rfl⟩ := h
    exact Sub.nils sz _ _ _ _ hr
  · rename_i sz' n' el' o'
    cases hb : Nat.beq sz sz' with
    | false => simp [hb] at h
    | true =>
      obtain rfl := Nat.eq_of_beq_eq_true hb
      simp at h
      obtain ⟨rfl, rfl, rfl⟩ := h
      exact hr
  · cases h

theorem full_nil {st : Stab} {w : World} {sz n cap : Nat} {el : Nat → List AV} {a : Option Addr} {b off : Nat} {C : Nat → Value} (h : RowOf st w sz n el a b off C) (hf : cap = n) : a = none → cap = 0 := by
  rintro rfl
  rcases h.base with h | h
  · omega
  · cases h

theorem hard_append_full (hty : TyOk P ty) {s x : Operand} {t e : TypeId} {ti ei : TyI} {vs vx : AV} {sz n m : Nat} {el el2 : Nat → List AV} {ow : Own} {V : Option Addr → Nat → AV}
    (ho : o.op = .call { callee := .builtin .append, args := #[s, x], argTypes := #[t, t] }) (hti : ty t = some ti) (hk : ti.k = .slice e) (hei : ty e = some ei) (hsz : ei.size = sz) (hpos : Nat.ble 1 sz = true)
    (hs : F s = some vs) (hx : F x = some vx) (hvs : asSl sz vs = some (n, el, .full)) (hvx : asSl sz vx = some (m, el2, ow)) (hb : (n + m) * ei.bytes ≤ 140737488355328 ∧ n + m ≤ 9223372036854775807)
    (hV : ∀ a cap, Sub (.slice sz (n + m) (glue n el el2) (.own a cap)) (V a cap)) :
    AHard P o F H fun r H' => ∃ a cap, r = .ret (V a cap) ∧ H' = .tok a cap (n + m) sz e :: H := by
  intro E st w act r next Q hc hF _ hr _
  obtain ⟨⟨d, hd, hkf⟩, -⟩ := hty t ti hti
  rw [hk] at hkf
  obtain rfl : d = .slice e := hkf
  obtain ⟨-, inf, z, hinf, hisz, hby, hz, hzs, hzr, -⟩ := hty e ei hei
  have hp : 0 < sz := Nat.le_of_ble_eq_true hpos
  obtain ⟨a, cap, b, off, C, hsv, hn, hok, h1⟩ := row_of (asSl_rep hvs (hF s vs hs)) hp
  obtain ⟨a2, cap2, b2, off2, C2, hxv, hn2, -, h2⟩ := row_of (asSl_rep hvx (hF x vx hx)) hp
  have hcapn : cap = n := hok
  have hexec : ∀ v' w', (Builtin.append_ #[t, t] o.type #[.slice a n cap, .slice a2 m cap2]).run P w = .ok v' w' → (execOp act.eval o).run P w = .ok (.value v') w' := by
    intro v' w' h
    simp [execOp, ho, resolve, invoke, builtin, hsv, hxv, h]
  by_cases hm : m = 0
  · subst hm
    have hrun := run_append_zero (P := P) (w := w) (tt := o.type) (a := a) (a2 := a2) (n := n) (cap := cap) (cap2 := cap2) hd hinf hn
    have hg := Conc.grow (st' := st) (w' := w) (Hn := [.tok a cap (n + 0) sz e]) hc rfl rfl rfl (Nat.le_refl _) (fun _ _ => rfl) (fun _ _ h => h) (fun _ _ h => .inl h)
      (fun e1 he1 => by simp at he1; subst he1; exact .inl (by omega)) (fun k ⟨e1, he1, hk⟩ => by simp at he1; subst he1; exact absurd hk.1 (by omega)) (by simp)
    refine upon_value_ok (hexec _ _ hrun) (hr st w (V a cap) _ _ hg.1 hg.2 ?_ ⟨a, cap, rfl, rfl⟩)
    refine hV a cap _ _ _ (rep_of_row (b := b) (off := off) (C := C) hn ⟨rfl, rfl⟩ ?_)
    exact ⟨h1.base, fun i hi => by rw [glue, if_pos (show i < n from hi)]; exact h1.len i hi, h1.cell, fun i j v hi hv => h1.rep i j v hi (by rw [glue, if_pos (show i < n from hi)] at hv; exact hv), h1.one⟩
  · obtain ⟨w', st', cap', D, hrun, hc', hkp, hcap', hrow⟩ := append_grow (P := P) (tt := o.type) (cap2 := cap2) hc hd hinf hz (by omega) (by omega) hp h1 h2 (full_nil h1 hcapn) (by omega) hn (by simp only [maxLen]; omega) (by rw [hby]; exact hb.1)
    exact upon_value_ok (hexec _ _ hrun) (hr st' w' (V _ cap') _ _ hc' hkp (hV _ cap' _ _ _ (rep_of_row hcap' ⟨rfl, rfl⟩ hrow)) ⟨_, cap', rfl, rfl⟩)

theorem hard_append_own (hty : TyOk P ty) {s x : Operand} {t e : TypeId} {ti ei : TyI} {vs vx : AV} {sz n m : Nat} {el el2 : Nat → List AV} {ow : Own} {V : Option Addr → Nat → AV} {a : Option Addr} {cap : Nat} (i : Nat)
    (ho : o.op = .call { callee := .builtin .append, args := #[s, x], argTypes := #[t, t] }) (hti : ty t = some ti) (hk : ti.k = .slice e) (hei : ty e = some ei) (hsz : ei.size = sz) (hpos : Nat.ble 1 sz = true)
    (hs : F s = some vs) (hx : F x = some vx) (hvs : asSl sz vs = some (n, el, .own a cap)) (hvx : asSl sz vx = some (m, el2, ow)) (hi : H[i]? = some (.tok a cap n sz e))
    (hb : (n + m) * ei.bytes ≤ 140737488355328 ∧ n + m ≤ 9223372036854775807) (hV : ∀ a cap, Sub (.slice sz (n + m) (glue n el el2) (.own a cap)) (V a cap)) :
    AHard P o F H fun r H' => ∃ a cap, r = .ret (V a cap) ∧ H' = H.set i (.tok a cap (n + m) sz e) := by
  intro E st w act r next Q hc hF _ hr _
  obtain ⟨⟨d, hd, hkf⟩, -⟩ := hty t ti hti
  rw [hk] at hkf
  obtain rfl : d = .slice e := hkf
  obtain ⟨-, inf, z, hinf, hisz, hby, hz, hzs, hzr, -⟩ := hty e ei hei
  have hp : 0 < sz := Nat.le_of_ble_eq_true hpos
  obtain ⟨a', cap', b, off, C, hsv, hn, hok, h1⟩ := row_of (asSl_rep hvs (hF s vs hs)) hp
  obtain ⟨rfl, rfl⟩ : a' = a ∧ cap' = cap := hok
  obtain ⟨a2, cap2, b2, off2, C2, hxv, hn2, -, h2⟩ := row_of (asSl_rep hvx (hF x vx hx)) hp
  have hexec : ∀ v' w', (Builtin.append_ #[t, t] o.type #[.slice a' n cap', .slice a2 m cap2]).run P w = .ok v' w' → (execOp act.eval o).run P w = .ok (.value v') w' := by
    intro v' w' h
    simp [execOp, ho, resolve, invoke, builtin, hsv, hxv, h]
  have hc1 := hc.perm (perm_eraseIdx H i _ hi)
  by_cases hm : m = 0
  · subst hm
    have hrun := run_append_zero (P := P) (w := w) (tt := o.type) (a := a') (a2 := a2) (n := n) (cap := cap') (cap2 := cap2) hd hinf hn
    refine upon_value_ok (hexec _ _ hrun) (hr st w (V a' cap') _ _ (hc1.perm (perm_set H i _ _ hi)) (Keeps.refl st w) ?_ ⟨a', cap', rfl, rfl⟩)
    refine hV a' cap' _ _ _ (rep_of_row (b := b) (off := off) (C := C) hn ⟨rfl, rfl⟩ ?_)
    exact ⟨h1.base, fun i hi => by rw [glue, if_pos (show i < n from hi)]; exact h1.len i hi, h1.cell, fun i j v hi hv => h1.rep i j v hi (by rw [glue, if_pos (show i < n from hi)] at hv; exact hv), h1.one⟩
  · by_cases hroom : n + m ≤ cap'
    · obtain ⟨w', st', D, b', off', hrun, hc', hkp, hrow⟩ := append_room (P := P) (tt := o.type) (cap2 := cap2) hc1 hd hinf (by omega) h1 h2 hm hroom
      exact upon_value_ok (hexec _ _ hrun) (hr st' w' (V _ cap') _ _ (hc'.perm (perm_set H i _ _ hi)) hkp (hV _ cap' _ _ _ (rep_of_row hroom ⟨rfl, rfl⟩ hrow)) ⟨_, cap', rfl, rfl⟩)
    · have hnil : a' = none → cap' = 0 := by
        rintro rfl
        rcases hc1.ents _ (List.mem_cons_self ..) with h | ⟨_, g, cur, h, _⟩
        · rcases h1.base with h' | h'
          · omega
          · cases h'
        · cases h
      have hc2 : Conc E st (H.eraseIdx i) w := Conc.drop_front (F := [_]) hc1
      obtain ⟨w', st', cap2', D, hrun, hc', hkp, hcap', hrow⟩ := append_grow (P := P) (tt := o.type) (cap2 := cap2) hc2 hd hinf hz (by omega) (by omega) hp h1 h2 hnil (by omega) hn (by simp only [maxLen]; omega) (by rw [hby]; exact hb.1)
      exact upon_value_ok (hexec _ _ hrun) (hr st' w' (V _ cap2') _ _ (hc'.perm (perm_set H i _ _ hi)) hkp (hV _ cap2' _ _ _ (rep_of_row hcap' ⟨rfl, rfl⟩ hrow)) ⟨_, cap2', rfl, rfl⟩)

theorem glue_sl {α : Type} [Inhabited α] (f : α → List AV) (sz : Nat) (xs ys : List α) (o : Own) :
    Sub (.slice sz (xs.length + ys.length) (glue xs.length (fun i => f (xs.getD i default)) (fun i => f (ys.getD i default))) o) (sl f sz (xs ++ ys) o) := by
  unfold sl
  rw [List.length_append]
  refine Sub.el fun i hi => ?_
  unfold glue
  split
  · rename_i h
    simp [List.getD, List.getElem?_append_left h]
  · rename_i h
    simp [List.getD, List.getElem?_append_right (Nat.le_of_not_lt h)]

theorem glue_sl1 {α : Type} [Inhabited α] (f : α → List AV) (sz : Nat) (xs : List α) (x : α) (el2 : Nat → List AV) (h : el2 0 = f x) (o : Own) :
    Sub (.slice sz (xs.length + 1) (glue xs.length (fun i => f (xs.getD i default)) el2) o) (sl f sz (xs ++ [x]) o) := by
  unfold sl
  rw [List.length_append]
  refine Sub.el fun i hi => ?_
  unfold glue
  split
  · rename_i h
    simp [List.getD, List.getElem?_append_left h]
  · rename_i h'
    have e : i = xs.length := by have : [x].length = 1 := rfl; omega
    subst e
    simp [List.getD, h]

/-- From nothing (nil): the appended one alone. -/
theorem glue_nil {α : Type} [Inhabited α] (f : α → List AV) (sz : Nat) (ys : List α) (el : Nat → List AV) (o : Own) :
    Sub (.slice sz (0 + ys.length) (glue 0 el (fun i => f (ys.getD i default))) o) (sl f sz ys o) := by
  unfold sl
  rw [Nat.zero_add]
  exact Sub.el fun i hi => by simp [glue]

theorem glue_nil1 {α : Type} [Inhabited α] (f : α → List AV) (sz : Nat) (x : α) (el el2 : Nat → List AV) (h : el2 0 = f x) (o : Own) :
    Sub (.slice sz (0 + 1) (glue 0 el el2) o) (sl f sz [x] o) := by
  unfold sl
  refine Sub.el fun i hi => ?_
  have : i = 0 := by simp at hi; omega
  subst this
  simp [glue, h]

/-! Slices out of their parts. -/

theorem exec_v' {w w' : World} {s : Sem Value} {c : Value} (h : s.run P w = .ok c w') : ((do pure (.value (← s))) : Sem Next).run P w = .ok (.value c) w' := by
  simp [h]

def junk : AV := .any

theorem junk_rep (st : Stab) (w : World) (c : Value) : Rep st w junk c := .any _

def partsFs (e : TypeId) (sz : Nat) : Nat → Nat → List (Nat × TypeId)
  | _, 0 => []
  | k, n + 1 => (k * sz, e) :: partsFs e sz (k + 1) n

theorem partsFs_get (e : TypeId) (sz : Nat) : ∀ (n k f off : Nat) (ft : TypeId), (partsFs e sz k n)[f]? = some (off, ft) → off = (k + f) * sz ∧ ft = e
  | 0, k, f, off, ft, h => by simp [partsFs] at h
  | n + 1, k, 0, off, ft, h => by simp [partsFs] at h; simp [h.1, h.2]
  | n + 1, k, f + 1, off, ft, h => by
    have := partsFs_get e sz n (k + 1) f off ft (by simpa [partsFs] using h)
    rw [this.1, this.2]
    exact ⟨by congr 1; omega, rfl⟩

def chunk (cells : List AV) (sz : Nat) (i : Nat) : List AV := (cells.drop (i * sz)).take sz

theorem hard_buildSlice (hty : TyOk P ty) {t e : TypeId} {len : Nat} {parts : Array (Nat × Operand)} {ti ei : TyI} {vs : List (Nat × AV)} {cells : List AV} {V : AV}
    (ho : o.op = .buildSlice t len parts) (hti : ty t = some ti) (hk : ti.k = .slice e) (hei : ty e = some ei) (hm : mapP F parts.toList = some vs)
    (hpos : Nat.ble 1 ei.size = true) (hlen : Nat.ble (len * ei.size) 16777216 = true) (hcells : abuild (partsFs e ei.size 0 len) ty (List.replicate (len * ei.size) junk) vs = some cells) (hone : cells.all AV.one = true)
    (hV : Sub (.slice ei.size len (chunk cells ei.size) .full) V) :
    AHard P o F H fun r H' => r = .ret V ∧ H' = H := by
  intro E st w a r next Q hc hF _ hr _
  obtain ⟨⟨d, hd, hkf⟩, -⟩ := hty t ti hti
  rw [hk] at hkf
  obtain rfl : d = .slice e := hkf
  obtain ⟨-, inf, z, hinf, hisz, hby, hz, hzs, hzr, -⟩ := hty e ei hei
  have hp : 0 < ei.size := Nat.le_of_ble_eq_true hpos
  have hl24 := Nat.le_of_ble_eq_true hlen
  obtain ⟨hml, hmr⟩ := mapP_sound hF _ _ hm
  let zc : List Value := (List.range (len * ei.size)).map fun i => z.cells[i % z.cells.size]!
  obtain ⟨cs', hf1, hf2, hf3⟩ := abuild_sound (st := st) (w := w) (ty := ty) (fs := partsFs e ei.size 0 len) (place := fun i => some (i * ei.size, ei.size))
    (fun f off ft i hf hi => by
      obtain ⟨rfl, rfl⟩ := partsFs_get e ei.size len 0 f off ft hf
      rw [hei] at hi
      simp at hi
      subst hi
      simp) vs (parts.toList.map fun p => (p.1, a.eval p.2)) (List.replicate (len * ei.size) junk) cells zc hcells (by simp [zc])
    (fun j v x hv hx => by
      rw [List.getElem?_replicate] at hv
      split at hv
      · simp at hv; subst hv; exact junk_rep _ _ _
      · cases hv) hml hmr
  have hcl : cells.length = len * ei.size := by
    have : ∀ (ps : List (Nat × AV)) (l l' : List AV), abuild (partsFs e ei.size 0 len) ty l ps = some l' → l'.length = l.length := by
      intro ps
      induction ps with
      | nil => intro l l' h; simp [abuild] at h; rw [h]
      | cons p ps ih =>
        intro l l' h
        obtain ⟨f, v⟩ := p
        simp only [abuild] at h
        split at h
        · split at h
          · split at h
            · rename_i vs' _
              generalize (Nat.beq vs'.length _ && Nat.ble _ l.length) = bb at h
              cases bb
              · simp at h
              · simp only [cond_true] at h
                rw [ih _ _ h, length_setAt]
            · cases h
          · cases h
        · cases h
    rw [this vs _ _ hcells]
    simp
  have hcs1 := agg_one hone hf2 hf3
  let st' : Stab := fun b o => st b o ∨ (b = w.heap.size ∧ o < len * ei.size)
  have hw : (w.alloc (.cells ⟨cs'⟩ e)).heap[w.heap.size]? = some (.cells ⟨cs'⟩ e) := heap_alloc_new w _
  have hgrow := Conc.grow (st' := st') (w' := w.alloc (.cells ⟨cs'⟩ e)) (Hn := []) hc rfl rfl rfl (by simp) (fun k hk => heap_alloc_old w _ hk) (fun b o h => .inl h)
    (fun b o h => by
      rcases h with h | ⟨rfl, h⟩
      · exact .inl h
      · exact .inr ⟨Nat.le_refl _, by simp⟩) (by simp) (fun k ⟨e1, he1, _⟩ => by simp at he1) (by simp)
  refine upon_value_ok (c := .slice (some ⟨w.heap.size, 0, none⟩) len len) (w' := w.alloc (.cells ⟨cs'⟩ e)) ?_ (hr st' _ V _ _ hgrow.1 hgrow.2 (hV _ _ _ ?_) ⟨rfl, rfl⟩)
  · have e1 : (parts.map fun (x : Nat × Operand) => (x.1, a.eval x.2)).toList = parts.toList.map fun p => (p.1, a.eval p.2) := by simp
    have hnot : ¬ (len * ei.size > 2 ^ 24) := by omega
    simp only [execOp, ho]
    refine (exec_v' ?_)
    unfold Instr.buildSlice
    have hzc : ∀ zz : Array Value, zz = (if len * ei.size = 0 then #[] else z.cells) → (Array.range (len * ei.size)).map (fun x => zz[x % zz.size]!) = ⟨zc⟩ := by
      intro zz hzz
      apply Array.ext'
      by_cases h0 : len * ei.size = 0
      · simp [zc, h0]
      · rw [if_neg h0] at hzz
        subst hzz
        simp [zc]
    have hf1' : Instr.fill (fun i => some (i * ei.size, ei.size)) ⟨zc⟩ (parts.map fun (x : Nat × Operand) => (x.1, a.eval x.2)).toList = some ⟨cs'⟩ := by rw [e1]; exact hf1
    rw [Sem.run_bind, run_underlying hd, Result.andThen_ok]
    simp only [Sem.run_bind, run_sizeOf hinf, Result.andThen_ok, hisz, if_neg hnot]
    by_cases h0 : len * ei.size = 0
    · rw [if_pos h0]
      simp only [Sem.run_bind, Sem.run_pure, Result.andThen_ok, hzc #[] (by rw [if_pos h0]), hf1']
      rfl
    · rw [if_neg h0]
      simp only [Sem.run_bind, Sem.run_pure, Result.andThen_ok, run_zeroValue hinf hz, hzc z.cells (by rw [if_neg h0]), hf1']
      rfl
  · refine .slice _ len _ .full (some ⟨w.heap.size, 0, none⟩) len w.heap.size 0 (fun i j => cs'.getD (i * ei.size + j) default) (Nat.le_refl _) (.inr rfl) (fun i hi => ?_) (fun i j hi hj => ?_) (fun i j v hi hv => ?_) rfl (fun i j hi hj => ?_)
    all_goals have hle : (i + 1) * ei.size ≤ len * ei.size := Nat.mul_le_mul_right _ hi
    all_goals rw [Nat.add_mul] at hle
    · simp [chunk, hcl]; omega
    · refine ⟨.inr ⟨rfl, by omega⟩, ?_⟩
      rw [Nat.zero_add, cell_of_row _ _ _ _ _ _ hw]
      simpa using getD_some (l := cs') (j := i * ei.size + j) (by omega)
    · unfold chunk at hv
      rw [List.getElem?_take] at hv
      split at hv
      · rename_i hj
        rw [List.getElem?_drop] at hv
        exact ((hf3 _ v _ hv (getD_some (by omega))).mono hgrow.2)
      · cases hv
    · exact hcs1 _ (by simp [List.getD, show i * ei.size + j < cs'.length by omega])

end
end Go.Ab
