/-
  A table of types, held against a program's own by reckoning.
-/
import Derived.Test.YtgbmanmcioailaaDoorAb8
namespace Go.Ab

def kChk : TyK → TypeDesc → Bool
  | .int k, .int k' => decide (k = k')
  | .bool, .bool => true
  | .str, .string => true
  | .ptr e, .pointer e' => Nat.beq e e'
  | .iface, .interface _ => true
  | .func, .func _ _ _ => true
  | .map k e, .map k' e' => Nat.beq k k' && Nat.beq e e'
  | .slice e, .slice e' => Nat.beq e e'
  | .struct fs, .struct a => decide (a.toList.map (fun f => (f.offset, f.type)) = fs)
  | .array n e, .array n' e' => Nat.beq n n' && Nat.beq e e'
  | .other, _ => true
  | _, _ => false

theorem kChk_fits {k : TyK} {d : TypeDesc} (h : kChk k d = true) : k.fits d := by
  cases k <;> cases d <;> simp only [kChk, Bool.false_eq_true, Bool.and_eq_true, decide_eq_true_eq] at h <;> simp only [TyK.fits]
  case int.int => rw [h]
  case ptr.pointer => rw [Nat.eq_of_beq_eq_true h]
  case iface.interface => exact ⟨_, rfl⟩
  case func.func => exact ⟨_, _, _, rfl⟩
  case map.map => rw [Nat.eq_of_beq_eq_true h.1, Nat.eq_of_beq_eq_true h.2]
  case slice.slice => rw [Nat.eq_of_beq_eq_true h]
  case struct.struct => exact ⟨_, rfl, h⟩
  case array.array => rw [Nat.eq_of_beq_eq_true h.1, Nat.eq_of_beq_eq_true h.2]

def zCell : AV → Value → Bool
  | .bool b, .bool b' => b == b'
  | .int k n, .int k' n' => decide (k = k') && decide (n = n')
  | .str s, .string b => s == b.data.toList
  | .nilptr, .pointer none => true
  | .nils, .slice none n m => Nat.beq n 0 && Nat.beq m 0
  | .nilFunc, .nilFunc => true
  | .nilIface, .nilIface => true
  | .mapv none, .map none => true
  | _, _ => false

def zCells : List AV → List Value → Bool
  | [], [] => true
  | v :: vs, c :: cs => zCell v c && zCells vs cs
  | _, _ => false

def zVec (el : Nat → AV) : Nat → List Value → Bool
  | _, [] => true
  | j, c :: cs => zCell (el j) c && zVec el (j + 1) cs

def zChk : AV → Value → Bool
  | .agg vs, .agg cs => zCells vs cs.toList
  | .vec n el, .agg cs => Nat.beq n cs.size && zVec el 0 cs.toList
  | v, c => zCell v c

theorem zCell_rep {v : AV} {c : Value} (h : zCell v c = true) (st : Stab) (w : World) : Rep st w v c ∧ c.oneCell' = true := by
  unfold zCell at h
  split at h <;> first | (cases h; done) | skip
  · simp at h; subst h; exact ⟨.bool _, rfl⟩
  · simp at h; obtain ⟨rfl, rfl⟩ := h; exact ⟨.int _ _, rfl⟩
  · rename_i s b
    simp at h
    subst h
    exact ⟨.str b.data.toList, rfl⟩
  · exact ⟨.nilptr, rfl⟩
  · simp only [Bool.and_eq_true] at h
    obtain ⟨h1, h2⟩ := h
    obtain rfl := Nat.eq_of_beq_eq_true h1
    obtain rfl := Nat.eq_of_beq_eq_true h2
    exact ⟨.nils, rfl⟩
  · exact ⟨.nilFunc, rfl⟩
  · exact ⟨.nilIface, rfl⟩
  · exact ⟨.mapv _, rfl⟩

theorem zCells_rep : ∀ (vs : List AV) (cs : List Value), zCells vs cs = true → ∀ (st : Stab) (w : World), RepL st w vs cs ∧ ∀ x ∈ cs, x.oneCell' = true
  | [], [], _, st, w => ⟨⟨rfl, by simp⟩, by simp⟩
  | v :: vs, c :: cs, h, st, w => by
    simp only [zCells, Bool.and_eq_true] at h
    obtain ⟨h1, h2⟩ := zCell_rep h.1 st w
    obtain ⟨h3, h4⟩ := zCells_rep vs cs h.2 st w
    refine ⟨RepL.append (vs := [v]) (xs := [c]) ⟨rfl, fun j u y hu hy => by
      match j, hu, hy with
      | 0, hu, hy => simp at hu hy; subst hu; subst hy; exact h1⟩ h3, fun x hx => ?_⟩
    rcases List.mem_cons.1 hx with rfl | hx
    · exact h2
    · exact h4 x hx
  | [], c :: cs, h, _, _ => by simp [zCells] at h
  | v :: vs, [], h, _, _ => by simp [zCells] at h

theorem zVec_rep (el : Nat → AV) (st : Stab) (w : World) : ∀ (cs : List Value) (k : Nat), zVec el k cs = true → ∀ j x, cs[j]? = some x → Rep st w (el (k + j)) x ∧ x.oneCell' = true
  | [], k, _, j, x, h => by simp at h
  | c :: cs, k, h, j, x, hx => by
    simp only [zVec, Bool.and_eq_true] at h
    match j, hx with
    | 0, hx => simp at hx; subst hx; exact zCell_rep h.1 st w
    | j + 1, hx =>
      have := zVec_rep el st w cs (k + 1) h.2 j x (by simpa using hx)
      rwa [Nat.add_assoc, Nat.add_comm 1 j] at this

theorem zChk_rep {v : AV} {c : Value} (h : zChk v c = true) : (∀ st w, Rep st w v c) ∧ ∀ x ∈ c.cells.toList, x.oneCell' = true := by
  unfold zChk at h
  split at h
  · rename_i vs cs
    refine ⟨fun st w => ?_, fun x hx => (zCells_rep vs cs.toList h (fun _ _ => False) default).2 x hx⟩
    have := (zCells_rep vs cs.toList h st w).1
    exact .agg vs cs.toList this.1 this.2
  · rename_i n el cs
    simp only [Bool.and_eq_true] at h
    obtain rfl := Nat.eq_of_beq_eq_true h.1
    have hone : ∀ x ∈ cs.toList, x.oneCell' = true := by
      intro x hx
      obtain ⟨j, hj, rfl⟩ := List.getElem_of_mem hx
      exact (zVec_rep el (fun _ _ => False) default cs.toList 0 h.2 j _ (by simp at hj; simp [hj])).2
    refine ⟨fun st w => .vec _ el cs.toList (by simp) (fun j x hx => ?_) hone, hone⟩
    have := (zVec_rep el st w cs.toList 0 h.2 j x hx).1
    rwa [Nat.zero_add] at this
  · have h1 := fun st w => zCell_rep h st w
    refine ⟨fun st w => (h1 st w).1, fun x hx => ?_⟩
    have hc : c.cells = #[c] := by
      unfold zCell at h
      split at h <;> first | rfl | (cases h; done)
    rw [hc] at hx
    simp at hx
    subst hx
    exact (h1 (fun _ _ => False) default).2

def tyChk (P : Program) (t : TypeId) (i : TyI) : Bool :=
  (match P.underlying t with
  | some d => kChk i.k d
  | none => false) &&
  (match P.info? t with
  | some inf => Nat.beq inf.size i.size && Nat.beq inf.bytes i.bytes && (match inf.zero with
    | some z => Nat.beq z.cells.size i.size && zChk i.zero z
    | none => false)
  | none => false)

def nth : List (Option TyI) → Nat → Option TyI
  | [], _ => none
  | x :: _, 0 => x
  | _ :: l, n + 1 => nth l n

def tysChk (P : Program) : Nat → List (Option TyI) → Bool
  | _, [] => true
  | t, none :: l => tysChk P (t + 1) l
  | t, some i :: l => tyChk P t i && tysChk P (t + 1) l

theorem tysChk_get (P : Program) : ∀ (l : List (Option TyI)) (k : Nat), tysChk P k l = true → ∀ t i, nth l t = some i → tyChk P (k + t) i = true
  | [], k, _, t, i, h => by simp [nth] at h
  | x :: l, k, h, 0, i, hi => by
    simp [nth] at hi
    subst hi
    simp only [tysChk, Bool.and_eq_true] at h
    exact h.1
  | x :: l, k, h, t + 1, i, hi => by
    have h' : tysChk P (k + 1) l = true := by
      cases x with
      | none => exact h
      | some j => simp only [tysChk, Bool.and_eq_true] at h; exact h.2
    have := tysChk_get P l (k + 1) h' t i hi
    rwa [Nat.add_assoc, Nat.add_comm 1 t] at this

theorem tyOk_of {P : Program} {l : List (Option TyI)} (h : tysChk P 0 l = true) : TyOk P (nth l) := by
  intro t i hi
  have := tysChk_get P l 0 h t i hi
  rw [Nat.zero_add] at this
  unfold tyChk at this
  simp only [Bool.and_eq_true] at this
  obtain ⟨h1, h2⟩ := this
  refine ⟨?_, ?_⟩
  · split at h1
    · rename_i d hd
      exact ⟨d, hd, kChk_fits h1⟩
    · cases h1
  · split at h2
    · rename_i inf hinf
      simp only [Bool.and_eq_true] at h2
      obtain ⟨⟨h3, h4⟩, h5⟩ := h2
      split at h5
      · rename_i z hz
        simp only [Bool.and_eq_true] at h5
        exact ⟨inf, z, hinf, Nat.eq_of_beq_eq_true h3, Nat.eq_of_beq_eq_true h4, hz, Nat.eq_of_beq_eq_true h5.1, zChk_rep h5.2⟩
      · cases h5
    · cases h2

end Go.Ab
