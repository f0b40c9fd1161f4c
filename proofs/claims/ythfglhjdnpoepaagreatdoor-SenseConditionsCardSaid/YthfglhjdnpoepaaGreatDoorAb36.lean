/-
  A slice built of parts that are whole elements.
-/
import Derived.Test.YthfglhjdnpoepaaGreatDoorAb35
namespace Go.Ab

theorem partsFs_at (e : TypeId) (sz : Nat) : ∀ (n k j : Nat), j < n → (partsFs e sz k n)[j]? = some ((k + j) * sz, e)
  | 0, _, _, h => absurd h (Nat.not_lt_zero _)
  | n + 1, k, 0, _ => by simp [partsFs]
  | n + 1, k, j + 1, h => by
    have := partsFs_at e sz n (k + 1) j (by omega)
    simp only [partsFs, List.getElem?_cons_succ]
    rw [this]
    congr 2
    congr 1
    omega

theorem setAt_over {α : Type} : ∀ (new old pre post : List α), old.length = new.length → setAt (pre ++ (old ++ post)) pre.length new = pre ++ (new ++ post)
  | [], old, pre, post, h => by
    have : old = [] := List.eq_nil_of_length_eq_zero h
    subst this
    rfl
  | v :: vs, [], _, _, h => by simp at h
  | v :: vs, o :: old, pre, post, h => by
    have ih := setAt_over vs old (pre ++ [v]) post (by simpa using h)
    rw [List.length_append, List.length_singleton] at ih
    simp only [setAt]
    rw [List.set_append_right _ _ (Nat.le_refl _), Nat.sub_self]
    simp only [List.cons_append, List.set_cons_zero]
    have e1 : pre ++ v :: (old ++ post) = pre ++ [v] ++ (old ++ post) := by simp
    rw [e1, ih]
    simp

/-- Parts by their places. -/
def idxA : Nat → List (List AV) → List (Nat × AV)
  | _, [] => []
  | k, c :: cs => (k, .agg c) :: idxA (k + 1) cs

theorem abuild_flat {ty : TypeId → Option TyI} {e : TypeId} {ei : TyI} (he : ty e = some ei) : ∀ (cs : List (List AV)) (k n : Nat) (done : List AV), done.length = k * ei.size → n = k + cs.length → (∀ c ∈ cs, c.length = ei.size) →
    abuild (partsFs e ei.size 0 n) ty (done ++ List.replicate (cs.length * ei.size) junk) (idxA k cs) = some (done ++ cs.flatten)
  | [], k, n, done, _, _, _ => by simp [idxA, abuild]
  | c :: cs, k, n, done, hd, hn, hc => by
    have h0 := hc c (List.mem_cons_self ..)
    rw [List.length_cons] at hn
    have hp := partsFs_at e ei.size n 0 k (by omega)
    rw [Nat.zero_add] at hp
    simp only [idxA, abuild, hp, he, cellsOf]
    have hrep : List.replicate ((c :: cs).length * ei.size) junk = List.replicate ei.size junk ++ List.replicate (cs.length * ei.size) junk := by
      rw [List.replicate_append_replicate, List.length_cons, Nat.add_mul, Nat.one_mul, Nat.add_comm]
    have hset : setAt (done ++ List.replicate ((c :: cs).length * ei.size) junk) (k * ei.size) c = (done ++ c) ++ List.replicate (cs.length * ei.size) junk := by
      rw [hrep, ← hd, setAt_over c _ done _ (by rw [List.length_replicate]; exact h0.symm), List.append_assoc]
    have hlen : (done ++ List.replicate ((c :: cs).length * ei.size) junk).length = done.length + (cs.length + 1) * ei.size := by rw [List.length_append, List.length_replicate, List.length_cons]
    have hok : (Nat.beq c.length ei.size && Nat.ble (k * ei.size + c.length) (done ++ List.replicate ((c :: cs).length * ei.size) junk).length) = true := by
      rw [Bool.and_eq_true]
      refine ⟨by rw [h0]; exact Nat.beq_refl _, Nat.ble_eq_true_of_le ?_⟩
      rw [hlen, hd, h0, Nat.add_mul, Nat.one_mul]
      exact Nat.add_le_add_left (Nat.le_add_left _ _) _
    rw [hok, cond_true, hset, abuild_flat he cs (k + 1) n (done ++ c) (by rw [List.length_append, hd, h0, Nat.add_mul, Nat.one_mul]) (by omega) fun x hx => hc x (List.mem_cons_of_mem _ hx)]
    simp

section
variable {P : Program} {N : Nat} {ty : TypeId → Option TyI} {T : Tmps} {H : AHeap} {Q : APost} {o : Oper} {l0 : List Oper} {LD : LDs} {W : Bool} {l : List (Nat × Oper)} {n : Nat}

/-- A slice of parts, each a whole element of several cells. -/
theorem qbsA (hty : TyOk P ty) {t e : TypeId} {len : Nat} {parts : Array (Nat × Operand)} {ti ei : TyI} {d : Nat} (cs : List (List AV)) (k : TR P N ty l0 LD W Q l ((d, .slice ei.size len (chunk cs.flatten ei.size) .full) :: T) H)
    (hg : o.guard = none := by exact rfl) (ho : o.op = .buildSlice t len parts := by exact rfl) (hd : o.dst = some d := by exact rfl) (hN : dstOk o.dst N = true := by exact rfl) (hon : optN True T (tmpsOf o.op) := by exact True.intro)
    (hti : ty t = some ti := by exact rfl) (hk : ti.k = .slice e := by exact rfl) (hei : ty e = some ei := by exact rfl) (hl : cs.length = len := by exact rfl) (hc : cs.all (fun c => Nat.beq c.length ei.size) = true := by exact rfl) (hm : mapP (opvL (tmpsOf o.op) T) parts.toList = some (idxA 0 cs) := by exact rfl) (hpos : Nat.ble 1 ei.size = true := by exact rfl)
    (hlen : Nat.ble (len * ei.size) 16777216 = true := by exact rfl) (hone : cs.flatten.all AV.one = true := by exact rfl) :
    TR P N ty l0 LD W Q ((n, o) :: l) T H := by
  have hb := abuild_flat (ty := ty) hei cs 0 len [] (by simp) (by omega) fun c hx => Nat.eq_of_beq_eq_true (List.all_eq_true.1 hc c hx)
  rw [List.nil_append, List.nil_append, hl] at hb
  exact TR.bslice hty _ hg ho hd hN hon hti hk hei hm hpos hlen hb hone (Sub.refl _) k
end

end Go.Ab
