/-
  One without its class, and its class's power: the law in plain words.
-/
import Derived.Test.YtmjigepfjcokdaaMo8
namespace Go.Proofs.Ytmjigepfjcokdaa
open Go.Ab

theorem may_cons {last : Int} {p : Pw} {m : List Pw} : mayF last (p :: m) = true ↔ (last < p.1 ∧ p.1 ≤ 200 ∧ 1 ≤ p.2 ∧ p.2 ≤ 10000) ∧ mayF p.1 m = true := by
  rw [mayF]
  split
  · rename_i h
    simp only [Bool.or_eq_true, decide_eq_true_eq] at h
    constructor
    · intro h; cases h
    · rintro ⟨h', _⟩; omega
  · rename_i h
    simp only [Bool.or_eq_true, decide_eq_true_eq, not_or] at h
    constructor
    · intro h'; exact ⟨by omega, h'⟩
    · exact fun h' => h'.2

theorem may_snoc {l : Pw} : ∀ (m : List Pw) (last : Int), mayF last (m ++ [l]) = true → mayF last m = true ∧ (∀ p ∈ m, p.1 < l.1) ∧ last < l.1 ∧ l.1 ≤ 200 ∧ 1 ≤ l.2 ∧ l.2 ≤ 10000
  | [], last, h => by
    have h' := may_cons.1 (h : mayF last [l] = true)
    exact ⟨rfl, by simp, by omega, by omega, by omega, by omega⟩
  | p :: m, last, h => by
    have h' := may_cons.1 (h : mayF last (p :: (m ++ [l])) = true)
    obtain ⟨h1, h2, h3, h4⟩ := may_snoc m p.1 h'.2
    refine ⟨may_cons.2 ⟨h'.1, h1⟩, ?_, by omega, h4⟩
    intro q hq
    rcases List.mem_cons.1 hq with rfl | hq
    · exact h3
    · exact h2 q hq

theorem zip_snoc {l : Pw} : ∀ (m : List Pw), (∀ p ∈ m, p.1 < l.1) → zipM m [l] = m.map (fun p => (p.1, p.2, 0)) ++ [(l.1, 0, l.2)]
  | [], _ => by rw [zipM, zipM]; rfl
  | p :: m, h => by
    rw [zipM, if_pos (h p (by simp)), zip_snoc m fun q hq => h q (by simp [hq])]
    rfl

theorem made_snoc {l : Pw} (hl : 1 ≤ l.2) : ∀ (m : List Pw), (∀ p ∈ m, 1 ≤ p.2) → madeF gAdd (m.map (fun p => (p.1, p.2, 0)) ++ [(l.1, 0, l.2)]) = m ++ [l]
  | [], _ => by
    have : gAdd (l.1, 0, l.2) = l.2 := by simp [gAdd]
    simp only [madeF, List.map_nil, List.nil_append, List.filterMap_cons, List.filterMap_nil, this, if_pos (show l.2 > 0 by omega)]
  | p :: m, h => by
    have h1 := h p (by simp)
    have ih := made_snoc hl m fun q hq => h q (by simp [hq])
    have : gAdd (p.1, p.2, 0) = p.2 := by simp [gAdd]
    simp only [madeF] at ih
    simp only [madeF, List.map_cons, List.cons_append, List.filterMap_cons, this, if_pos (show p.2 > 0 by omega), ih]

theorem deg_none {v : Int} : ∀ (m : List Pw), (∀ p ∈ m, p.1 ≠ v) → degF v m = 0
  | [], _ => rfl
  | p :: m, h => by
    rw [degF, if_neg (h p (by simp)), deg_none m fun q hq => h q (by simp [hq])]

theorem deg_snoc {l : Pw} : ∀ (m : List Pw), (∀ p ∈ m, p.1 < l.1) → degF l.1 (m ++ [l]) = l.2
  | [], _ => by simp [degF]
  | p :: m, h => by
    have := h p (by simp)
    rw [List.cons_append, degF, if_neg (by omega), deg_snoc m fun q hq => h q (by simp [hq])]

theorem without_snoc {l : Pw} (m : List Pw) (h : ∀ p ∈ m, p.1 < l.1) : withoutF l.1 (m ++ [l]) = m := by
  unfold withoutF
  rw [List.filter_append, List.filter_eq_self.2 (fun p hp => by have := h p hp; simp; omega)]
  simp

/-- What the law says of one that may be. -/
theorem parts_law {m : List Pw} (hm : may m = true) (hne : m ≠ []) :
    classF (withoutF (classF m) (plainF m)) < classF m ∧ degF (classF m) (plainF (withoutF (classF m) (plainF m))) = 0 ∧
      timesF (withoutF (classF m) (plainF m)) (oneF [classF m, degF (classF m) (plainF m)]) = (m, 0) := by
  obtain ⟨i, l, rfl⟩ : ∃ i l, m = i ++ [l] := ⟨m.dropLast, m.getLast hne, (List.dropLast_concat_getLast hne).symm⟩
  obtain ⟨h1, h2, h3, h4, h5, h6⟩ := may_snoc i 0 hm
  have hp : plainF (i ++ [l]) = i ++ [l] := if_pos hm
  have hpi : plainF i = i := if_pos h1
  have hc : classF (i ++ [l]) = l.1 := by unfold classF; rw [hp]; simp
  rw [hc, hp, without_snoc i h2, deg_snoc i h2, hpi]
  refine ⟨?_, deg_none i fun p hp => by have := h2 p hp; omega, ?_⟩
  · unfold classF
    rw [hpi]
    cases hg : i.getLast? with
    | none => exact h3
    | some p => exact h2 p (List.mem_of_getLast? hg)
  · have hl : may [l] = true := may_cons.2 ⟨⟨h3, h4, h5, h6⟩, rfl⟩
    have hb := bnd_of (m := i) h1
    have e : madeF gAdd (zipM i [l]) = i ++ [l] := by rw [zip_snoc i h2, made_snoc h5 i fun p hp => (hb p hp).2.2.1]
    have hmi : may i = true := h1
    show timesF i [(l.1, l.2)] = _
    rw [timesF, hmi, hl, e, hm]
    rfl

end Go.Proofs.Ytmjigepfjcokdaa
