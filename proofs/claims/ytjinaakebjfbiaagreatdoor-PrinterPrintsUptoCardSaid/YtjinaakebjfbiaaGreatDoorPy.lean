/-
  Of scripts that were read: their texts, and when two have one.
-/
import Derived.Test.YtjinaakebjfbiaaGreatDoorPk
import Derived.Test.YtjinaakebjfbiaaGreatDoorPl
import Derived.Test.YtjinaakebjfbiaaGreatDoorSm
namespace Go.Proofs.YtjinaakebjfbiaaGreatDoor
open Go.Ab

theorem stmtF_in {l : List TokR} {x : StR} (h : stmtF l = .inr x) : (x.k = 4 → x.new ∈ l) ∧ (x.k = 2 ∨ x.k = 4 ∨ x.k = 5 → x.word ∈ l) := by
  cases l with
  | nil => simp [stmtF] at h
  | cons t0 r0 =>
    simp only [stmtF] at h
    split at h
    · obtain ⟨t1, r1, rfl, hk1, h⟩ := needK_inr' h
      obtain ⟨t2, r2, rfl, _, h⟩ := needK_inr' h
      obtain ⟨rfl, _⟩ := allK_some h
      exact ⟨fun _ => by simp, fun _ => by simp⟩
    split at h
    · cases h
    split at h
    · obtain ⟨rfl, _⟩ := allK_some h
      exact ⟨fun h => by simp at h, fun h => by simp at h⟩
    split at h
    · obtain ⟨t1, r1, rfl, _, h⟩ := needK_inr' h
      obtain ⟨rfl, ho⟩ := allK_some h
      exact ⟨fun h => by simp at h, fun _ => by simp⟩
    split at h
    · obtain ⟨rfl, _⟩ := allK_some h
      exact ⟨fun h => by simp at h, fun h => by simp at h⟩
    split at h
    · obtain ⟨t1, r1, rfl, _, h⟩ := needK_inr' h
      obtain ⟨rfl, ho⟩ := allK_some h
      exact ⟨fun h => by simp at h, fun _ => by simp⟩
    cases h

theorem good_ok {t : TokR} (h : goodT t) : wordOk t.up = true := by
  unfold wordOk
  have e : tokF t.up.w = some (t.k, t.n) := h.2
  rw [e]
  simp [TokR.up]

theorem stmt_ok {l : List TokR} {x : StR} (h : stmtF l = .inr x) (hg : ∀ t ∈ l, goodT t) : okAll x.up = true := by
  have pl := stmtF_pl h
  obtain ⟨i1, i2⟩ := stmtF_in h
  unfold okAll wordsL
  simp only [List.all_append, Bool.and_eq_true]
  refine ⟨⟨?_, ?_⟩, ?_⟩
  · split
    · rename_i hk
      simp only [List.all_cons, List.all_nil, Bool.and_true]
      exact good_ok (hg _ (i1 hk))
    · rfl
  · split
    · rename_i hk
      simp only [List.all_cons, List.all_nil, Bool.and_true]
      exact good_ok (hg _ (i2 hk))
    · rfl
  · split
    · rfl
    · rw [List.all_eq_true]
      intro t ht
      obtain ⟨y, hy, rfl⟩ := List.mem_map.1 (show t ∈ x.args.map TokR.up from ht)
      rw [pl.args] at hy
      exact good_ok (hg _ (List.mem_of_mem_drop hy))

theorem read_ok {s : List UInt8} {r : List (List TokR)} {a : List StR} (hf : linesF s = .inr r) (hp : parseG r = .inr a) : (a.map StR.up).all okAll = true := by
  obtain ⟨h1, h2⟩ := parseG_get hp
  have hg := linesF_good hf
  rw [List.all_eq_true]
  intro x hx
  obtain ⟨y, hy, rfl⟩ := List.mem_map.1 hx
  obtain ⟨i, hi, rfl⟩ := List.getElem_of_mem hy
  have hi' : i < r.length := by omega
  have := h2 i hi'
  rw [getD_at hi] at this
  exact stmt_ok this (hg _ (by rw [getD_at hi']; exact List.getElem_mem _)).2

/-- The lines of a script that was read. -/
theorem read_lines {s : List UInt8} {r : List (List TokR)} {a : List StR} (hf : linesF s = .inr r) (hp : parseG r = .inr a) : (a.map StR.up).map lineI = r.map wordT := by
  obtain ⟨h1, _⟩ := parseG_get hp
  refine List.ext_getElem (by simp [h1]) fun i hi1 hi2 => ?_
  have hi : i < a.length := by simpa using hi1
  have hi' : i < r.length := by simpa using hi2
  have := (line_of hf hp hi').1
  rw [getD_at hi, getD_at hi'] at this
  simpa using this

theorem printT_map (l : List StI) : printT l = (l.map lineI).flatMap fun x => x ++ [10] := by
  unfold printT
  rw [List.flatMap_map]

theorem lnCat_map : ∀ r : List (List TokR), lnCat r = (r.map wordT).flatMap fun x => x ++ [10]
  | [] => rfl
  | l :: r => by
    rw [lnCat, lnCat_map r]
    simp

theorem read_text {s : List UInt8} {r : List (List TokR)} {a : List StR} (hf : linesF s = .inr r) (hp : parseG r = .inr a) : printT (a.map StR.up) = lnCat r := by
  rw [printT_map, read_lines hf hp, lnCat_map]

theorem read_small {s : List UInt8} {r : List (List TokR)} {a : List StR} (hf : linesF s = .inr r) (hp : parseG r = .inr a) (hs : s.length ≤ 10000) (hb : a.length ≤ s.length + 1) : Small (a.map StR.up) := by
  obtain ⟨h1, _⟩ := parseG_get hp
  have key : ∀ x ∈ a.map StR.up, lenI x ≤ 3 * (s.length + 1) ∧ x.args.length ≤ s.length + 1 := by
    intro x hx
    obtain ⟨y, hy, rfl⟩ := List.mem_map.1 hx
    obtain ⟨i, hi, rfl⟩ := List.getElem_of_mem hy
    have := (line_of hf hp (i := i) (by omega)).2
    rw [getD_at hi] at this
    exact this
  have hl := sumLen_le (a.map StR.up) 30003 fun x hx => by have := (key x hx).1; omega
  refine ⟨by rw [List.length_map]; omega, fun x hx => ?_, fun x hx => ?_, fun x hx => ?_, fun x hx => ?_, fun x hx t ht => ?_, ?_⟩
  · have := (key x hx).2; omega
  · have := (key x hx).1; omega
  · have := (key x hx).1; unfold lenI at this; omega
  · have := (key x hx).1; unfold lenI at this; omega
  · have := (key x hx).1
    unfold lenI at this
    have h2 : t.w.length + 1 ≤ cntL (x.args.map (·.w)) := cnt_mem (List.mem_map_of_mem (f := fun t : TokI => t.w) ht)
    omega
  · rw [List.length_map] at hl
    have h5 : a.length * (30003 + 21) ≤ 10001 * 30024 := Nat.mul_le_mul_right _ (by omega)
    omega

/-- Two scripts that were read: their texts are one just if their lines are. -/
theorem same_text {s t : List UInt8} {r r' : List (List TokR)} {a b : List StR} (hf : linesF s = .inr r) (hp : parseG r = .inr a) (hf' : linesF t = .inr r') (hp' : parseG r' = .inr b)
    (h : printT (a.map StR.up) = printT (b.map StR.up)) : r.map (List.map erT) = r'.map (List.map erT) := by
  rw [read_text hf hp, read_text hf' hp'] at h
  have h1 := lnCat_lines hf
  rw [h, lnCat_lines hf'] at h1
  have h2 : reL 0 r' = reL 0 r := by simpa using h1
  rw [← reL_er r 0, ← reL_er r' 0, h2]

theorem erT_words {l l' : List TokR} (h : l.map erT = l'.map erT) : l.map (·.w) = l'.map (·.w) := by
  have := congrArg (List.map fun t : TokR => t.w) h
  rw [List.map_map, List.map_map] at this
  exact this

theorem same_lines {r r' : List (List TokR)} (h : r.map (List.map erT) = r'.map (List.map erT)) : r.map wordT = r'.map wordT := by
  have hl : r.length = r'.length := by simpa using congrArg List.length h
  refine List.ext_getElem (by simpa using hl) fun i h1 h2 => ?_
  have i1 : i < r.length := by simpa using h1
  have i2 : i < r'.length := by simpa using h2
  have := congrArg (fun z => z[i]?) h
  simp only [List.getElem?_map, List.getElem?_eq_getElem i1, List.getElem?_eq_getElem i2, Option.map_some, Option.some.injEq] at this
  rw [List.getElem_map, List.getElem_map]
  unfold wordT
  rw [erT_words this]

theorem sameLn_lines (l m : List StI) : sameLn l m = true ↔ l.map lineI = m.map lineI := by
  unfold sameLn
  simp only [Bool.and_eq_true, beq_iff_eq, List.all_eq_true, List.mem_range]
  constructor
  · rintro ⟨h1, h2⟩
    refine List.ext_getElem (by simpa using h1) fun i i1 i2 => ?_
    have := h2 i (by simpa using i1)
    rw [getD_at (by simpa using i1), getD_at (by simpa using i2)] at this
    simpa using this
  · intro h
    have hl : l.length = m.length := by simpa using congrArg List.length h
    refine ⟨hl, fun i hi => ?_⟩
    have := congrArg (fun z => z[i]?) h
    simp only [List.getElem?_map, List.getElem?_eq_getElem hi, List.getElem?_eq_getElem (show i < m.length by omega), Option.map_some, Option.some.injEq] at this
    rw [getD_at hi, getD_at (show i < m.length by omega)]
    exact this

theorem sameLn_text {s t : List UInt8} {r r' : List (List TokR)} {a b : List StR} (hf : linesF s = .inr r) (hp : parseG r = .inr a) (hf' : linesF t = .inr r') (hp' : parseG r' = .inr b) :
    sameLn (a.map StR.up) (b.map StR.up) = (printT (a.map StR.up) == printT (b.map StR.up)) := by
  rw [Bool.eq_iff_iff, sameLn_lines, beq_iff_eq]
  constructor
  · intro h
    rw [printT_map, printT_map, h]
  · intro h
    rw [read_lines hf hp, read_lines hf' hp']
    exact same_lines (same_text hf hp hf' hp' h)

theorem sameLn_comm (l m : List StI) : sameLn l m = sameLn m l := by
  rw [Bool.eq_iff_iff, sameLn_lines, sameLn_lines]
  exact eq_comm
theorem sameLn_refl (l : List StI) : sameLn l l = true := (sameLn_lines l l).2 rfl
theorem sameLn_short {l : List StI} {n : Nat} (h : n < l.length) : sameLn l (l.take n) = false := by
  rw [← Bool.not_eq_true, sameLn_lines]
  intro e
  have := congrArg List.length e
  simp at this
  omega

/-- One text: one limits' line, one mode. -/
theorem same_first {s t : List UInt8} {r r' : List (List TokR)} {a b : List StR} (hf : linesF s = .inr r) (hp : parseG r = .inr a) (hf' : linesF t = .inr r') (hp' : parseG r' = .inr b)
    (h : printT (a.map StR.up) = printT (b.map StR.up)) : sameL a b true = true := by
  have := parse_sim hf hf' (same_text hf hp hf' hp' h)
  unfold parseF at this
  rw [hf, hf'] at this
  simp only at this
  rw [hp, hp'] at this
  exact this

end Go.Proofs.YtjinaakebjfbiaaGreatDoor
