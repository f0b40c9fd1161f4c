/-
  A script's statements.
-/
import Derived.Test.YtjinaakebjfbiaaGreatDoorPr2
namespace Go.Proofs.YtjinaakebjfbiaaGreatDoor
open Go.Ab

def outB (b : Nat) (v : AV) : Ent := .box b 22 v
def plB (b : Nat) (l c : Int) : Ent := .box b 39 (placeV l c)
def erB (b : Nat) (e : Int) : Ent := .box b 29 (.int .i64 e)

theorem parseG_step {outs : List StR} {l : List TokR} {ls : List (List TokR)} {s : StR} (h : stmtF l = .inr s) : preS outs (parseG (l :: ls)) = preS (outs ++ [s]) (parseG ls) := by
  simp only [parseG, h]
  cases parseG ls <;> simp [preS]

theorem endOf_bound {n : Nat} : ∀ {ws : List (Nat × List UInt8)} {ts : List TokR}, toksF n ws = .inr ts → ∀ t ∈ ts, ∃ c, (c, t.w) ∈ ws ∧ t.co = c
  | [], ts, h, t, ht => by
    simp only [toksF, Sum.inr.injEq] at h
    subst h
    cases ht
  | (c, w) :: ws, ts, h, t, ht => by
    simp only [toksF] at h
    split at h
    · cases h
    · split at h
      · cases h
      · rename_i r hr
        simp only [Sum.inr.injEq] at h
        subst h
        rcases List.mem_cons.1 ht with rfl | ht
        · exact ⟨c, by simp, rfl⟩
        · obtain ⟨c', h1, h2⟩ := endOf_bound hr t ht
          exact ⟨c', by simp [h1], h2⟩

theorem wordsG_bound : ∀ (ps : List (List UInt8)) (k : Nat) (x : Nat × List UInt8), x ∈ wordsG k ps → x.1 + x.2.length ≤ k + (ps.map List.length).sum + ps.length + 1
  | [], _, x, h => by simp [wordsG] at h
  | p :: ps, k, x, h => by
    simp only [wordsG] at h
    simp only [List.map_cons, List.sum_cons, List.length_cons]
    split at h
    · simp at h
    · split at h
      · have := wordsG_bound ps _ x h
        omega
      · rcases List.mem_cons.1 h with rfl | h
        · simp only
          omega
        · have := wordsG_bound ps _ x h
          omega

theorem linesG_mem : ∀ (ps : List (List UInt8)) (n : Nat) (r : List (List TokR)), linesG n ps = .inr r → ∀ l ∈ r, l ≠ [] ∧ ∃ p ∈ ps, ∃ m, toksF m (wordsF p) = .inr l
  | [], n, r, h, l, hl => by
    simp only [linesG, Sum.inr.injEq] at h
    subst h
    cases hl
  | p :: ps, n, r, h, l, hl => by
    simp only [linesG] at h
    split at h
    · cases h
    · rename_i ts ht
      split at h
      · cases h
      · rename_i r' hr
        have ih := linesG_mem ps (n + 1) r' hr
        simp only [Sum.inr.injEq] at h
        split at h
        · subst h
          obtain ⟨h1, q, h2, h3⟩ := ih l hl
          exact ⟨h1, q, by simp [h2], h3⟩
        · rename_i hne
          subst h
          rcases List.mem_cons.1 hl with rfl | hl
          · exact ⟨hne, p, by simp, n + 1, ht⟩
          · obtain ⟨h1, q, h2, h3⟩ := ih l hl
            exact ⟨h1, q, by simp [h2], h3⟩

/-- Of a line that was read: it has words, not too many, and none stands too far right. -/
theorem line_bound {s : List UInt8} {r : List (List TokR)} (h : linesF s = .inr r) {l : List TokR} (hl : l ∈ r) : l ≠ [] ∧ l.length ≤ s.length + 1 ∧ ∀ t ∈ l, t.co + t.w.length ≤ s.length + 2 := by
  obtain ⟨h1, p, h2, m, h3⟩ := linesG_mem _ _ _ h l hl
  have hp := splitC_piece 10 s p h2
  have hc := splitC_len 32 p
  refine ⟨h1, ?_, fun t ht => ?_⟩
  · rw [toksF_len _ _ _ h3]
    refine Nat.le_trans (wordsG_len _ _) ?_
    omega
  · obtain ⟨c, h4, h5⟩ := endOf_bound h3 t ht
    have := wordsG_bound _ _ _ h4
    simp only at this
    omega

theorem linesG_count : ∀ (ps : List (List UInt8)) (n : Nat) (r : List (List TokR)), linesG n ps = .inr r → r.length ≤ ps.length
  | [], n, r, h => by
    simp only [linesG, Sum.inr.injEq] at h
    subst h
    simp
  | p :: ps, n, r, h => by
    simp only [linesG] at h
    split at h
    · cases h
    · split at h
      · cases h
      · rename_i r' hr
        have ih := linesG_count ps (n + 1) r' hr
        simp only [Sum.inr.injEq] at h
        split at h
        · subst h; simp; omega
        · subst h; simp; omega

theorem lines_count {s : List UInt8} {r : List (List TokR)} (h : linesF s = .inr r) : r.length ≤ s.length + 1 :=
  Nat.le_trans (linesG_count _ _ _ h) (splitC_count 10 s)

theorem getLastD_mem {l : List TokR} (h : l ≠ []) : l.getLastD tok0 ∈ l := by
  cases l with
  | nil => exact absurd rfl h
  | cons t l =>
    rw [List.getLastD_cons]
    exact List.getLastD_mem_cons

/-- The program where the words were no script's: told at once. -/
theorem parseR_err {s : List UInt8} {l c e : Int} (h : linesR s = .tuple [linesV [], placeV l c, .int .i64 e]) (he : e ≠ 0) : parseR s = .tuple [stmtsV [], placeV l c, .int .i64 e] := by
  unfold linesR at h
  unfold parseR parseF
  split at h
  · rename_i hl
    rw [if_pos hl]
    simp only [AV.tuple.injEq, List.cons.injEq, and_true, true_and, placeV, AV.agg.injEq, AV.int.injEq] at h
    obtain ⟨⟨rfl, rfl⟩, rfl⟩ := h
    rfl
  · rename_i hl
    rw [if_neg hl]
    cases hf : linesF s with
    | inl p =>
      rw [hf] at h
      simp only [AV.tuple.injEq, List.cons.injEq, and_true, true_and, placeV, AV.agg.injEq, AV.int.injEq] at h
      obtain ⟨⟨rfl, rfl⟩, rfl⟩ := h
      rfl
    | inr r =>
      rw [hf] at h
      simp only [AV.tuple.injEq, List.cons.injEq, and_true, true_and, placeV, AV.agg.injEq, AV.int.injEq] at h
      exact absurd h.2.2.symm he

end Go.Proofs.YtjinaakebjfbiaaGreatDoor
