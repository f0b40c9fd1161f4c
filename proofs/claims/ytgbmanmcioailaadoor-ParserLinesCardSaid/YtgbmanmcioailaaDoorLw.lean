/-
  LexerWord: a script of one word, and of two. The plain law.
-/
import Derived.Test.YtgbmanmcioailaaDoorLx4
import Derived.Test.YtgbmanmcioailaaDoorCa
namespace Go.Proofs.YtgbmanmcioailaaDoor
open Go.Ab

theorem splitC_app (c : UInt8) : ∀ (l r : List UInt8), (∀ b ∈ l, b ≠ c) → splitC c (l ++ c :: r) = l :: splitC c r
  | [], r, _ => by simp [splitC]
  | b :: l, r, h => by
    have hb : b ≠ c := h b (List.mem_cons_self ..)
    have ih := splitC_app c l r (fun x hx => h x (List.mem_cons_of_mem _ hx))
    simp only [List.cons_append, splitC, if_neg hb, ih]

theorem splitC_one (c : UInt8) : ∀ (l : List UInt8), (∀ b ∈ l, b ≠ c) → splitC c l = [l]
  | [], _ => rfl
  | b :: l, h => by
    have hb : b ≠ c := h b (List.mem_cons_self ..)
    have ih := splitC_one c l (fun x hx => h x (List.mem_cons_of_mem _ hx))
    simp only [splitC, if_neg hb, ih]

def remk : List UInt8 := [32, 35, 32, 97, 32, 114, 101, 109, 97, 114, 107]

/-- A word as the law takes it. -/
def plainW (w : List UInt8) : Prop := w ≠ [] ∧ w.getD 0 0 ≠ 35 ∧ (∀ b ∈ w, b ≠ 32) ∧ ∀ b ∈ w, b ≠ 10

theorem plain_prefix {w : List UInt8} (h : plainW w) : Lib.hasPrefix w [35] = false := by
  obtain ⟨h1, h2, _⟩ := h
  cases w with
  | nil => exact absurd rfl h1
  | cons b l =>
    have : b ≠ 35 := h2
    simp [Lib.hasPrefix, List.isPrefixOf, Ne.symm this]

theorem line1_words {w : List UInt8} (h : plainW w) : wordsF ([32, 32] ++ w ++ remk) = [(3, w)] := by
  have e : splitC 32 ([32, 32] ++ w ++ remk) = [] :: [] :: w :: splitC 32 [35, 32, 97, 32, 114, 101, 109, 97, 114, 107] := by
    have : splitC 32 (w ++ 32 :: [35, 32, 97, 32, 114, 101, 109, 97, 114, 107]) = w :: splitC 32 [35, 32, 97, 32, 114, 101, 109, 97, 114, 107] := splitC_app 32 w _ h.2.2.1
    show splitC 32 (32 :: 32 :: (w ++ remk)) = _
    simp only [splitC, if_true]
    exact congrArg (fun x => [] :: [] :: x) this
  have e2 : splitC 32 [35, 32, 97, 32, 114, 101, 109, 97, 114, 107] = [[35], [97], [114, 101, 109, 97, 114, 107]] := by kernel_rfl
  unfold wordsF
  rw [e, e2]
  simp only [wordsG, plain_prefix h, h.1]
  rfl

theorem line1_split {w : List UInt8} (h : plainW w) : splitC 10 ([32, 32] ++ w ++ remk) = [[32, 32] ++ w ++ remk] := by
  refine splitC_one 10 _ fun b hb => ?_
  simp only [remk, List.mem_append, List.mem_cons, List.mem_nil_iff, or_false] at hb
  rcases hb with ((rfl | rfl) | hb) | rfl | rfl | rfl | rfl | rfl | rfl | rfl | rfl | rfl | rfl | rfl
  all_goals first | exact h.2.2.2 b hb | decide

theorem line1_some {w : List UInt8} (h : plainW w) (hl : w.length ≤ 100) {k n : Int} (ht : tokF w = some (k, n)) : linesR ([32, 32] ++ w ++ remk) = .tuple [linesV [[⟨k, w, n, 1, 3⟩]], placeV 0 0, .int .i64 0] := by
  refine linesR_inr (by simp [remk]; omega) ?_
  unfold linesF
  rw [line1_split h]
  simp only [linesG, line1_words h, toksF, ht]
  rfl

theorem line1_none {w : List UInt8} (h : plainW w) (hl : w.length ≤ 100) (ht : tokF w = none) : linesR ([32, 32] ++ w ++ remk) = .tuple [linesV [], placeV 1 3, .int .i64 4] := by
  refine linesR_inl (l := 1) (c := 3) (by simp [remk]; omega) ?_
  unfold linesF
  rw [line1_split h]
  simp only [linesG, line1_words h, toksF, ht]

theorem line2_words {w x : List UInt8} (h : plainW w) (g : plainW x) : wordsF (w ++ [32] ++ x) = [(1, w), (w.length + 2, x)] := by
  have e : splitC 32 (w ++ [32] ++ x) = [w, x] := by
    rw [List.append_assoc]
    show splitC 32 (w ++ 32 :: x) = _
    rw [splitC_app 32 w _ h.2.2.1, splitC_one 32 x g.2.2.1]
  unfold wordsF
  rw [e]
  simp only [wordsG, plain_prefix h, plain_prefix g, h.1, g.1]
  simp

theorem line2_split {w x : List UInt8} (h : plainW w) (g : plainW x) : splitC 10 (w ++ [32] ++ x) = [w ++ [32] ++ x] := by
  refine splitC_one 10 _ fun b hb => ?_
  simp only [List.mem_append, List.mem_cons, List.mem_nil_iff, or_false] at hb
  rcases hb with (hb | rfl) | hb
  · exact h.2.2.2 b hb
  · decide
  · exact g.2.2.2 b hb

theorem line2_some {w x : List UInt8} (h : plainW w) (g : plainW x) (hl : w.length ≤ 100) (gl : x.length ≤ 100) {k n k' n' : Int} (ht : tokF w = some (k, n)) (gt : tokF x = some (k', n')) :
    linesR (w ++ [32] ++ x) = .tuple [linesV [[⟨k, w, n, 1, 1⟩, ⟨k', x, n', 1, w.length + 2⟩]], placeV 0 0, .int .i64 0] := by
  refine linesR_inr (by simp; omega) ?_
  unfold linesF
  rw [line2_split h g]
  simp only [linesG, line2_words h g, toksF, ht, gt]
  rfl

theorem line2_none {w x : List UInt8} (h : plainW w) (g : plainW x) (hl : w.length ≤ 100) (gl : x.length ≤ 100) {k n : Int} (ht : tokF w = some (k, n)) (gt : tokF x = none) :
    linesR (w ++ [32] ++ x) = .tuple [linesV [], placeV 1 ((w.length + 2 : Nat) : Int), .int .i64 4] := by
  refine linesR_inl (l := 1) (c := w.length + 2) (by simp; omega) ?_
  unfold linesF
  rw [line2_split h g]
  simp only [linesG, line2_words h g, toksF, ht, gt]

theorem plain_of {w x : List UInt8} (h : anyF (w ++ x) = false) : (∀ b ∈ w, b ≠ 32) ∧ (∀ b ∈ w, b ≠ 10) ∧ (∀ b ∈ x, b ≠ 32) ∧ ∀ b ∈ x, b ≠ 10 := by
  unfold anyF at h
  rw [List.any_eq_false] at h
  refine ⟨fun b hb e => ?_, fun b hb e => ?_, fun b hb e => ?_, fun b hb e => ?_⟩
  · exact h b (List.mem_append.2 (.inl hb)) (by simp [e])
  · exact h b (List.mem_append.2 (.inl hb)) (by simp [e])
  · exact h b (List.mem_append.2 (.inr hb)) (by simp [e])
  · exact h b (List.mem_append.2 (.inr hb)) (by simp [e])

end Go.Proofs.YtgbmanmcioailaaDoor
