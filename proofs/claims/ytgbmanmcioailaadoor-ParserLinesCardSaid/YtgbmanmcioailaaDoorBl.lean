/-
  Plain law: more blanks, remarks behind, lines without words; statements told line by line.
-/
import Derived.Test.YtgbmanmcioailaaDoorSm
import Derived.Test.YtgbmanmcioailaaDoorJn
namespace Go.Proofs.YtgbmanmcioailaaDoor
open Go.Ab

def bl3 : List UInt8 := [32, 32, 32]
/-- What stands behind a line: two blanks, a remark. -/
def rmkB : List UInt8 := [32, 32, 35, 32, 97, 32, 114, 101, 109, 97, 114, 107]
def blBody (l : List TokR) : List UInt8 := bl3 ++ Lib.join (l.map (·.w)) bl3 ++ rmkB
def blLine (l : List TokR) : List UInt8 := bl3 ++ Lib.join (l.map (·.w)) bl3 ++ [32, 32, 35, 32, 97, 32, 114, 101, 109, 97, 114, 107, 10, 32, 32, 32, 10]
def blHead : List UInt8 := [10, 32, 32, 35, 32, 97, 32, 114, 101, 109, 97, 114, 107, 10]
def blCat : List (List TokR) → List UInt8
  | [] => []
  | l :: r => blLine l ++ blCat r

/-- Words without their places. -/
def wW : List (List UInt8) → List (List UInt8)
  | [] => []
  | p :: ps => if Lib.hasPrefix p [35] then [] else if p = [] then wW ps else p :: wW ps

theorem wordsG_wW : ∀ (ps : List (List UInt8)) (k : Nat), (wordsG k ps).map (·.2) = wW ps
  | [], _ => rfl
  | p :: ps, k => by
    simp only [wordsG, wW]
    split
    · rfl
    · split
      · exact wordsG_wW ps _
      · simp only [List.map_cons, wordsG_wW ps]

theorem toksF_er (n : Nat) : ∀ (ws : List (Nat × List UInt8)) (l : List TokR), ws.map (·.2) = l.map (·.w) → (∀ t ∈ l, goodT t) → ∃ ts, toksF n ws = .inr ts ∧ ts.map erT = l.map erT
  | [], [], _, _ => ⟨[], rfl, rfl⟩
  | [], _ :: _, h, _ => by simp at h
  | _ :: _, [], h, _ => by simp at h
  | (c, w) :: ws, t :: l, h, hg => by
    simp only [List.map_cons, List.cons.injEq] at h
    obtain ⟨h1, h2⟩ := h
    obtain ⟨ts, h3, h4⟩ := toksF_er n ws l h2 fun x hx => hg x (List.mem_cons_of_mem _ hx)
    have ht := (hg t (List.mem_cons_self ..)).2
    refine ⟨⟨t.k, w, t.n, n, c⟩ :: ts, ?_, ?_⟩
    · simp only [toksF, h1, ht, h3]
    · simp only [List.map_cons, h4, List.cons.injEq, and_true]
      subst h1
      rfl

theorem split3 (x : List UInt8) : splitC 32 (bl3 ++ x) = [] :: [] :: [] :: splitC 32 x := by
  simp [bl3, splitC]

theorem wW_skip (x : List (List UInt8)) : wW ([] :: x) = wW x := by
  have h : Lib.hasPrefix [] [35] = false := rfl
  simp [wW, h]

theorem wW_rm : wW (splitC 32 [32, 35, 32, 97, 32, 114, 101, 109, 97, 114, 107]) = [] := by decide +kernel

theorem wW_join : ∀ (ws : List (List UInt8)), ws ≠ [] → (∀ w ∈ ws, plainW w) → wW (splitC 32 (Lib.join ws bl3 ++ rmkB)) = ws
  | [], h, _ => absurd rfl h
  | [w], _, hp => by
    have h := hp w (List.mem_cons_self ..)
    rw [Lib.join_one, show w ++ rmkB = w ++ 32 :: [32, 35, 32, 97, 32, 114, 101, 109, 97, 114, 107] from rfl, splitC_app 32 w _ h.2.2.1]
    simp only [wW, plain_prefix h, if_neg h.1, Bool.false_eq_true, if_false, wW_rm]
  | w :: v :: ws, _, hp => by
    have h := hp w (List.mem_cons_self ..)
    have e : Lib.join (w :: v :: ws) bl3 = w ++ 32 :: 32 :: 32 :: Lib.join (v :: ws) bl3 := by
      rw [Lib.join_cons, Lib.join_cons]
      simp [Lib.joinTail, bl3]
    rw [e, List.append_assoc, List.cons_append, splitC_app 32 w _ h.2.2.1]
    have ih := wW_join (v :: ws) (by simp) fun x hx => hp x (List.mem_cons_of_mem _ hx)
    simp only [wW, plain_prefix h, if_neg h.1, Bool.false_eq_true, if_false, List.cons_append]
    rw [show splitC 32 (32 :: 32 :: (Lib.join (v :: ws) bl3 ++ rmkB)) = [] :: [] :: splitC 32 (Lib.join (v :: ws) bl3 ++ rmkB) by simp [splitC], wW_skip, wW_skip, ih]

theorem blBody_words {l : List TokR} (hne : l ≠ []) (h : ∀ t ∈ l, goodT t) : (wordsF (blBody l)).map (·.2) = l.map (·.w) := by
  have hp : ∀ w ∈ l.map (·.w), plainW w := by
    intro w hw
    obtain ⟨t, ht, rfl⟩ := List.mem_map.1 hw
    exact (h t ht).1
  unfold wordsF blBody
  rw [wordsG_wW, List.append_assoc, split3, wW_skip, wW_skip, wW_skip, wW_join _ (by simpa using hne) hp]

theorem join3_mem : ∀ (xs : List (List UInt8)) (b : UInt8), b ∈ Lib.join xs bl3 → b = 32 ∨ ∃ x ∈ xs, b ∈ x
  | [], b, h => by rw [Lib.join_nil] at h; cases h
  | [x], b, h => by rw [Lib.join_one] at h; exact .inr ⟨x, List.mem_cons_self .., h⟩
  | x :: y :: r, b, h => by
    have e : Lib.join (x :: y :: r) bl3 = x ++ 32 :: 32 :: 32 :: Lib.join (y :: r) bl3 := by
      rw [Lib.join_cons, Lib.join_cons]
      simp [Lib.joinTail, bl3]
    rw [e] at h
    simp only [List.mem_append, List.mem_cons] at h
    rcases h with h | h | h | h | h
    · exact .inr ⟨x, List.mem_cons_self .., h⟩
    · exact .inl h
    · exact .inl h
    · exact .inl h
    · rcases join3_mem (y :: r) b h with h | ⟨z, hz, hb⟩
      · exact .inl h
      · exact .inr ⟨z, List.mem_cons_of_mem _ hz, hb⟩

theorem blBody_no {l : List TokR} (h : ∀ t ∈ l, goodT t) : ∀ b ∈ blBody l, b ≠ 10 := by
  intro b hb
  simp only [blBody, List.mem_append] at hb
  rcases hb with (hb | hb) | hb
  · revert hb; revert b; decide
  · rcases join3_mem _ b hb with rfl | ⟨x, hx, hbx⟩
    · decide
    · obtain ⟨t, ht, rfl⟩ := List.mem_map.1 hx
      exact (h t ht).1.2.2.2 b hbx
  · revert hb; revert b; decide

theorem blCat_split : ∀ (r : List (List TokR)), (∀ l ∈ r, ∀ t ∈ l, goodT t) → splitC 10 (blCat r) = (r.map fun l => [blBody l, bl3]).flatten ++ [[]]
  | [], _ => rfl
  | l :: r, h => by
    have e : blCat (l :: r) = blBody l ++ 10 :: (bl3 ++ 10 :: blCat r) := by simp [blCat, blLine, blBody, rmkB, bl3]
    rw [e, splitC_app 10 _ _ (blBody_no (h l (List.mem_cons_self ..))), splitC_app 10 bl3 _ (by decide), blCat_split r fun x hx => h x (List.mem_cons_of_mem _ hx)]
    rfl

theorem blCat_lines : ∀ (r : List (List TokR)) (n : Nat), (∀ l ∈ r, l ≠ [] ∧ ∀ t ∈ l, goodT t) → ∃ r', linesG n ((r.map fun l => [blBody l, bl3]).flatten ++ [[]]) = .inr r' ∧ r'.map (List.map erT) = r.map (List.map erT)
  | [], n, _ => ⟨[], rfl, rfl⟩
  | l :: r, n, h => by
    obtain ⟨h1, h2⟩ := h l (List.mem_cons_self ..)
    obtain ⟨r', h3, h4⟩ := blCat_lines r (n + 2) fun x hx => h x (List.mem_cons_of_mem _ hx)
    obtain ⟨ts, h5, h6⟩ := toksF_er (n + 1) _ l (blBody_words h1 h2) h2
    have w3 : wordsF bl3 = [] := by kernel_rfl
    have hts : ts ≠ [] := by
      rintro rfl
      cases l with
      | nil => exact h1 rfl
      | cons t l => simp at h6
    refine ⟨ts :: r', ?_, by simp [h4, h6]⟩
    simp only [List.map_cons, List.flatten_cons, List.cons_append, List.nil_append, linesG, h5, w3, toksF]
    rw [show n + 1 + 1 = n + 2 from rfl, h3]
    simp [hts]

/-- The words of the text with more blanks. -/
theorem blText_lines {s : List UInt8} {r : List (List TokR)} (h : linesF s = .inr r) : ∃ r', linesF (blHead ++ blCat r) = .inr r' ∧ r'.map (List.map erT) = r.map (List.map erT) := by
  have hg := linesF_good h
  have e : blHead ++ blCat r = [] ++ 10 :: ([32, 32, 35, 32, 97, 32, 114, 101, 109, 97, 114, 107] ++ 10 :: blCat r) := rfl
  unfold linesF
  rw [e, splitC_app 10 [] _ (by simp), splitC_app 10 _ _ (by decide), blCat_split r fun l hl => (hg l hl).2]
  obtain ⟨r', h1, h2⟩ := blCat_lines r 2 hg
  have w1 : wordsF [] = [] := by kernel_rfl
  have w2 : wordsF [32, 32, 35, 32, 97, 32, 114, 101, 109, 97, 114, 107] = [] := by kernel_rfl
  refine ⟨r', ?_, h2⟩
  simp only [linesG, w1, w2, toksF]
  rw [show 0 + 1 + 1 = 2 from rfl, h1]
  simp

theorem join3_len : ∀ xs : List (List UInt8), (Lib.join xs bl3).length ≤ 3 * cntL xs
  | [] => by simp [Lib.join_nil]
  | [x] => by simp [Lib.join_one, cntL]; omega
  | x :: y :: r => by
    have ih := join3_len (y :: r)
    have e : Lib.join (x :: y :: r) bl3 = x ++ 32 :: 32 :: 32 :: Lib.join (y :: r) bl3 := by
      rw [Lib.join_cons, Lib.join_cons]
      simp [Lib.joinTail, bl3]
    have e2 : cntL (x :: y :: r) = x.length + 1 + cntL (y :: r) := rfl
    rw [e]
    simp only [List.length_append, List.length_cons]
    omega

theorem blCat_len : ∀ (r : List (List TokR)), (∀ l ∈ r, l ≠ [] ∧ ∀ t ∈ l, goodT t) → (blCat r).length ≤ 13 * cntL (r.map wordT)
  | [], _ => Nat.le_refl _
  | l :: r, h => by
    obtain ⟨h1, h2⟩ := h l (List.mem_cons_self ..)
    have ih := blCat_len r fun x hx => h x (List.mem_cons_of_mem _ hx)
    have e : cntL ((l :: r).map wordT) = (wordT l).length + 1 + cntL (r.map wordT) := rfl
    have e1 : (wordT l).length + 1 = cntL (l.map (·.w)) := (join_cnt 32 (l.map TokR.w)).2 (fun e => h1 (List.map_eq_nil_iff.1 e))
    have e2 := join3_len (l.map (·.w))
    have e3 : 2 ≤ cntL (l.map (·.w)) := by
      cases l with
      | nil => exact absurd rfl h1
      | cons t l =>
        have hw := (h2 t (List.mem_cons_self ..)).1.1
        have hp : 0 < t.w.length := List.length_pos_iff.2 hw
        have : cntL ((t :: l).map (·.w)) = t.w.length + 1 + cntL (l.map (·.w)) := rfl
        omega
    simp only [blCat, blLine, List.length_append, List.length_cons, List.length_nil, bl3] at e2 ⊢
    omega

theorem blText_len {s : List UInt8} {r : List (List TokR)} (h : linesF s = .inr r) : (blHead ++ blCat r).length ≤ 14 + 13 * (s.length + 1) := by
  have h1 := blCat_len r (linesF_good h)
  have h2 := told_len h
  simp only [List.length_append, blHead, List.length_cons, List.length_nil]
  omega

/-! Statements told line by line. -/

def lnCat : List (List TokR) → List UInt8
  | [] => []
  | l :: r => wordT l ++ 10 :: lnCat r

theorem lnCat_split : ∀ (r : List (List TokR)), (∀ l ∈ r, ∀ t ∈ l, goodT t) → splitC 10 (lnCat r) = r.map wordT ++ [[]]
  | [], _ => rfl
  | l :: r, h => by
    rw [lnCat, splitC_app 10 _ _ (wordT_no (h l (List.mem_cons_self ..))), lnCat_split r fun x hx => h x (List.mem_cons_of_mem _ hx)]
    rfl

theorem lnCat_lines {s : List UInt8} {r : List (List TokR)} (h : linesF s = .inr r) : linesF (lnCat r) = .inr (reL 0 r) := by
  have hg := linesF_good h
  unfold linesF
  rw [lnCat_split r fun l hl => (hg l hl).2, linesG_app, linesG_told r 0 hg]
  have w1 : wordsF [] = [] := by kernel_rfl
  simp [appS, linesG, w1, toksF, preS]

theorem lnCat_len : ∀ (r : List (List TokR)), (lnCat r).length = cntL (r.map wordT)
  | [] => rfl
  | l :: r => by
    have e : cntL ((l :: r).map wordT) = (wordT l).length + 1 + cntL (r.map wordT) := rfl
    simp only [lnCat, List.length_append, List.length_cons, lnCat_len r, e]
    omega

end Go.Proofs.YtgbmanmcioailaaDoor
