/-
  The document's lines, byte by byte (scan): the plain law that they are the lexer's.
-/
import Derived.Test.YtjinaakebjfbiaaGreatDoorLx4
namespace Go.Proofs.YtjinaakebjfbiaaGreatDoor
open Go.Ab

def finW (l : List TokR) (ln col : Nat) (cur : List UInt8) (has : Bool) : (Nat × Nat) ⊕ List TokR :=
  if has then match tokF cur with
    | none => .inl (ln, col - cur.length)
    | some (k, v) => .inr (l ++ [⟨k, cur, v, ln, col - cur.length⟩])
  else .inr l

def addL (outs : List (List TokR)) (l : List TokR) : List (List TokR) := if l = [] then outs else outs ++ [l]

def scan (outs : List (List TokR)) (l : List TokR) (ln col : Nat) (cur : List UInt8) (has rem : Bool) : List UInt8 → (Nat × Nat) ⊕ List (List TokR)
  | [] => match finW l ln col cur has with
    | .inl e => .inl e
    | .inr l' => .inr (addL outs l')
  | b :: rest => if b = 10 then match finW l ln col cur has with
      | .inl e => .inl e
      | .inr l' => scan (addL outs l') [] (ln + 1) 1 [] false false rest
    else if b = 32 then match finW l ln col cur has with
      | .inl e => .inl e
      | .inr l' => scan outs l' ln (col + 1) [] false rem rest
    else if has then scan outs l ln (col + 1) (cur ++ [b]) true rem rest
    else if rem then scan outs l ln (col + 1) [] false true rest
    else if b = 35 then scan outs l ln (col + 1) [] false true rest
    else scan outs l ln (col + 1) [b] true rem rest

/-- The words of what is left of a line. -/
def pend (col : Nat) (cur : List UInt8) (has rem : Bool) (p : List UInt8) : List (Nat × List UInt8) :=
  if has then match splitC 32 p with
    | [] => []
    | f :: fs => (col - cur.length, cur ++ f) :: wordsG (col + f.length) fs
  else if rem then [] else wordsG (col - 1) (splitC 32 p)

def endL (outs : List (List TokR)) (l : List TokR) (ln : Nat) : List UInt8 → (Nat × Nat) ⊕ List (List TokR)
  | [] => .inr (addL outs l)
  | _ :: rest => scan (addL outs l) [] (ln + 1) 1 [] false false rest

theorem toksF_cons (n c : Nat) (w : List UInt8) (l : List (Nat × List UInt8)) : toksF n ((c, w) :: l) = match tokF w with
    | none => .inl (n, c)
    | some (k, v) => match toksF n l with
      | .inl p => .inl p
      | .inr ts => .inr (⟨k, w, v, n, c⟩ :: ts) := rfl

theorem scan_line (outs : List (List TokR)) (ln : Nat) (tail : List UInt8) (ht : tail = [] ∨ ∃ r, tail = 10 :: r) : ∀ (p : List UInt8) (l : List TokR) (col : Nat) (cur : List UInt8) (has rem : Bool),
    (∀ b ∈ p, b ≠ 10) → 1 ≤ col → (has = true → rem = false) →
    scan outs l ln col cur has rem (p ++ tail) = match toksF ln (pend col cur has rem p) with
      | .inl e => .inl e
      | .inr ts => endL outs (l ++ ts) ln tail
  | [], l, col, cur, has, rem, _, _, _ => by
    have hfin : toksF ln (pend col cur has rem []) = match finW l ln col cur has with
        | .inl e => .inl e
        | .inr l' => .inr (l'.drop l.length) := by
      cases has with
      | true =>
        simp only [pend, splitC, if_true, List.append_nil, wordsG, toksF_cons, finW]
        cases tokF cur with
        | none => rfl
        | some q => simp [toksF]
      | false =>
        have h0 : Lib.hasPrefix [] [35] = false := rfl
        cases rem <;> simp [pend, splitC, wordsG, toksF, finW, h0]
    have hpre : ∀ l', finW l ln col cur has = .inr l' → l ++ l'.drop l.length = l' := by
      intro l' h
      unfold finW at h
      split at h
      · split at h
        · cases h
        · simp only [Sum.inr.injEq] at h
          rw [← h]
          simp
      · simp only [Sum.inr.injEq] at h
        rw [h]
        simp
    rw [hfin, List.nil_append]
    rcases ht with rfl | ⟨r, rfl⟩
    · simp only [scan]
      cases hf : finW l ln col cur has with
      | inl e => rfl
      | inr l' => simp only [endL, hpre l' hf]
    · simp only [scan, if_true]
      cases hf : finW l ln col cur has with
      | inl e => rfl
      | inr l' => simp only [endL, hpre l' hf]
  | b :: p, l, col, cur, has, rem, hp, hc, hr => by
    have hb : b ≠ 10 := hp b (by simp)
    have hp' : ∀ b ∈ p, b ≠ 10 := fun x hx => hp x (by simp [hx])
    have ih := fun l col cur has rem => scan_line outs ln tail ht p l col cur has rem hp'
    rw [List.cons_append]
    simp only [scan, if_neg hb]
    by_cases h32 : b = 32
    · subst h32
      simp only [if_true]
      have hs : splitC 32 (32 :: p) = [] :: splitC 32 p := by simp [splitC]
      cases has with
      | true =>
        have hrem := hr rfl
        subst hrem
        simp only [finW, if_true]
        have hpend : pend col cur true false (32 :: p) = (col - cur.length, cur) :: pend (col + 1) [] false false p := by
          simp [pend, hs]
        rw [hpend, toksF_cons]
        cases tokF cur with
        | none => rfl
        | some q =>
          simp only
          rw [ih _ _ _ _ _ (by omega) (fun h => by cases h)]
          cases toksF ln (pend (col + 1) [] false false p) <;> simp
      | false =>
        simp only [finW, Bool.false_eq_true, if_false]
        have hpend : pend col cur false rem (32 :: p) = pend (col + 1) [] false rem p := by
          have h0 : Lib.hasPrefix [] [35] = false := rfl
          cases rem
          · simp [pend, hs, wordsG, h0, show col - 1 + 1 = col by omega]
          · rfl
        rw [hpend]
        exact ih _ _ _ _ _ (by omega) (fun h => by cases h)
    · rw [if_neg h32]
      obtain ⟨f, fs, hf⟩ : ∃ f fs, splitC 32 p = f :: fs := by
        cases h : splitC 32 p with
        | nil => exact absurd h (splitC_ne 32 p)
        | cons f fs => exact ⟨f, fs, rfl⟩
      have hs : splitC 32 (b :: p) = (b :: f) :: fs := by simp [splitC, h32, hf]
      cases has with
      | true =>
        have hrem := hr rfl
        subst hrem
        simp only [if_true]
        have hpend : pend col cur true false (b :: p) = pend (col + 1) (cur ++ [b]) true false p := by
          simp only [pend, hs, hf, if_true, List.length_append, List.length_cons, List.length_nil, List.append_assoc, List.cons_append, List.nil_append]
          congr 2
          · omega
          · omega
        rw [hpend]
        exact ih _ _ _ _ _ (by omega) (fun _ => rfl)
      | false =>
        simp only [Bool.false_eq_true, if_false]
        cases rem with
        | true =>
          simp only [if_true]
          have hpend : pend col cur false true (b :: p) = pend (col + 1) [] false true p := rfl
          rw [hpend]
          exact ih _ _ _ _ _ (by omega) (fun h => by cases h)
        | false =>
          simp only [Bool.false_eq_true, if_false]
          by_cases h35 : b = 35
          · subst h35
            simp only [if_true]
            have hpend : pend col cur false false (35 :: p) = pend (col + 1) [] false true p := by
              have h1 : Lib.hasPrefix (35 :: f) [35] = true := by simp [Lib.hasPrefix]
              simp [pend, hs, wordsG, h1]
            rw [hpend]
            exact ih _ _ _ _ _ (by omega) (fun h => by cases h)
          · rw [if_neg h35]
            have hpend : pend col cur false false (b :: p) = pend (col + 1) [b] true false p := by
              have h1 : Lib.hasPrefix (b :: f) [35] = false := by
                simp [Lib.hasPrefix, List.isPrefixOf, Ne.symm h35]
              simp only [pend, hs, hf, wordsG, h1, Bool.false_eq_true, if_false, if_true, List.length_cons, List.length_nil, reduceCtorEq, List.cons_append, List.nil_append]
              congr 2
              · omega
              · omega
            rw [hpend]
            exact ih _ _ _ _ _ (by omega) (fun _ => rfl)

theorem split_line : ∀ (s : List UInt8), ∃ p tail, s = p ++ tail ∧ (∀ b ∈ p, b ≠ 10) ∧ ((tail = [] ∧ splitC 10 s = [p]) ∨ ∃ r, tail = 10 :: r ∧ splitC 10 s = p :: splitC 10 r)
  | [] => ⟨[], [], rfl, by simp, .inl ⟨rfl, rfl⟩⟩
  | b :: s => by
    by_cases hb : b = 10
    · subst hb
      exact ⟨[], 10 :: s, rfl, by simp, .inr ⟨s, rfl, by simp [splitC]⟩⟩
    · obtain ⟨p, tail, rfl, h1, h2⟩ := split_line s
      refine ⟨b :: p, tail, rfl, ?_, ?_⟩
      · intro x hx
        rcases List.mem_cons.1 hx with rfl | hx
        · exact hb
        · exact h1 x hx
      · rcases h2 with ⟨h2, h3⟩ | ⟨r, h2, h3⟩
        · exact .inl ⟨h2, by simp [splitC, hb, h3]⟩
        · exact .inr ⟨r, h2, by simp [splitC, hb, h3]⟩

theorem scan_lines : ∀ (k : Nat) (s : List UInt8) (outs : List (List TokR)) (n : Nat), s.length ≤ k → scan outs [] (n + 1) 1 [] false false s = preS outs (linesG n (splitC 10 s)) := by
  intro k
  induction k with
  | zero =>
    intro s outs n h
    obtain rfl : s = [] := List.eq_nil_of_length_eq_zero (by omega)
    have h0 : wordsF [] = [] := rfl
    simp [scan, finW, addL, splitC, linesG, h0, toksF, preS]
  | succ k ih =>
    intro s outs n h
    obtain ⟨p, tail, rfl, h1, h2⟩ := split_line s
    have ht : tail = [] ∨ ∃ r, tail = 10 :: r := by
      rcases h2 with ⟨h2, _⟩ | ⟨r, h2, _⟩
      · exact .inl h2
      · exact .inr ⟨r, h2⟩
    rw [scan_line outs (n + 1) tail ht p [] 1 [] false false h1 (by omega) (fun h => by cases h)]
    have hp : pend 1 [] false false p = wordsF p := rfl
    rw [hp]
    rcases h2 with ⟨rfl, h3⟩ | ⟨r, rfl, h3⟩
    · rw [h3]
      simp only [linesG]
      cases toksF (n + 1) (wordsF p) with
      | inl e => rfl
      | inr ts =>
        simp only [endL, List.nil_append, preS, addL]
        split <;> simp
    · rw [h3]
      simp only [linesG]
      cases toksF (n + 1) (wordsF p) with
      | inl e => rfl
      | inr ts =>
        simp only [endL, List.nil_append]
        rw [ih r _ _ (by simp at h; omega)]
        cases linesG (n + 1) (splitC 10 r) with
        | inl e => rfl
        | inr q =>
          simp only [preS, addL]
          split <;> simp

theorem scan_start (s : List UInt8) : scan [] [] 1 1 [] false false s = linesF s := by
  rw [scan_lines s.length s [] 0 (Nat.le_refl _), preS_nil]
  rfl

end Go.Proofs.YtjinaakebjfbiaaGreatDoor
