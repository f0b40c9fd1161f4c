/-
  Plain law: the words of two scripts with a line end between; the statements of both.
-/
import Derived.Test.YtgbmanmcioailaaDoorRp4
import Derived.Test.YtgbmanmcioailaaDoorPpa
namespace Go.Proofs.YtgbmanmcioailaaDoor
open Go.Ab

def upD (d : Nat) (t : TokR) : TokR := { t with ln := t.ln + d }

def mapS {α β : Type} (d : Nat) (f : α → β) : (Nat × Nat) ⊕ α → (Nat × Nat) ⊕ β
  | .inl p => .inl (p.1 + d, p.2)
  | .inr x => .inr (f x)

theorem toksF_shift (n d : Nat) : ∀ ws : List (Nat × List UInt8), toksF (n + d) ws = mapS d (List.map (upD d)) (toksF n ws)
  | [] => rfl
  | (c, w) :: ws => by
    simp only [toksF]
    cases tokF w with
    | none => rfl
    | some q =>
      obtain ⟨k, v⟩ := q
      simp only [toksF_shift n d ws]
      cases toksF n ws <;> rfl

theorem linesG_shift (d : Nat) : ∀ (ps : List (List UInt8)) (n : Nat), linesG (n + d) ps = mapS d (List.map (List.map (upD d))) (linesG n ps)
  | [], _ => rfl
  | p :: ps, n => by
    have e : n + d + 1 = n + 1 + d := by omega
    simp only [linesG, e, toksF_shift (n + 1) d, linesG_shift d ps (n + 1)]
    cases toksF (n + 1) (wordsF p) with
    | inl q => rfl
    | inr ts =>
      simp only [mapS]
      cases linesG (n + 1) ps with
      | inl q => rfl
      | inr r =>
        simp only
        by_cases h : ts = []
        · subst h; rfl
        · rw [if_neg h, if_neg (by simpa using h)]; rfl

def appS {α : Type} (x y : (Nat × Nat) ⊕ List α) : (Nat × Nat) ⊕ List α :=
  match x with
  | .inl p => .inl p
  | .inr r => preS r y

theorem linesG_app : ∀ (ps qs : List (List UInt8)) (n : Nat), linesG n (ps ++ qs) = appS (linesG n ps) (linesG (n + ps.length) qs)
  | [], qs, n => by simp only [List.nil_append, linesG, appS, preS_nil]; rfl
  | p :: ps, qs, n => by
    have e : n + (p :: ps).length = n + 1 + ps.length := by simp only [List.length_cons]; omega
    simp only [List.cons_append, linesG, linesG_app ps qs (n + 1), e]
    cases toksF (n + 1) (wordsF p) with
    | inl q => rfl
    | inr ts =>
      simp only
      cases linesG (n + 1) ps with
      | inl q => rfl
      | inr r =>
        simp only [appS]
        cases linesG (n + 1 + ps.length) qs with
        | inl q => rfl
        | inr r2 =>
          simp only [preS]
          by_cases h : ts = []
          · rw [if_pos h, if_pos h]
          · rw [if_neg h, if_neg h]; rfl

theorem splitC_join (c : UInt8) : ∀ (s t : List UInt8), splitC c (s ++ c :: t) = splitC c s ++ splitC c t
  | [], t => by simp [splitC]
  | b :: s, t => by
    have ih := splitC_join c s t
    have hne := splitC_ne c s
    simp only [List.cons_append, splitC, ih]
    split
    · rfl
    · cases h : splitC c s with
      | nil => exact absurd h hne
      | cons p ps => rfl

/-- The words of both. -/
theorem linesF_join (s t : List UInt8) : linesF (s ++ 10 :: t) = appS (linesF s) (mapS (splitC 10 s).length (List.map (List.map (upD (splitC 10 s).length))) (linesF t)) := by
  unfold linesF
  rw [splitC_join, linesG_app, ← linesG_shift, Nat.zero_add]

/-! Statements further down. -/

def downS (d : Nat) : (Nat × Nat) ⊕ StR → (Nat × Nat) ⊕ StR → Prop
  | .inl p, .inl q => q = (p.1 + d, p.2)
  | .inr a, .inr b => sameS b a true = true
  | _, _ => False

theorem sameT_up (d : Nat) (t : TokR) : sameT (upD d t) t true = true := by simp [sameT, upD]

theorem sameA_up (d : Nat) (l : List TokR) : sameA (l.map (upD d)) l true = true := by
  simp only [sameA, List.all_eq_true, List.mem_range, List.length_map]
  intro k hk
  have e : (l.map (upD d)).getD k default = upD d (l.getD k default) := by
    simp only [List.getD_eq_getElem?_getD, List.getElem?_map, List.getElem?_eq_getElem hk]
    rfl
  rw [e]
  exact sameT_up d _

theorem oddT_up (d : Nat) (ks : List Int) : ∀ l : List TokR, oddT ks (l.map (upD d)) = (oddT ks l).map (upD d)
  | [] => rfl
  | t :: l => by
    simp only [List.map_cons, oddT, oddT_up d ks l]
    show (if ks.contains t.k then _ else _) = _
    by_cases h : ks.contains t.k = true
    · rw [if_pos h, if_pos h]
    · rw [if_neg h, if_neg h]; rfl

theorem allK_down {d : Nat} {ks : List Int} {r : List TokR} {a b : StR} (h : sameS b a true = true) : downS d (allK ks r a) (allK ks (r.map (upD d)) b) := by
  unfold allK
  rw [oddT_up]
  cases oddT ks r with
  | none => exact h
  | some t => rfl

theorem needK_down {d : Nat} {k : Int} {r : List TokR} {e : Nat × Nat} {f g : TokR → List TokR → (Nat × Nat) ⊕ StR} (h : ∀ t r', downS d (f t r') (g (upD d t) (r'.map (upD d)))) :
    downS d (needK k r e f) (needK k (r.map (upD d)) (e.1 + d, e.2) g) := by
  cases r with
  | nil => rfl
  | cons t r =>
    simp only [List.map_cons, needK]
    show downS d _ (if t.k = k then _ else _)
    by_cases h1 : t.k = k
    · rw [if_pos h1, if_pos h1]; exact h t r
    · rw [if_neg h1, if_neg h1]; rfl

theorem endOf_up (d : Nat) (t0 : TokR) (r0 : List TokR) : endOf ((t0 :: r0).map (upD d)) = ((endOf (t0 :: r0)).1 + d, (endOf (t0 :: r0)).2) := by
  have e : ((t0 :: r0).map (upD d)).getLastD tok0 = upD d ((t0 :: r0).getLastD tok0) := by
    rw [List.getLastD_eq_getLast?, List.getLastD_eq_getLast?, List.getLast?_map]
    cases h : (t0 :: r0).getLast? with
    | none => simp at h
    | some t => rfl
  unfold endOf
  rw [e]
  rfl

theorem sameS_mk {k : Int} {n1 n2 w1 w2 : TokR} {l1 l2 : List TokR} {a1 a2 e1 e2 : Nat × Nat} (hn : sameT n1 n2 true = true) (hw : sameT w1 w2 true = true) (hl : l1.length = l2.length) (ha : sameA l1 l2 true = true) :
    sameS ⟨k, n1, w1, l1, a1, e1⟩ ⟨k, n2, w2, l2, a2, e2⟩ true = true := by
  simp [sameS, hn, hw, hl, ha]

theorem stmtF_down (d : Nat) (l : List TokR) : downS d (stmtF l) (stmtF (l.map (upD d))) ∨ l = [] := by
  cases l with
  | nil => exact .inr rfl
  | cons t0 r0 =>
    refine .inl ?_
    have he := endOf_up d t0 r0
    rw [List.map_cons] at he ⊢
    simp only [stmtF, he]
    show downS d _ (if t0.k = 1 then _ else if t0.k ≠ 2 then _ else if t0.w = wLimits then _ else if t0.w = wMode then _ else if t0.w = wPoint then _ else if t0.w = wShow then _ else _)
    by_cases h1 : t0.k = 1
    · rw [if_pos h1, if_pos h1]
      exact needK_down fun _ r1 => needK_down fun t2 r2 => allK_down (sameS_mk (sameT_up d t0) (sameT_up d t2) (by simp) (sameA_up d r2))
    rw [if_neg h1, if_neg h1]
    by_cases h2 : t0.k ≠ 2
    · rw [if_pos h2, if_pos h2]; rfl
    rw [if_neg h2, if_neg h2]
    by_cases w1 : t0.w = wLimits
    · rw [if_pos w1, if_pos w1]
      exact allK_down (sameS_mk (sameT_refl _ _) (sameT_refl _ _) (by simp) (sameA_up d r0))
    rw [if_neg w1, if_neg w1]
    by_cases w2 : t0.w = wMode
    · rw [if_pos w2, if_pos w2]
      exact needK_down fun t1 r1 => allK_down (sameS_mk (sameT_refl _ _) (sameT_up d t1) (by simp) (by simp [sameA]))
    rw [if_neg w2, if_neg w2]
    by_cases w3 : t0.w = wPoint
    · rw [if_pos w3, if_pos w3]
      exact allK_down (sameS_mk (sameT_refl _ _) (sameT_refl _ _) (by simp) (sameA_up d r0))
    rw [if_neg w3, if_neg w3]
    by_cases w4 : t0.w = wShow
    · rw [if_pos w4, if_pos w4]
      exact needK_down fun t1 r1 => allK_down (sameS_mk (sameT_refl _ _) (sameT_up d t1) (by simp) (sameA_up d r1))
    rw [if_neg w4, if_neg w4]
    rfl

theorem parseG_app : ∀ (ls ms : List (List TokR)), parseG (ls ++ ms) = appS (parseG ls) (parseG ms)
  | [], ms => by simp only [List.nil_append, parseG, appS, preS_nil]
  | l :: ls, ms => by
    simp only [List.cons_append, parseG, parseG_app ls ms]
    cases stmtF l with
    | inl p => rfl
    | inr s =>
      simp only
      cases parseG ls with
      | inl p => rfl
      | inr r =>
        simp only [appS]
        cases parseG ms <;> rfl

theorem parseG_down (d : Nat) : ∀ (ls : List (List TokR)), (∀ l ∈ ls, l ≠ []) → match parseG ls, parseG (ls.map (List.map (upD d))) with
    | .inl p, .inl q => q = (p.1 + d, p.2)
    | .inr a, .inr b => sameL b a true = true
    | _, _ => False
  | [], _ => rfl
  | l :: ls, h => by
    have ih := parseG_down d ls fun x hx => h x (by simp [hx])
    have hd := (stmtF_down d l).resolve_right (h l (by simp))
    simp only [List.map_cons, parseG]
    cases h1 : stmtF l with
    | inl p =>
      cases h2 : stmtF (l.map (upD d)) with
      | inl q => rw [h1, h2] at hd; exact hd
      | inr b => rw [h1, h2] at hd; exact hd.elim
    | inr a =>
      cases h2 : stmtF (l.map (upD d)) with
      | inl q => rw [h1, h2] at hd; exact hd.elim
      | inr b =>
        rw [h1, h2] at hd
        simp only
        cases h3 : parseG ls with
        | inl p =>
          cases h4 : parseG (ls.map (List.map (upD d))) with
          | inl q => rw [h3, h4] at ih; exact ih
          | inr y => rw [h3, h4] at ih; exact ih.elim
        | inr x =>
          cases h4 : parseG (ls.map (List.map (upD d))) with
          | inl q => rw [h3, h4] at ih; exact ih.elim
          | inr y =>
            rw [h3, h4] at ih
            simp only [sameL, Bool.and_eq_true, beq_iff_eq, List.all_eq_true, List.mem_range] at ih ⊢
            refine ⟨by simp [ih.1], fun i hi => ?_⟩
            cases i with
            | zero => exact hd
            | succ i =>
              have := ih.2 i (by simpa using hi)
              simpa [List.getD_eq_getElem?_getD] using this

theorem linesF_ne {s : List UInt8} {r : List (List TokR)} (h : linesF s = .inr r) : ∀ l ∈ r, l ≠ [] := fun _ hl => (line_bound h hl).1

/-- Both fit. -/
theorem join_ok {s t : List UInt8} {a b : List StR} (ha : parseF s = .inr a) (hb : parseF t = .inr b) : ∃ b', parseF (s ++ 10 :: t) = .inr (a ++ b') ∧ sameL b' b true = true := by
  unfold parseF at ha hb ⊢
  rw [linesF_join]
  cases h1 : linesF s with
  | inl p => rw [h1] at ha; cases ha
  | inr ls =>
    cases h2 : linesF t with
    | inl p => rw [h2] at hb; cases hb
    | inr ms =>
      rw [h1] at ha
      rw [h2] at hb
      simp only at ha hb
      have hd := parseG_down (splitC 10 s).length ms (linesF_ne h2)
      simp only [mapS, appS, preS, parseG_app, ha]
      rw [hb] at hd
      cases h3 : parseG (ms.map (List.map (upD (splitC 10 s).length))) with
      | inl q => rw [h3] at hd; exact hd.elim
      | inr b' =>
        rw [h3] at hd
        exact ⟨b', rfl, hd⟩

/-- The first one does not fit, the second one does. -/
theorem join_first {s t : List UInt8} {p : Nat × Nat} {b : List StR} (ha : parseF s = .inl p) (hb : parseF t = .inr b) : parseF (s ++ 10 :: t) = .inl p := by
  unfold parseF at ha hb ⊢
  rw [linesF_join]
  cases h1 : linesF s with
  | inl q =>
    rw [h1] at ha
    simpa [appS] using ha
  | inr ls =>
    cases h2 : linesF t with
    | inl p => rw [h2] at hb; cases hb
    | inr ms =>
      rw [h1] at ha
      simp only at ha
      simp only [mapS, appS, preS, parseG_app, ha]

/-- The second one does not fit. -/
theorem join_second {s t : List UInt8} {q : Nat × Nat} (hb : parseF t = .inl q) : ∃ p, parseF (s ++ 10 :: t) = .inl p := by
  unfold parseF at hb ⊢
  rw [linesF_join]
  cases h1 : linesF s with
  | inl p => exact ⟨p, rfl⟩
  | inr ls =>
    cases h2 : linesF t with
    | inl p => exact ⟨_, rfl⟩
    | inr ms =>
      rw [h2] at hb
      simp only at hb
      have hd := parseG_down (splitC 10 s).length ms (linesF_ne h2)
      simp only [mapS, appS, preS, parseG_app]
      rw [hb] at hd
      cases parseG ls with
      | inl p => exact ⟨p, rfl⟩
      | inr a =>
        simp only
        cases h3 : parseG (ms.map (List.map (upD (splitC 10 s).length))) with
        | inl q => exact ⟨q, rfl⟩
        | inr b' => rw [h3] at hd; exact hd.elim

end Go.Proofs.YtgbmanmcioailaaDoor
