/-
  The document's parser, and the program's: the same statement of a line.
-/
import Derived.Test.YtjinaakebjfbiaaGreatDoorRp2
namespace Go.Proofs.YtjinaakebjfbiaaGreatDoor
open Go.Ab

def toP (l : List TokR) : Nat ⊕ StR → (Nat × Nat) ⊕ StR
  | .inl i => .inl (placeI l i)
  | .inr s => .inr s

theorem placeI_lt {l : List TokR} {i : Nat} {t : TokR} (h : l[i]? = some t) : placeI l i = (t.ln, t.co) := by
  have hi := (List.getElem?_eq_some_iff.1 h).1
  have h2 : l.getD i default = t := by rw [List.getD_eq_getElem?_getD, h]; rfl
  unfold placeI
  rw [if_pos hi, h2]

theorem placeI_ge {l : List TokR} {i : Nat} (h : l.length ≤ i) : placeI l i = endOf l := by
  simp [placeI, Nat.not_lt.2 h]

theorem drop_get {l : List TokR} {n : Nat} {t : TokR} {r : List TokR} (h : l.drop n = t :: r) : l[n]? = some t ∧ l.drop (n + 1) = r := by
  refine ⟨?_, ?_⟩
  · have := congrArg (fun x => x[0]?) h
    simpa using this
  · have := congrArg (List.drop 1) h
    simpa [Nat.add_comm] using this

theorem need_kind {l r : List TokR} {n : Nat} {k : Int} {f : TokR → List TokR → (Nat × Nat) ⊕ StR} (hr : l.drop n = r) (hk : k ≠ 0) :
    needK k r (endOf l) f = if kindF l n ≠ k then .inl (placeI l n) else f (l.getD n default) (l.drop (n + 1)) := by
  cases r with
  | nil =>
    have hl : l.length ≤ n := List.drop_eq_nil_iff.1 hr
    have h0 : kindF l n = 0 := by simp [kindF, Nat.not_lt.2 hl]
    rw [h0, if_pos (fun e => hk e.symm), placeI_ge hl]
    rfl
  | cons t r =>
    obtain ⟨h1, h2⟩ := drop_get hr
    have hi := (List.getElem?_eq_some_iff.1 h1).1
    have h3 : l.getD n default = t := by rw [List.getD_eq_getElem?_getD, h1]; rfl
    have h4 : kindF l n = t.k := by simp only [kindF, if_pos hi, h3]
    rw [h4, h3, h2, placeI_lt h1]
    simp only [needK]
    by_cases e : t.k = k
    · rw [if_pos e, if_neg (fun h => h e)]
    · rw [if_neg e, if_pos e]

theorem odd_both {ks : List Int} {a b : Int} : ∀ (r : List TokR) (n : Nat), (∀ t ∈ r, ks.contains t.k = !(t.k != a && t.k != b)) →
    match oddN a b n r with
      | none => oddT ks r = none
      | some i => n ≤ i ∧ ∃ t, r[i - n]? = some t ∧ oddT ks r = some t
  | [], n, _ => rfl
  | t :: r, n, h => by
    have h1 := h t (by simp)
    have ih := odd_both r (n + 1) fun t ht => h t (by simp [ht])
    simp only [oddN]
    cases hc : (t.k != a && t.k != b) with
    | true =>
      rw [hc] at h1
      simp only [if_true]
      refine ⟨Nat.le_refl _, t, by simp, ?_⟩
      simp only [oddT, h1]
      rfl
    | false =>
      rw [hc] at h1
      have h2 : oddT ks (t :: r) = oddT ks r := by
        simp only [oddT, h1]
        rfl
      rw [h2]
      simp only [Bool.false_eq_true, if_false]
      cases ho : oddN a b (n + 1) r with
      | none => rw [ho] at ih; exact ih
      | some i =>
        rw [ho] at ih
        obtain ⟨g1, u, g2, g3⟩ := ih
        refine ⟨by omega, u, ?_, g3⟩
        have : i - n = (i - (n + 1)) + 1 := by omega
        rw [this]
        simpa using g2

theorem fin_all {ks : List Int} {a b : Int} {l : List TokR} {s : StR} {n : Nat} (h : ∀ t ∈ l, ks.contains t.k = !(t.k != a && t.k != b)) :
    allK ks (l.drop n) ⟨s.k, s.new, s.word, l.drop n, s.at', s.en⟩ = toP l (finI s n a b l) := by
  have g := odd_both (l.drop n) n fun t ht => h t (List.mem_of_mem_drop ht)
  unfold allK finI
  cases ho : oddN a b n (l.drop n) with
  | none =>
    rw [ho] at g
    simp only at g
    simp only [g, toP]
  | some i =>
    rw [ho] at g
    obtain ⟨g1, t, g2, g3⟩ := g
    simp only [g3, toP]
    rw [List.getElem?_drop, show n + (i - n) = i by omega] at g2
    rw [placeI_lt g2]

theorem fin_none {l : List TokR} {s : StR} {n : Nat} (h : ∀ t ∈ l, t.k ≠ 0) :
    allK [] (l.drop n) ⟨s.k, s.new, s.word, [], s.at', s.en⟩ = toP l (finI s n 0 0 l) := by
  have h0 : ∀ t ∈ l, ([] : List Int).contains t.k = !(t.k != 0 && t.k != 0) := fun t ht => by simp [h t ht]
  have g := fin_all (s := s) (n := n) h0
  cases hd : l.drop n with
  | nil => rw [hd] at g; exact g
  | cons t r =>
    rw [← g, hd]
    rfl

theorem stmt_both (l : List TokR) (hne : l ≠ []) (hk : ∀ t ∈ l, t.k = 1 ∨ t.k = 2 ∨ t.k = 3 ∨ t.k = 4) : stmtF l = toP l (stmtI l) := by
  cases l with
  | nil => exact absurd rfl hne
  | cons t0 r0 =>
    have h13 : ∀ t ∈ t0 :: r0, ([1, 3] : List Int).contains t.k = !(t.k != 1 && t.k != 3) := fun t ht => by
      rcases hk t ht with e | e | e | e <;> rw [e] <;> decide
    have h3 : ∀ t ∈ t0 :: r0, ([3] : List Int).contains t.k = !(t.k != 3 && t.k != 3) := fun t ht => by
      rcases hk t ht with e | e | e | e <;> rw [e] <;> decide
    have h1 : ∀ t ∈ t0 :: r0, ([1] : List Int).contains t.k = !(t.k != 1 && t.k != 1) := fun t ht => by
      rcases hk t ht with e | e | e | e <;> rw [e] <;> decide
    have h0 : ∀ t ∈ t0 :: r0, t.k ≠ 0 := fun t ht => by
      rcases hk t ht with e | e | e | e <;> rw [e] <;> decide
    have hp0 : placeI (t0 :: r0) 0 = (t0.ln, t0.co) := placeI_lt rfl
    have hd1 : (t0 :: r0).drop 1 = r0 := rfl
    simp only [stmtF, stmtI]
    by_cases k1 : t0.k = 1
    · simp only [if_pos k1]
      rw [need_kind hd1 (by decide)]
      by_cases k2 : kindF (t0 :: r0) 1 = 4
      · rw [if_neg (fun h => h k2), if_neg (fun h => h k2)]
        rw [need_kind rfl (by decide)]
        by_cases k3 : kindF (t0 :: r0) 2 = 2
        · rw [if_neg (fun h => h k3), if_neg (fun h => h k3)]
          exact fin_all (s := ⟨4, t0, (t0 :: r0).getD 2 default, [], (t0.ln, t0.co), endOf (t0 :: r0)⟩) (n := 3) h13
        · rw [if_pos k3, if_pos k3]; rfl
      · rw [if_pos k2, if_pos k2]; rfl
    · simp only [if_neg k1]
      by_cases k2 : t0.k = 2
      · have nk2 : ¬ (t0.k ≠ 2) := fun h => h k2
        rw [if_neg nk2, if_neg nk2]
        by_cases w1 : t0.w = wLimits
        · rw [if_pos w1, if_pos w1]
          exact fin_all (s := ⟨1, tok0, tok0, [], (t0.ln, t0.co), endOf (t0 :: r0)⟩) (n := 1) h3
        · rw [if_neg w1, if_neg w1]
          by_cases w2 : t0.w = wPoint
          · have w3 : t0.w ≠ wMode := by rw [w2]; decide
            rw [if_neg w3, if_pos w2, if_pos w2]
            exact fin_all (s := ⟨3, tok0, tok0, [], (t0.ln, t0.co), endOf (t0 :: r0)⟩) (n := 1) h1
          · rw [if_neg w2, if_neg w2]
            by_cases w3 : t0.w = wMode
            · have w4 : t0.w ≠ wShow := by rw [w3]; decide
              rw [if_pos w3, if_pos (.inl w3), need_kind hd1 (by decide), if_neg w4]
              by_cases k3 : kindF (t0 :: r0) 1 = 2
              · rw [if_neg (fun h => h k3), if_neg (fun h => h k3)]
                exact fin_none (s := ⟨2, tok0, (t0 :: r0).getD 1 default, [], (t0.ln, t0.co), endOf (t0 :: r0)⟩) (n := 2) h0
              · rw [if_pos k3, if_pos k3]; rfl
            · rw [if_neg w3]
              by_cases w4 : t0.w = wShow
              · rw [if_pos w4, if_pos (.inr w4), need_kind hd1 (by decide), if_pos w4]
                by_cases k3 : kindF (t0 :: r0) 1 = 2
                · rw [if_neg (fun h => h k3), if_neg (fun h => h k3)]
                  exact fin_all (s := ⟨5, tok0, (t0 :: r0).getD 1 default, [], (t0.ln, t0.co), endOf (t0 :: r0)⟩) (n := 2) h13
                · rw [if_pos k3, if_pos k3]; rfl
              · rw [if_neg w4, if_neg (fun h => h.elim w3 w4)]
                simp only [toP, hp0]
      · rw [if_pos k2, if_pos k2]
        simp only [toP, hp0]

theorem tokF_kind {w : List UInt8} {k n : Int} (h : tokF w = some (k, n)) : k = 1 ∨ k = 2 ∨ k = 3 ∨ k = 4 := by
  unfold tokF at h
  split at h
  · simp at h; omega
  · split at h
    · simp at h; omega
    · split at h
      · simp at h; omega
      · split at h
        · split at h
          · cases h
          · simp at h; omega
        · cases h

theorem toksF_kind {n : Nat} : ∀ {ws : List (Nat × List UInt8)} {ts : List TokR}, toksF n ws = .inr ts → ∀ t ∈ ts, t.k = 1 ∨ t.k = 2 ∨ t.k = 3 ∨ t.k = 4
  | [], ts, h, t, ht => by
    simp only [toksF, Sum.inr.injEq] at h
    subst h
    cases ht
  | (c, w) :: ws, ts, h, t, ht => by
    simp only [toksF] at h
    split at h
    · cases h
    · rename_i k v hk
      split at h
      · cases h
      · rename_i r hr
        simp only [Sum.inr.injEq] at h
        subst h
        rcases List.mem_cons.1 ht with rfl | ht
        · exact tokF_kind hk
        · exact toksF_kind hr t ht

theorem line_kind {s : List UInt8} {r : List (List TokR)} (h : linesF s = .inr r) {l : List TokR} (hl : l ∈ r) : ∀ t ∈ l, t.k = 1 ∨ t.k = 2 ∨ t.k = 3 ∨ t.k = 4 := by
  obtain ⟨_, p, _, m, h3⟩ := linesG_mem _ _ _ h l hl
  exact toksF_kind h3

end Go.Proofs.YtjinaakebjfbiaaGreatDoor
