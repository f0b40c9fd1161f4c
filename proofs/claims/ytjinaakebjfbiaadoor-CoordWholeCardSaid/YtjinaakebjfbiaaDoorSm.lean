/-
  Plain law of layer 20: lines whose words stand elsewhere have the same statements, but for places; a statement for each line.
-/
import Derived.Test.YtjinaakebjfbiaaDoorRp4
import Derived.Test.YtjinaakebjfbiaaDoorPq
import Derived.Test.YtjinaakebjfbiaaDoorRp6
import Derived.Test.YtjinaakebjfbiaaDoorBkM
namespace Go.Proofs.YtjinaakebjfbiaaDoor
open Go.Ab

/-- A word without its place. -/
def erT (t : TokR) : TokR := { t with ln := 0, co := 0 }

theorem erT_iff {a b : TokR} : erT a = erT b ↔ a.k = b.k ∧ a.w = b.w ∧ a.n = b.n := by
  simp [erT, TokR.mk.injEq]

theorem sameT_er {a b : TokR} (h : erT a = erT b) : sameT a b true = true := by
  obtain ⟨h1, h2, h3⟩ := erT_iff.1 h
  simp [sameT, h1, h2, h3]

theorem sameA_er {l l' : List TokR} (h : l.map erT = l'.map erT) : sameA l l' true = true := by
  simp only [sameA, List.all_eq_true, List.mem_range]
  intro k hk
  have hl : l.length = l'.length := by simpa using congrArg List.length h
  refine sameT_er ?_
  have e := congrArg (fun x => x[k]?) h
  simp only [List.getElem?_map, List.getElem?_eq_getElem hk, List.getElem?_eq_getElem (hl ▸ hk : k < l'.length), Option.map_some, Option.some.injEq] at e
  rw [List.getD_eq_getElem?_getD, List.getD_eq_getElem?_getD, List.getElem?_eq_getElem hk, List.getElem?_eq_getElem (hl ▸ hk : k < l'.length)]
  exact e

/-- Both do not fit; or both are told, alike but for places. -/
def simS {α β γ : Type} (R : β → γ → Prop) : α ⊕ β → α ⊕ γ → Prop
  | .inl _, .inl _ => True
  | .inr a, .inr b => R a b
  | _, _ => False

theorem allK_sim {ks : List Int} {a b : StR} (hs : sameS a b true = true) : ∀ {r r' : List TokR}, r.map erT = r'.map erT → simS (fun a b => sameS a b true = true) (allK ks r a) (allK ks r' b)
  | [], [], _ => hs
  | [], _ :: _, h => by simp at h
  | _ :: _, [], h => by simp at h
  | t :: r, t' :: r', h => by
    simp only [List.map_cons, List.cons.injEq] at h
    have hk := (erT_iff.1 h.1).1
    have ih := allK_sim (ks := ks) hs h.2
    unfold allK at ih ⊢
    simp only [oddT, ← hk]
    by_cases hc : ks.contains t.k = true
    · rw [if_pos hc, if_pos hc]
      exact ih
    · rw [if_neg hc, if_neg hc]
      trivial

theorem needK_sim {k : Int} {e e' : Nat × Nat} {f g : TokR → List TokR → (Nat × Nat) ⊕ StR} (h : ∀ t t' r r', erT t = erT t' → r.map erT = r'.map erT → simS (fun a b => sameS a b true = true) (f t r) (g t' r')) :
    ∀ {r r' : List TokR}, r.map erT = r'.map erT → simS (fun a b => sameS a b true = true) (needK k r e f) (needK k r' e' g)
  | [], [], _ => trivial
  | [], _ :: _, h => by simp at h
  | _ :: _, [], h => by simp at h
  | t :: r, t' :: r', h1 => by
    simp only [List.map_cons, List.cons.injEq] at h1
    have hk := (erT_iff.1 h1.1).1
    simp only [needK, ← hk]
    by_cases hc : t.k = k
    · rw [if_pos hc, if_pos hc]
      exact h t t' r r' h1.1 h1.2
    · rw [if_neg hc, if_neg hc]
      trivial

theorem sameS_er {k : Int} {n1 n2 w1 w2 : TokR} {l1 l2 : List TokR} {a1 a2 e1 e2 : Nat × Nat} (hn : erT n1 = erT n2) (hw : erT w1 = erT w2) (hl : l1.map erT = l2.map erT) :
    sameS ⟨k, n1, w1, l1, a1, e1⟩ ⟨k, n2, w2, l2, a2, e2⟩ true = true := by
  have h1 : l1.length = l2.length := by simpa using congrArg List.length hl
  simp [sameS, sameT_er hn, sameT_er hw, h1, sameA_er hl]

theorem stmtF_sim : ∀ {l l' : List TokR}, l.map erT = l'.map erT → simS (fun a b => sameS a b true = true) (stmtF l) (stmtF l')
  | [], [], _ => trivial
  | [], _ :: _, h => by simp at h
  | _ :: _, [], h => by simp at h
  | t0 :: r0, t1 :: r1, h => by
    simp only [List.map_cons, List.cons.injEq] at h
    obtain ⟨ht, hr⟩ := h
    obtain ⟨hk, hw, _⟩ := erT_iff.1 ht
    simp only [stmtF, ← hk, ← hw]
    by_cases h1 : t0.k = 1
    · rw [if_pos h1, if_pos h1]
      exact needK_sim (fun _ _ _ _ _ h2 => needK_sim (fun _ _ _ _ h3 h4 => allK_sim (sameS_er ht h3 h4) h4) h2) hr
    rw [if_neg h1, if_neg h1]
    by_cases h2 : t0.k ≠ 2
    · rw [if_pos h2, if_pos h2]; trivial
    rw [if_neg h2, if_neg h2]
    by_cases w1 : t0.w = wLimits
    · rw [if_pos w1, if_pos w1]
      exact allK_sim (sameS_er rfl rfl hr) hr
    rw [if_neg w1, if_neg w1]
    by_cases w2 : t0.w = wMode
    · rw [if_pos w2, if_pos w2]
      exact needK_sim (fun _ _ _ _ h3 h4 => allK_sim (sameS_er rfl h3 rfl) h4) hr
    rw [if_neg w2, if_neg w2]
    by_cases w3 : t0.w = wPoint
    · rw [if_pos w3, if_pos w3]
      exact allK_sim (sameS_er rfl rfl hr) hr
    rw [if_neg w3, if_neg w3]
    by_cases w4 : t0.w = wShow
    · rw [if_pos w4, if_pos w4]
      exact needK_sim (fun _ _ _ _ h3 h4 => allK_sim (sameS_er rfl h3 h4) h4) hr
    rw [if_neg w4, if_neg w4]
    trivial

theorem parseG_sim : ∀ {ls ls' : List (List TokR)}, ls.map (List.map erT) = ls'.map (List.map erT) → simS (fun a b => sameL a b true = true) (parseG ls) (parseG ls')
  | [], [], _ => rfl
  | [], _ :: _, h => by simp at h
  | _ :: _, [], h => by simp at h
  | l :: ls, l' :: ls', h => by
    simp only [List.map_cons, List.cons.injEq] at h
    have ih := parseG_sim h.2
    have hd := stmtF_sim h.1
    simp only [parseG]
    cases h1 : stmtF l with
    | inl p =>
      cases h2 : stmtF l' with
      | inl q => trivial
      | inr b => rw [h1, h2] at hd; exact hd.elim
    | inr a =>
      cases h2 : stmtF l' with
      | inl q => rw [h1, h2] at hd; exact hd.elim
      | inr b =>
        rw [h1, h2] at hd
        simp only
        cases h3 : parseG ls with
        | inl p =>
          cases h4 : parseG ls' with
          | inl q => trivial
          | inr y => rw [h3, h4] at ih; exact ih.elim
        | inr x =>
          cases h4 : parseG ls' with
          | inl q => rw [h3, h4] at ih; exact ih.elim
          | inr y =>
            rw [h3, h4] at ih
            simp only [simS, sameL, Bool.and_eq_true, beq_iff_eq, List.all_eq_true, List.mem_range] at ih ⊢
            refine ⟨by simp [ih.1], fun i hi => ?_⟩
            cases i with
            | zero => exact hd
            | succ i =>
              have := ih.2 i (by simpa using hi)
              simpa [List.getD_eq_getElem?_getD] using this

/-- Two texts whose words are the same, line by line. -/
theorem parse_sim {s t : List UInt8} {r r' : List (List TokR)} (hs : linesF s = .inr r) (ht : linesF t = .inr r') (h : r.map (List.map erT) = r'.map (List.map erT)) :
    simS (fun a b => sameL a b true = true) (parseF s) (parseF t) := by
  unfold parseF
  rw [hs, ht]
  exact parseG_sim h

theorem reT_er (n : Nat) : ∀ (l : List TokR) (c : Nat), (reT n c l).map erT = l.map erT
  | [], _ => rfl
  | t :: l, c => by simp only [reT, List.map_cons, reT_er n l]; rfl

theorem reL_er : ∀ (r : List (List TokR)) (n : Nat), (reL n r).map (List.map erT) = r.map (List.map erT)
  | [], _ => rfl
  | l :: r, n => by simp only [reL, List.map_cons, reL_er r, reT_er]

/-! A statement for each line. -/

def headOf (k : Int) : Nat := if k = 2 then 2 else if k = 4 then 3 else if k = 5 then 2 else 1

theorem allK_some {ks : List Int} {r : List TokR} {s st : StR} (h : allK ks r s = .inr st) : st = s ∧ oddT ks r = none := by
  unfold allK at h
  cases ho : oddT ks r with
  | some t => rw [ho] at h; cases h
  | none => rw [ho] at h; exact ⟨(Sum.inr.inj h).symm, rfl⟩

theorem oddT_nil {r : List TokR} (h : oddT [] r = none) : r = [] := by
  cases r with
  | nil => rfl
  | cons t r => simp [oddT] at h

theorem needK_inr' {k : Int} {r : List TokR} {e : Nat × Nat} {f : TokR → List TokR → (Nat × Nat) ⊕ StR} {st : StR} (h : needK k r e f = .inr st) : ∃ t r', r = t :: r' ∧ t.k = k ∧ f t r' = .inr st := by
  cases r with
  | nil => simp [needK] at h
  | cons t r =>
    simp only [needK] at h
    split at h
    · rename_i hk
      exact ⟨t, r, rfl, hk, h⟩
    · cases h

/-- The words of a statement's line. -/
def stWords (s : StR) : List (List UInt8) :=
  if s.k = 1 then wLimits :: s.args.map (·.w) else if s.k = 2 then [wMode, s.word.w] else if s.k = 3 then wPoint :: s.args.map (·.w)
  else if s.k = 4 then s.new.w :: [61] :: s.word.w :: s.args.map (·.w) else if s.k = 5 then wShow :: s.word.w :: s.args.map (·.w) else []

structure StPl (l : List TokR) (x : StR) : Prop where
  ne : l ≠ []
  at' : x.at' = ((l.getD 0 default).ln, (l.getD 0 default).co)
  en : x.en = endOf l
  k1 : 1 ≤ x.k
  k5 : x.k ≤ 5
  len : headOf x.k ≤ l.length
  args : x.args = l.drop (headOf x.k)
  words : (∀ t ∈ l, t.k = 4 → t.w = [61]) → stWords x = l.map (·.w)

theorem stmtF_pl {l : List TokR} {x : StR} (h : stmtF l = .inr x) : StPl l x := by
  cases l with
  | nil => simp [stmtF] at h
  | cons t0 r0 =>
    simp only [stmtF] at h
    split at h
    · obtain ⟨t1, r1, rfl, hk1, h⟩ := needK_inr' h
      obtain ⟨t2, r2, rfl, _, h⟩ := needK_inr' h
      obtain ⟨rfl, _⟩ := allK_some h
      refine ⟨by simp, rfl, rfl, by simp, by simp, by simp [headOf], by simp [headOf], fun hw => ?_⟩
      have := hw t1 (by simp) hk1
      simp [stWords, this]
    split at h
    · cases h
    split at h
    · rename_i hw
      obtain ⟨rfl, _⟩ := allK_some h
      exact ⟨by simp, rfl, rfl, by simp, by simp, by simp [headOf], by simp [headOf], fun _ => by simp [stWords, hw]⟩
    split at h
    · rename_i hw
      obtain ⟨t1, r1, rfl, _, h⟩ := needK_inr' h
      obtain ⟨rfl, ho⟩ := allK_some h
      obtain rfl := oddT_nil ho
      exact ⟨by simp, rfl, rfl, by simp, by simp, by simp [headOf], by simp [headOf], fun _ => by simp [stWords, hw]⟩
    split at h
    · rename_i hw
      obtain ⟨rfl, _⟩ := allK_some h
      exact ⟨by simp, rfl, rfl, by simp, by simp, by simp [headOf], by simp [headOf], fun _ => by simp [stWords, hw]⟩
    split at h
    · rename_i hw
      obtain ⟨t1, r1, rfl, _, h⟩ := needK_inr' h
      obtain ⟨rfl, ho⟩ := allK_some h
      exact ⟨by simp, rfl, rfl, by simp, by simp, by simp [headOf], by simp [headOf], fun _ => by simp [stWords, hw]⟩
    cases h

theorem parseG_get : ∀ {ls : List (List TokR)} {a : List StR}, parseG ls = .inr a → a.length = ls.length ∧ ∀ i, i < ls.length → stmtF (ls.getD i default) = .inr (a.getD i default)
  | [], a, h => by
    simp only [parseG, Sum.inr.injEq] at h
    subst h
    exact ⟨rfl, fun i hi => absurd hi (Nat.not_lt_zero _)⟩
  | l :: ls, a, h => by
    simp only [parseG] at h
    cases h1 : stmtF l with
    | inl p => rw [h1] at h; cases h
    | inr x =>
      rw [h1] at h
      simp only at h
      cases h2 : parseG ls with
      | inl p => rw [h2] at h; cases h
      | inr r =>
        rw [h2] at h
        simp only [Sum.inr.injEq] at h
        subst h
        obtain ⟨i1, i2⟩ := parseG_get h2
        refine ⟨by simp [i1], fun i hi => ?_⟩
        cases i with
        | zero => exact h1
        | succ i => simpa [List.getD_eq_getElem?_getD] using i2 i (by simpa using hi)

end Go.Proofs.YtjinaakebjfbiaaDoor
