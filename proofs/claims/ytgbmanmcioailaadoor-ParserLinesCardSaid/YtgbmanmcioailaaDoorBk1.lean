/-
  LexerBack, the plain law: words told with blanks between are read again as they are; lines ahead shift lines alone.
-/
import Derived.Test.YtgbmanmcioailaaDoorLw
import Derived.Lib.Join
namespace Go.Proofs.YtgbmanmcioailaaDoor
open Go.Ab

/-- A piece has no byte of the separator, and its bytes are the text's. -/
theorem splitC_no (c : UInt8) : ∀ (l p : List UInt8), p ∈ splitC c l → (∀ b ∈ p, b ≠ c) ∧ ∀ b ∈ p, b ∈ l
  | [], p, h => by
    simp only [splitC, List.mem_cons, List.mem_nil_iff, or_false] at h
    subst h
    exact ⟨fun b hb => absurd hb List.not_mem_nil, fun b hb => hb⟩
  | b :: l, p, h => by
    simp only [splitC] at h
    split at h
    · rcases List.mem_cons.1 h with rfl | h
      · exact ⟨fun b hb => absurd hb List.not_mem_nil, fun b hb => absurd hb List.not_mem_nil⟩
      · have := splitC_no c l p h
        exact ⟨this.1, fun x hx => List.mem_cons_of_mem _ (this.2 x hx)⟩
    · rename_i hb
      cases hs : splitC c l with
      | nil => exact absurd hs (splitC_ne c l)
      | cons q qs =>
        rw [hs] at h
        rcases List.mem_cons.1 h with rfl | h
        · have := splitC_no c l q (by rw [hs]; exact List.mem_cons_self ..)
          refine ⟨fun x hx => ?_, fun x hx => ?_⟩
          · rcases List.mem_cons.1 hx with rfl | hx
            · exact hb
            · exact this.1 x hx
          · rcases List.mem_cons.1 hx with rfl | hx
            · exact List.mem_cons_self ..
            · exact List.mem_cons_of_mem _ (this.2 x hx)
        · have := splitC_no c l p (by rw [hs]; exact List.mem_cons_of_mem _ h)
          exact ⟨this.1, fun x hx => List.mem_cons_of_mem _ (this.2 x hx)⟩

theorem wordsG_plain : ∀ (ps : List (List UInt8)) (k : Nat), (∀ p ∈ ps, (∀ b ∈ p, b ≠ 32) ∧ ∀ b ∈ p, b ≠ 10) → ∀ x ∈ wordsG k ps, plainW x.2
  | [], _, _, x, hx => by simp [wordsG] at hx
  | p :: ps, k, h, x, hx => by
    simp only [wordsG] at hx
    split at hx
    · cases hx
    · rename_i hp
      split at hx
      · exact wordsG_plain ps _ (fun q hq => h q (List.mem_cons_of_mem _ hq)) x hx
      · rename_i hne
        rcases List.mem_cons.1 hx with rfl | hx
        · refine ⟨hne, fun e => hp ?_, h p (List.mem_cons_self ..)⟩
          cases p with
          | nil => exact absurd rfl hne
          | cons b l =>
            have : b = 35 := e
            simp [Lib.hasPrefix, List.isPrefixOf, this]
        · exact wordsG_plain ps _ (fun q hq => h q (List.mem_cons_of_mem _ hq)) x hx

theorem wordsF_plain {p : List UInt8} (h : ∀ b ∈ p, b ≠ 10) : ∀ x ∈ wordsF p, plainW x.2 :=
  wordsG_plain _ _ fun q hq => ⟨(splitC_no 32 p q hq).1, fun b hb => h b ((splitC_no 32 p q hq).2 b hb)⟩

/-- What is known of a token that was read. -/
def goodT (t : TokR) : Prop := plainW t.w ∧ tokF t.w = some (t.k, t.n)

theorem toksF_good (n : Nat) : ∀ (ws : List (Nat × List UInt8)) (ts : List TokR), (∀ x ∈ ws, plainW x.2) → toksF n ws = .inr ts → ∀ t ∈ ts, goodT t
  | [], ts, _, h => by
    simp only [toksF, Sum.inr.injEq] at h
    subst h
    exact fun t ht => absurd ht List.not_mem_nil
  | (c, w) :: l, ts, hw, h => by
    simp only [toksF] at h
    split at h
    · cases h
    · rename_i k v hk
      split at h
      · cases h
      · rename_i ts' ht'
        simp only [Sum.inr.injEq] at h
        subst h
        intro t ht
        rcases List.mem_cons.1 ht with rfl | ht
        · exact ⟨hw (c, w) (List.mem_cons_self ..), hk⟩
        · exact toksF_good n l ts' (fun x hx => hw x (List.mem_cons_of_mem _ hx)) ht' t ht

theorem linesG_good : ∀ (ps : List (List UInt8)) (n : Nat) (r : List (List TokR)), (∀ p ∈ ps, ∀ b ∈ p, b ≠ 10) → linesG n ps = .inr r → ∀ l ∈ r, l ≠ [] ∧ ∀ t ∈ l, goodT t
  | [], n, r, _, h => by
    simp only [linesG, Sum.inr.injEq] at h
    subst h
    exact fun l hl => absurd hl List.not_mem_nil
  | p :: ps, n, r, hp, h => by
    simp only [linesG] at h
    split at h
    · cases h
    · rename_i ts ht
      split at h
      · cases h
      · rename_i r' hr
        have ih := linesG_good ps (n + 1) r' (fun q hq => hp q (List.mem_cons_of_mem _ hq)) hr
        have hg := toksF_good _ _ _ (wordsF_plain (hp p (List.mem_cons_self ..))) ht
        simp only [Sum.inr.injEq] at h
        split at h
        · subst h
          exact ih
        · rename_i hne
          subst h
          intro l hl
          rcases List.mem_cons.1 hl with rfl | hl
          · exact ⟨hne, hg⟩
          · exact ih l hl

theorem linesF_good {s : List UInt8} {r : List (List TokR)} (h : linesF s = .inr r) : ∀ l ∈ r, l ≠ [] ∧ ∀ t ∈ l, goodT t :=
  linesG_good _ 0 r (fun p hp => (splitC_no 10 s p hp).1) h

/-! Lines ahead. -/

def up2 (t : TokR) : TokR := { t with ln := t.ln + 2 }

theorem toksF_up (n : Nat) : ∀ (ws : List (Nat × List UInt8)) (ts : List TokR), toksF n ws = .inr ts → toksF (n + 2) ws = .inr (ts.map up2)
  | [], ts, h => by
    simp only [toksF, Sum.inr.injEq] at h ⊢
    subst h
    rfl
  | (c, w) :: l, ts, h => by
    simp only [toksF] at h ⊢
    split at h
    · cases h
    · rename_i k v hk
      split at h
      · cases h
      · rename_i ts' ht'
        simp only [Sum.inr.injEq] at h
        subst h
        rw [toksF_up n l ts' ht']
        rfl

theorem linesG_up : ∀ (ps : List (List UInt8)) (n : Nat) (r : List (List TokR)), linesG n ps = .inr r → linesG (n + 2) ps = .inr (r.map fun l => l.map up2)
  | [], n, r, h => by
    simp only [linesG, Sum.inr.injEq] at h ⊢
    subst h
    rfl
  | p :: ps, n, r, h => by
    simp only [linesG] at h ⊢
    split at h
    · cases h
    · rename_i ts ht
      split at h
      · cases h
      · rename_i r' hr
        simp only [Sum.inr.injEq] at h
        have e1 := toksF_up (n + 1) _ ts ht
        have e2 := linesG_up ps (n + 1) r' hr
        rw [show n + 2 + 1 = n + 1 + 2 by omega, e1, e2]
        split at h
        · rename_i hn
          subst h
          subst hn
          rfl
        · rename_i hn
          subst h
          simp [hn]

theorem ahead_lines {s remark : List UInt8} {r : List (List TokR)} (hr : ∀ b ∈ remark, b ≠ 10) (h : linesF s = .inr r) : linesF ([32, 32, 32, 10, 35] ++ remark ++ [10] ++ s) = .inr (r.map fun l => l.map up2) := by
  have e : splitC 10 ([32, 32, 32, 10, 35] ++ remark ++ [10] ++ s) = [32, 32, 32] :: (35 :: remark) :: splitC 10 s := by
    have e1 : [32, 32, 32, 10, 35] ++ remark ++ [10] ++ s = [32, 32, 32] ++ 10 :: ((35 :: remark) ++ 10 :: s) := by simp
    rw [e1, splitC_app 10 [32, 32, 32] _ (by decide), splitC_app 10 (35 :: remark) s]
    intro b hb
    rcases List.mem_cons.1 hb with rfl | hb
    · decide
    · exact hr b hb
  have w1 : wordsF [32, 32, 32] = [] := by kernel_rfl
  have w2 : wordsF (35 :: remark) = [] := by
    unfold wordsF
    simp only [splitC, show ¬ (35 : UInt8) = 32 by decide, if_false]
    cases hs : splitC 32 remark with
    | nil => rfl
    | cons q qs =>
      simp only [wordsG]
      rw [if_pos]
      simp [Lib.hasPrefix, List.isPrefixOf]
  unfold linesF at h ⊢
  rw [e]
  simp only [linesG, w1, w2, toksF]
  rw [linesG_up _ _ _ h]
  simp

end Go.Proofs.YtgbmanmcioailaaDoor
