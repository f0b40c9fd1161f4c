/-
  LexerWord: a script of one word, and of two. The plain law.
-/
import Derived.Test.YtjinaakebjfbiaaGreatDoorLx4
import Derived.Test.YtjinaakebjfbiaaGreatDoorCa
import Derived.Lib.Join
namespace Go.Proofs.YtjinaakebjfbiaaGreatDoor
open Go.Ab

theorem splitC_app (c : UInt8) : ∀ (l r : List UInt8), (∀ b ∈ l, b ≠ c) → splitC c (l ++ c :: r) = l :: splitC c r
  | [], r, _ => by simp [splitC]
  | b :: l, r, h => by
    have hb : b ≠ c := h b (List.mem_cons_self ..)
    have ih := splitC_app c l r (fun x hx => h x (List.mem_cons_of_mem _ hx))
    simp only [List.cons_append, splitC, if_neg hb, ih]

theorem splitC_one (c : UInt8) : ∀ (l : List UInt8), (∀ b ∈ l, b ≠ c) → splitC c l = [l]
  | [], _ => rfl
  | b :: l, h => by
    have hb : b ≠ c := h b (List.mem_cons_self ..)
    have ih := splitC_one c l (fun x hx => h x (List.mem_cons_of_mem _ hx))
    simp only [splitC, if_neg hb, ih]

def remk : List UInt8 := [32, 35, 32, 97, 32, 114, 101, 109, 97, 114, 107]

/-- A word as the law takes it. -/
def plainW (w : List UInt8) : Prop := w ≠ [] ∧ w.getD 0 0 ≠ 35 ∧ (∀ b ∈ w, b ≠ 32) ∧ ∀ b ∈ w, b ≠ 10

theorem plain_prefix {w : List UInt8} (h : plainW w) : Lib.hasPrefix w [35] = false := by
  obtain ⟨h1, h2, _⟩ := h
  cases w with
  | nil => exact absurd rfl h1
  | cons b l =>
    have : b ≠ 35 := h2
    simp [Lib.hasPrefix, List.isPrefixOf, Ne.symm this]

end Go.Proofs.YtjinaakebjfbiaaGreatDoor

/-
  LexerBack, the plain law: words told with blanks between are read again as they are; lines ahead shift lines alone.
-/
namespace Go.Proofs.YtjinaakebjfbiaaGreatDoor
open Go.Ab

/-- A piece has no byte of the separator, and its bytes are the text's. -/
theorem splitC_no (c : UInt8) : ∀ (l p : List UInt8), p ∈ splitC c l → (∀ b ∈ p, b ≠ c) ∧ ∀ b ∈ p, b ∈ l
  | [], p, h => by
    simp only [splitC, List.mem_cons, List.mem_nil_iff, or_false] at h
    subst h
    exact ⟨fun b hb => absurd hb List.not_mem_nil, fun b hb => hb⟩
  | b :: l, p, h => by
    simp only [splitC] at h
    split at h
    · rcases List.mem_cons.1 h with rfl | h
      · exact ⟨fun b hb => absurd hb List.not_mem_nil, fun b hb => absurd hb List.not_mem_nil⟩
      · have := splitC_no c l p h
        exact ⟨this.1, fun x hx => List.mem_cons_of_mem _ (this.2 x hx)⟩
    · rename_i hb
      cases hs : splitC c l with
      | nil => exact absurd hs (splitC_ne c l)
      | cons q qs =>
        rw [hs] at h
        rcases List.mem_cons.1 h with rfl | h
        · have := splitC_no c l q (by rw [hs]; exact List.mem_cons_self ..)
          refine ⟨fun x hx => ?_, fun x hx => ?_⟩
          · rcases List.mem_cons.1 hx with rfl | hx
            · exact hb
            · exact this.1 x hx
          · rcases List.mem_cons.1 hx with rfl | hx
            · exact List.mem_cons_self ..
            · exact List.mem_cons_of_mem _ (this.2 x hx)
        · have := splitC_no c l p (by rw [hs]; exact List.mem_cons_of_mem _ h)
          exact ⟨this.1, fun x hx => List.mem_cons_of_mem _ (this.2 x hx)⟩

theorem wordsG_plain : ∀ (ps : List (List UInt8)) (k : Nat), (∀ p ∈ ps, (∀ b ∈ p, b ≠ 32) ∧ ∀ b ∈ p, b ≠ 10) → ∀ x ∈ wordsG k ps, plainW x.2
  | [], _, _, x, hx => by simp [wordsG] at hx
  | p :: ps, k, h, x, hx => by
    simp only [wordsG] at hx
    split at hx
    · cases hx
    · rename_i hp
      split at hx
      · exact wordsG_plain ps _ (fun q hq => h q (List.mem_cons_of_mem _ hq)) x hx
      · rename_i hne
        rcases List.mem_cons.1 hx with rfl | hx
        · refine ⟨hne, fun e => hp ?_, h p (List.mem_cons_self ..)⟩
          cases p with
          | nil => exact absurd rfl hne
          | cons b l =>
            have : b = 35 := e
            simp [Lib.hasPrefix, List.isPrefixOf, this]
        · exact wordsG_plain ps _ (fun q hq => h q (List.mem_cons_of_mem _ hq)) x hx

theorem wordsF_plain {p : List UInt8} (h : ∀ b ∈ p, b ≠ 10) : ∀ x ∈ wordsF p, plainW x.2 :=
  wordsG_plain _ _ fun q hq => ⟨(splitC_no 32 p q hq).1, fun b hb => h b ((splitC_no 32 p q hq).2 b hb)⟩

/-- What is known of a token that was read. -/
def goodT (t : TokR) : Prop := plainW t.w ∧ tokF t.w = some (t.k, t.n)

theorem toksF_good (n : Nat) : ∀ (ws : List (Nat × List UInt8)) (ts : List TokR), (∀ x ∈ ws, plainW x.2) → toksF n ws = .inr ts → ∀ t ∈ ts, goodT t
  | [], ts, _, h => by
    simp only [toksF, Sum.inr.injEq] at h
    subst h
    exact fun t ht => absurd ht List.not_mem_nil
  | (c, w) :: l, ts, hw, h => by
    simp only [toksF] at h
    split at h
    · cases h
    · rename_i k v hk
      split at h
      · cases h
      · rename_i ts' ht'
        simp only [Sum.inr.injEq] at h
        subst h
        intro t ht
        rcases List.mem_cons.1 ht with rfl | ht
        · exact ⟨hw (c, w) (List.mem_cons_self ..), hk⟩
        · exact toksF_good n l ts' (fun x hx => hw x (List.mem_cons_of_mem _ hx)) ht' t ht

theorem linesG_good : ∀ (ps : List (List UInt8)) (n : Nat) (r : List (List TokR)), (∀ p ∈ ps, ∀ b ∈ p, b ≠ 10) → linesG n ps = .inr r → ∀ l ∈ r, l ≠ [] ∧ ∀ t ∈ l, goodT t
  | [], n, r, _, h => by
    simp only [linesG, Sum.inr.injEq] at h
    subst h
    exact fun l hl => absurd hl List.not_mem_nil
  | p :: ps, n, r, hp, h => by
    simp only [linesG] at h
    split at h
    · cases h
    · rename_i ts ht
      split at h
      · cases h
      · rename_i r' hr
        have ih := linesG_good ps (n + 1) r' (fun q hq => hp q (List.mem_cons_of_mem _ hq)) hr
        have hg := toksF_good _ _ _ (wordsF_plain (hp p (List.mem_cons_self ..))) ht
        simp only [Sum.inr.injEq] at h
        split at h
        · subst h
          exact ih
        · rename_i hne
          subst h
          intro l hl
          rcases List.mem_cons.1 hl with rfl | hl
          · exact ⟨hne, hg⟩
          · exact ih l hl

theorem linesF_good {s : List UInt8} {r : List (List TokR)} (h : linesF s = .inr r) : ∀ l ∈ r, l ≠ [] ∧ ∀ t ∈ l, goodT t :=
  linesG_good _ 0 r (fun p hp => (splitC_no 10 s p hp).1) h

/-! Lines ahead. -/

def up2 (t : TokR) : TokR := { t with ln := t.ln + 2 }

end Go.Proofs.YtjinaakebjfbiaaGreatDoor

/-
  LexerBack, the plain law: words told with blanks between are read again.
-/
namespace Go.Proofs.YtjinaakebjfbiaaGreatDoor
open Go.Ab

def wordT (l : List TokR) : List UInt8 := Lib.join (l.map (·.w)) [32]
def toldT (r : List (List TokR)) : List UInt8 := Lib.join (r.map wordT) [10]

def reT (n : Nat) : Nat → List TokR → List TokR
  | _, [] => []
  | c, t :: l => ⟨t.k, t.w, t.n, n, c⟩ :: reT n (c + t.w.length + 1) l

def reL : Nat → List (List TokR) → List (List TokR)
  | _, [] => []
  | n, l :: r => reT (n + 1) 1 l :: reL (n + 1) r

theorem join_two (x y : List UInt8) (r : List (List UInt8)) (c : UInt8) : Lib.join (x :: y :: r) [c] = x ++ c :: Lib.join (y :: r) [c] := by
  rw [Lib.join_cons, Lib.join_cons]
  simp [Lib.joinTail]

theorem split_join (c : UInt8) : ∀ (xs : List (List UInt8)), xs ≠ [] → (∀ x ∈ xs, ∀ b ∈ x, b ≠ c) → splitC c (Lib.join xs [c]) = xs
  | [], h, _ => absurd rfl h
  | [x], _, h => by rw [Lib.join_one, splitC_one c x (h x (List.mem_cons_self ..))]
  | x :: y :: r, _, h => by
    rw [join_two, splitC_app c x _ (h x (List.mem_cons_self ..)), split_join c (y :: r) (by simp) fun z hz => h z (List.mem_cons_of_mem _ hz)]

theorem join_mem (c : UInt8) : ∀ (xs : List (List UInt8)) (b : UInt8), b ∈ Lib.join xs [c] → b = c ∨ ∃ x ∈ xs, b ∈ x
  | [], b, h => by rw [Lib.join_nil] at h; cases h
  | [x], b, h => by rw [Lib.join_one] at h; exact .inr ⟨x, List.mem_cons_self .., h⟩
  | x :: y :: r, b, h => by
    rw [join_two, List.mem_append, List.mem_cons] at h
    rcases h with h | h | h
    · exact .inr ⟨x, List.mem_cons_self .., h⟩
    · exact .inl h
    · rcases join_mem c (y :: r) b h with h | ⟨z, hz, hb⟩
      · exact .inl h
      · exact .inr ⟨z, List.mem_cons_of_mem _ hz, hb⟩

def posW : Nat → List (List UInt8) → List (Nat × List UInt8)
  | _, [] => []
  | k, w :: ws => (k + 1, w) :: posW (k + w.length + 1) ws

theorem wordsG_pos : ∀ (ws : List (List UInt8)) (k : Nat), (∀ w ∈ ws, plainW w) → wordsG k ws = posW k ws
  | [], _, _ => rfl
  | w :: ws, k, h => by
    have hw := h w (List.mem_cons_self ..)
    simp only [wordsG, posW, plain_prefix hw, if_neg hw.1]
    rw [wordsG_pos ws _ fun z hz => h z (List.mem_cons_of_mem _ hz)]
    simp

theorem toksF_pos (n : Nat) : ∀ (l : List TokR) (k : Nat), (∀ t ∈ l, goodT t) → toksF n (posW k (l.map (·.w))) = .inr (reT n (k + 1) l)
  | [], _, _ => rfl
  | t :: l, k, h => by
    have ht := h t (List.mem_cons_self ..)
    have ih := toksF_pos n l (k + t.w.length + 1) fun z hz => h z (List.mem_cons_of_mem _ hz)
    simp only [List.map_cons, posW, toksF, ht.2, ih, reT]
    rw [show k + t.w.length + 1 + 1 = k + 1 + t.w.length + 1 by omega]

theorem wordT_words {l : List TokR} (hne : l ≠ []) (h : ∀ t ∈ l, goodT t) : wordsF (wordT l) = posW 0 (l.map (·.w)) := by
  have hp : ∀ w ∈ l.map (·.w), plainW w := by
    intro w hw
    obtain ⟨t, ht, rfl⟩ := List.mem_map.1 hw
    exact (h t ht).1
  unfold wordsF wordT
  rw [split_join 32 _ (by simpa using hne) fun x hx => (hp x hx).2.2.1, wordsG_pos _ _ hp]

theorem wordT_no {l : List TokR} (h : ∀ t ∈ l, goodT t) : ∀ b ∈ wordT l, b ≠ 10 := by
  intro b hb
  rcases join_mem 32 _ b hb with rfl | ⟨x, hx, hbx⟩
  · decide
  · obtain ⟨t, ht, rfl⟩ := List.mem_map.1 hx
    exact (h t ht).1.2.2.2 b hbx

theorem reT_ne (n c : Nat) {l : List TokR} (h : l ≠ []) : reT n c l ≠ [] := by
  cases l with
  | nil => exact absurd rfl h
  | cons t l => simp [reT]

theorem linesG_told : ∀ (r : List (List TokR)) (n : Nat), (∀ l ∈ r, l ≠ [] ∧ ∀ t ∈ l, goodT t) → linesG n (r.map wordT) = .inr (reL n r)
  | [], _, _ => rfl
  | l :: r, n, h => by
    obtain ⟨h1, h2⟩ := h l (List.mem_cons_self ..)
    simp only [List.map_cons, linesG, wordT_words h1 h2, toksF_pos (n + 1) l 0 h2, linesG_told r (n + 1) fun z hz => h z (List.mem_cons_of_mem _ hz), reL]
    rw [if_neg (reT_ne _ _ h1)]

/-! How long it is. -/

def cntL (xs : List (List UInt8)) : Nat := (xs.map fun x => x.length + 1).sum

theorem join_cnt (c : UInt8) : ∀ xs : List (List UInt8), (Lib.join xs [c]).length ≤ cntL xs ∧ (xs ≠ [] → (Lib.join xs [c]).length + 1 = cntL xs)
  | [] => ⟨by simp [Lib.join_nil], fun h => absurd rfl h⟩
  | [x] => by simp [Lib.join_one, cntL]
  | x :: y :: r => by
    have ih := (join_cnt c (y :: r)).2 (by simp)
    have e : cntL (x :: y :: r) = x.length + 1 + cntL (y :: r) := rfl
    have e2 : (Lib.join (x :: y :: r) [c]).length = x.length + ((Lib.join (y :: r) [c]).length + 1) := by rw [join_two]; simp
    exact ⟨by omega, fun _ => by omega⟩

theorem splitC_cnt (c : UInt8) (l : List UInt8) : cntL (splitC c l) = l.length + 1 := by
  rw [← splitC_len c l]
  unfold cntL
  induction splitC c l with
  | nil => rfl
  | cons x xs ih => simp only [List.map_cons, List.sum_cons, List.length_cons, ih]; omega

theorem wordsG_cnt : ∀ (ps : List (List UInt8)) (k : Nat), cntL ((wordsG k ps).map (·.2)) ≤ cntL ps
  | [], _ => Nat.le_refl _
  | p :: ps, k => by
    have e : cntL (p :: ps) = p.length + 1 + cntL ps := rfl
    simp only [wordsG]
    split
    · exact Nat.zero_le _
    · split
      · have := wordsG_cnt ps (k + 1)
        omega
      · have := wordsG_cnt ps (k + p.length + 1)
        have e2 : cntL (((k + 1, p) :: wordsG (k + p.length + 1) ps).map (·.2)) = p.length + 1 + cntL ((wordsG (k + p.length + 1) ps).map (·.2)) := rfl
        omega

theorem toksF_words (n : Nat) : ∀ (ws : List (Nat × List UInt8)) (ts : List TokR), toksF n ws = .inr ts → ts.map (·.w) = ws.map (·.2)
  | [], ts, h => by
    simp only [toksF, Sum.inr.injEq] at h
    subst h
    rfl
  | (c, w) :: l, ts, h => by
    simp only [toksF] at h
    split at h
    · cases h
    · split at h
      · cases h
      · rename_i ts' ht'
        simp only [Sum.inr.injEq] at h
        subst h
        simp [toksF_words n l ts' ht']

theorem linesG_cnt : ∀ (ps : List (List UInt8)) (n : Nat) (r : List (List TokR)), linesG n ps = .inr r → cntL (r.map wordT) ≤ cntL ps
  | [], n, r, h => by
    simp only [linesG, Sum.inr.injEq] at h
    subst h
    exact Nat.le_refl _
  | p :: ps, n, r, h => by
    have e : cntL (p :: ps) = p.length + 1 + cntL ps := rfl
    simp only [linesG] at h
    split at h
    · cases h
    · rename_i ts ht
      split at h
      · cases h
      · rename_i r' hr
        have ih := linesG_cnt ps (n + 1) r' hr
        simp only [Sum.inr.injEq] at h
        split at h
        · subst h
          omega
        · rename_i hne
          subst h
          have h1 := (join_cnt 32 (ts.map (·.w))).2 (by simpa using hne)
          have h2 : cntL (ts.map (·.w)) ≤ p.length + 1 := by
            rw [toksF_words _ _ _ ht, ← splitC_cnt 32 p]
            exact wordsG_cnt _ _
          have e2 : cntL ((ts :: r').map wordT) = (wordT ts).length + 1 + cntL (r'.map wordT) := rfl
          have e3 : (wordT ts).length = (Lib.join (ts.map (·.w)) [32]).length := rfl
          omega

theorem told_len {s : List UInt8} {r : List (List TokR)} (h : linesF s = .inr r) : cntL (r.map wordT) ≤ s.length + 1 := by
  rw [← splitC_cnt 10 s]
  exact linesG_cnt _ _ _ h

theorem cnt_mem : ∀ {xs : List (List UInt8)} {x : List UInt8}, x ∈ xs → x.length + 1 ≤ cntL xs
  | [], _, h => absurd h List.not_mem_nil
  | y :: ys, x, h => by
    have e : cntL (y :: ys) = y.length + 1 + cntL ys := rfl
    rcases List.mem_cons.1 h with rfl | h
    · omega
    · have := cnt_mem h
      omega

/-! What the told words are. -/

end Go.Proofs.YtjinaakebjfbiaaGreatDoor
