/-
  LexerBack, the plain law: words told with blanks between are read again.
-/
import Derived.Test.YtgbmanmcioailaaDoorBk1
namespace Go.Proofs.YtgbmanmcioailaaDoor
open Go.Ab

def wordT (l : List TokR) : List UInt8 := Lib.join (l.map (·.w)) [32]
def toldT (r : List (List TokR)) : List UInt8 := Lib.join (r.map wordT) [10]

def reT (n : Nat) : Nat → List TokR → List TokR
  | _, [] => []
  | c, t :: l => ⟨t.k, t.w, t.n, n, c⟩ :: reT n (c + t.w.length + 1) l

def reL : Nat → List (List TokR) → List (List TokR)
  | _, [] => []
  | n, l :: r => reT (n + 1) 1 l :: reL (n + 1) r

theorem join_two (x y : List UInt8) (r : List (List UInt8)) (c : UInt8) : Lib.join (x :: y :: r) [c] = x ++ c :: Lib.join (y :: r) [c] := by
  rw [Lib.join_cons, Lib.join_cons]
  simp [Lib.joinTail]

theorem split_join (c : UInt8) : ∀ (xs : List (List UInt8)), xs ≠ [] → (∀ x ∈ xs, ∀ b ∈ x, b ≠ c) → splitC c (Lib.join xs [c]) = xs
  | [], h, _ => absurd rfl h
  | [x], _, h => by rw [Lib.join_one, splitC_one c x (h x (List.mem_cons_self ..))]
  | x :: y :: r, _, h => by
    rw [join_two, splitC_app c x _ (h x (List.mem_cons_self ..)), split_join c (y :: r) (by simp) fun z hz => h z (List.mem_cons_of_mem _ hz)]

theorem join_mem (c : UInt8) : ∀ (xs : List (List UInt8)) (b : UInt8), b ∈ Lib.join xs [c] → b = c ∨ ∃ x ∈ xs, b ∈ x
  | [], b, h => by rw [Lib.join_nil] at h; cases h
  | [x], b, h => by rw [Lib.join_one] at h; exact .inr ⟨x, List.mem_cons_self .., h⟩
  | x :: y :: r, b, h => by
    rw [join_two, List.mem_append, List.mem_cons] at h
    rcases h with h | h | h
    · exact .inr ⟨x, List.mem_cons_self .., h⟩
    · exact .inl h
    · rcases join_mem c (y :: r) b h with h | ⟨z, hz, hb⟩
      · exact .inl h
      · exact .inr ⟨z, List.mem_cons_of_mem _ hz, hb⟩

def posW : Nat → List (List UInt8) → List (Nat × List UInt8)
  | _, [] => []
  | k, w :: ws => (k + 1, w) :: posW (k + w.length + 1) ws

theorem wordsG_pos : ∀ (ws : List (List UInt8)) (k : Nat), (∀ w ∈ ws, plainW w) → wordsG k ws = posW k ws
  | [], _, _ => rfl
  | w :: ws, k, h => by
    have hw := h w (List.mem_cons_self ..)
    simp only [wordsG, posW, plain_prefix hw, if_neg hw.1]
    rw [wordsG_pos ws _ fun z hz => h z (List.mem_cons_of_mem _ hz)]
    simp

theorem toksF_pos (n : Nat) : ∀ (l : List TokR) (k : Nat), (∀ t ∈ l, goodT t) → toksF n (posW k (l.map (·.w))) = .inr (reT n (k + 1) l)
  | [], _, _ => rfl
  | t :: l, k, h => by
    have ht := h t (List.mem_cons_self ..)
    have ih := toksF_pos n l (k + t.w.length + 1) fun z hz => h z (List.mem_cons_of_mem _ hz)
    simp only [List.map_cons, posW, toksF, ht.2, ih, reT]
    rw [show k + t.w.length + 1 + 1 = k + 1 + t.w.length + 1 by omega]

theorem wordT_words {l : List TokR} (hne : l ≠ []) (h : ∀ t ∈ l, goodT t) : wordsF (wordT l) = posW 0 (l.map (·.w)) := by
  have hp : ∀ w ∈ l.map (·.w), plainW w := by
    intro w hw
    obtain ⟨t, ht, rfl⟩ := List.mem_map.1 hw
    exact (h t ht).1
  unfold wordsF wordT
  rw [split_join 32 _ (by simpa using hne) fun x hx => (hp x hx).2.2.1, wordsG_pos _ _ hp]

theorem wordT_no {l : List TokR} (h : ∀ t ∈ l, goodT t) : ∀ b ∈ wordT l, b ≠ 10 := by
  intro b hb
  rcases join_mem 32 _ b hb with rfl | ⟨x, hx, hbx⟩
  · decide
  · obtain ⟨t, ht, rfl⟩ := List.mem_map.1 hx
    exact (h t ht).1.2.2.2 b hbx

theorem reT_ne (n c : Nat) {l : List TokR} (h : l ≠ []) : reT n c l ≠ [] := by
  cases l with
  | nil => exact absurd rfl h
  | cons t l => simp [reT]

theorem linesG_told : ∀ (r : List (List TokR)) (n : Nat), (∀ l ∈ r, l ≠ [] ∧ ∀ t ∈ l, goodT t) → linesG n (r.map wordT) = .inr (reL n r)
  | [], _, _ => rfl
  | l :: r, n, h => by
    obtain ⟨h1, h2⟩ := h l (List.mem_cons_self ..)
    simp only [List.map_cons, linesG, wordT_words h1 h2, toksF_pos (n + 1) l 0 h2, linesG_told r (n + 1) fun z hz => h z (List.mem_cons_of_mem _ hz), reL]
    rw [if_neg (reT_ne _ _ h1)]

theorem told_lines {r : List (List TokR)} (h : ∀ l ∈ r, l ≠ [] ∧ ∀ t ∈ l, goodT t) : linesF (toldT r) = .inr (reL 0 r) := by
  unfold linesF toldT
  cases r with
  | nil => kernel_rfl
  | cons l r =>
    rw [split_join 10 _ (by simp) ?_, linesG_told _ _ h]
    intro x hx
    obtain ⟨z, hz, rfl⟩ := List.mem_map.1 hx
    exact wordT_no (h z hz).2

/-! How long it is. -/

def cntL (xs : List (List UInt8)) : Nat := (xs.map fun x => x.length + 1).sum

theorem join_cnt (c : UInt8) : ∀ xs : List (List UInt8), (Lib.join xs [c]).length ≤ cntL xs ∧ (xs ≠ [] → (Lib.join xs [c]).length + 1 = cntL xs)
  | [] => ⟨by simp [Lib.join_nil], fun h => absurd rfl h⟩
  | [x] => by simp [Lib.join_one, cntL]
  | x :: y :: r => by
    have ih := (join_cnt c (y :: r)).2 (by simp)
    have e : cntL (x :: y :: r) = x.length + 1 + cntL (y :: r) := rfl
    have e2 : (Lib.join (x :: y :: r) [c]).length = x.length + ((Lib.join (y :: r) [c]).length + 1) := by rw [join_two]; simp
    exact ⟨by omega, fun _ => by omega⟩

theorem splitC_cnt (c : UInt8) (l : List UInt8) : cntL (splitC c l) = l.length + 1 := by
  rw [← splitC_len c l]
  unfold cntL
  induction splitC c l with
  | nil => rfl
  | cons x xs ih => simp only [List.map_cons, List.sum_cons, List.length_cons, ih]; omega

theorem wordsG_cnt : ∀ (ps : List (List UInt8)) (k : Nat), cntL ((wordsG k ps).map (·.2)) ≤ cntL ps
  | [], _ => Nat.le_refl _
  | p :: ps, k => by
    have e : cntL (p :: ps) = p.length + 1 + cntL ps := rfl
    simp only [wordsG]
    split
    · exact Nat.zero_le _
    · split
      · have := wordsG_cnt ps (k + 1)
        omega
      · have := wordsG_cnt ps (k + p.length + 1)
        have e2 : cntL (((k + 1, p) :: wordsG (k + p.length + 1) ps).map (·.2)) = p.length + 1 + cntL ((wordsG (k + p.length + 1) ps).map (·.2)) := rfl
        omega

theorem toksF_words (n : Nat) : ∀ (ws : List (Nat × List UInt8)) (ts : List TokR), toksF n ws = .inr ts → ts.map (·.w) = ws.map (·.2)
  | [], ts, h => by
    simp only [toksF, Sum.inr.injEq] at h
    subst h
    rfl
  | (c, w) :: l, ts, h => by
    simp only [toksF] at h
    split at h
    · cases h
    · split at h
      · cases h
      · rename_i ts' ht'
        simp only [Sum.inr.injEq] at h
        subst h
        simp [toksF_words n l ts' ht']

theorem linesG_cnt : ∀ (ps : List (List UInt8)) (n : Nat) (r : List (List TokR)), linesG n ps = .inr r → cntL (r.map wordT) ≤ cntL ps
  | [], n, r, h => by
    simp only [linesG, Sum.inr.injEq] at h
    subst h
    exact Nat.le_refl _
  | p :: ps, n, r, h => by
    have e : cntL (p :: ps) = p.length + 1 + cntL ps := rfl
    simp only [linesG] at h
    split at h
    · cases h
    · rename_i ts ht
      split at h
      · cases h
      · rename_i r' hr
        have ih := linesG_cnt ps (n + 1) r' hr
        simp only [Sum.inr.injEq] at h
        split at h
        · subst h
          omega
        · rename_i hne
          subst h
          have h1 := (join_cnt 32 (ts.map (·.w))).2 (by simpa using hne)
          have h2 : cntL (ts.map (·.w)) ≤ p.length + 1 := by
            rw [toksF_words _ _ _ ht, ← splitC_cnt 32 p]
            exact wordsG_cnt _ _
          have e2 : cntL ((ts :: r').map wordT) = (wordT ts).length + 1 + cntL (r'.map wordT) := rfl
          have e3 : (wordT ts).length = (Lib.join (ts.map (·.w)) [32]).length := rfl
          omega

theorem told_len {s : List UInt8} {r : List (List TokR)} (h : linesF s = .inr r) : cntL (r.map wordT) ≤ s.length + 1 := by
  rw [← splitC_cnt 10 s]
  exact linesG_cnt _ _ _ h

theorem toldT_len {s : List UInt8} {r : List (List TokR)} (h : linesF s = .inr r) : (toldT r).length ≤ s.length + 1 :=
  Nat.le_trans (join_cnt 10 _).1 (told_len h)

theorem cnt_mem : ∀ {xs : List (List UInt8)} {x : List UInt8}, x ∈ xs → x.length + 1 ≤ cntL xs
  | [], _, h => absurd h List.not_mem_nil
  | y :: ys, x, h => by
    have e : cntL (y :: ys) = y.length + 1 + cntL ys := rfl
    rcases List.mem_cons.1 h with rfl | h
    · omega
    · have := cnt_mem h
      omega

/-! What the told words are. -/

theorem reT_len (n : Nat) : ∀ (l : List TokR) (c : Nat), (reT n c l).length = l.length
  | [], _ => rfl
  | t :: l, c => by simp [reT, reT_len n l]

theorem reL_len : ∀ (r : List (List TokR)) (n : Nat), (reL n r).length = r.length
  | [], _ => rfl
  | l :: r, n => by simp [reL, reL_len r]

theorem reT_get (n : Nat) : ∀ (l : List TokR) (c k : Nat), k < l.length → ∃ c', (reT n c l).getD k default = ⟨(l.getD k default).k, (l.getD k default).w, (l.getD k default).n, n, c'⟩
  | [], _, k, h => by simp at h
  | t :: l, c, 0, _ => ⟨c, rfl⟩
  | t :: l, c, k + 1, h => by
    obtain ⟨c', e⟩ := reT_get n l (c + t.w.length + 1) k (by simpa using h)
    exact ⟨c', by simpa [reT, List.getD] using e⟩

theorem reL_get : ∀ (r : List (List TokR)) (n i : Nat), i < r.length → (reL n r).getD i default = reT (n + i + 1) 1 (r.getD i default)
  | [], _, i, h => by simp at h
  | l :: r, n, 0, _ => rfl
  | l :: r, n, i + 1, h => by
    have := reL_get r (n + 1) i (by simpa using h)
    rw [show n + (i + 1) + 1 = n + 1 + i + 1 by omega]
    simpa [reL, List.getD] using this

end Go.Proofs.YtgbmanmcioailaaDoor
