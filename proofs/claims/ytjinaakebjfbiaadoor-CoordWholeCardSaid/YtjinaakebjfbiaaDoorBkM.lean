/-
  LexerWord: a script of one word, and of two. The plain law.
-/
import Derived.Test.YtjinaakebjfbiaaDoorLx4
import Derived.Test.YtjinaakebjfbiaaDoorCa
import Derived.Lib.Join
namespace Go.Proofs.YtjinaakebjfbiaaDoor
open Go.Ab

theorem splitC_app (c : UInt8) : ∀ (l r : List UInt8), (∀ b ∈ l, b ≠ c) → splitC c (l ++ c :: r) = l :: splitC c r
  | [], r, _ => by simp [splitC]
  | b :: l, r, h => by
    have hb : b ≠ c := h b (List.mem_cons_self ..)
    have ih := splitC_app c l r (fun x hx => h x (List.mem_cons_of_mem _ hx))
    simp only [List.cons_append, splitC, if_neg hb, ih]

theorem splitC_one (c : UInt8) : ∀ (l : List UInt8), (∀ b ∈ l, b ≠ c) → splitC c l = [l]
  | [], _ => rfl
  | b :: l, h => by
    have hb : b ≠ c := h b (List.mem_cons_self ..)
    have ih := splitC_one c l (fun x hx => h x (List.mem_cons_of_mem _ hx))
    simp only [splitC, if_neg hb, ih]

def remk : List UInt8 := [32, 35, 32, 97, 32, 114, 101, 109, 97, 114, 107]

/-- A word as the law takes it. -/
def plainW (w : List UInt8) : Prop := w ≠ [] ∧ w.getD 0 0 ≠ 35 ∧ (∀ b ∈ w, b ≠ 32) ∧ ∀ b ∈ w, b ≠ 10

theorem plain_prefix {w : List UInt8} (h : plainW w) : Lib.hasPrefix w [35] = false := by
  obtain ⟨h1, h2, _⟩ := h
  cases w with
  | nil => exact absurd rfl h1
  | cons b l =>
    have : b ≠ 35 := h2
    simp [Lib.hasPrefix, List.isPrefixOf, Ne.symm this]

theorem line1_words {w : List UInt8} (h : plainW w) : wordsF ([32, 32] ++ w ++ remk) = [(3, w)] := by
  have e : splitC 32 ([32, 32] ++ w ++ remk) = [] :: [] :: w :: splitC 32 [35, 32, 97, 32, 114, 101, 109, 97, 114, 107] := by
    have : splitC 32 (w ++ 32 :: [35, 32, 97, 32, 114, 101, 109, 97, 114, 107]) = w :: splitC 32 [35, 32, 97, 32, 114, 101, 109, 97, 114, 107] := splitC_app 32 w _ h.2.2.1
    show splitC 32 (32 :: 32 :: (w ++ remk)) = _
    simp only [splitC, if_true]
    exact congrArg (fun x => [] :: [] :: x) this
  have e2 : splitC 32 [35, 32, 97, 32, 114, 101, 109, 97, 114, 107] = [[35], [97], [114, 101, 109, 97, 114, 107]] := by kernel_rfl
  unfold wordsF
  rw [e, e2]
  simp only [wordsG, plain_prefix h, h.1]
  rfl

theorem line1_split {w : List UInt8} (h : plainW w) : splitC 10 ([32, 32] ++ w ++ remk) = [[32, 32] ++ w ++ remk] := by
  refine splitC_one 10 _ fun b hb => ?_
  simp only [remk, List.mem_append, List.mem_cons, List.mem_nil_iff, or_false] at hb
  rcases hb with ((rfl | rfl) | hb) | rfl | rfl | rfl | rfl | rfl | rfl | rfl | rfl | rfl | rfl | rfl
  all_goals first | exact h.2.2.2 b hb | decide

theorem line1_some {w : List UInt8} (h : plainW w) (hl : w.length ≤ 100) {k n : Int} (ht : tokF w = some (k, n)) : linesR ([32, 32] ++ w ++ remk) = .tuple [linesV [[⟨k, w, n, 1, 3⟩]], placeV 0 0, .int .i64 0] := by
  refine linesR_inr (by simp [remk]; omega) ?_
  unfold linesF
  rw [line1_split h]
  simp only [linesG, line1_words h, toksF, ht]
  rfl

theorem line1_none {w : List UInt8} (h : plainW w) (hl : w.length ≤ 100) (ht : tokF w = none) : linesR ([32, 32] ++ w ++ remk) = .tuple [linesV [], placeV 1 3, .int .i64 4] := by
  refine linesR_inl (l := 1) (c := 3) (by simp [remk]; omega) ?_
  unfold linesF
  rw [line1_split h]
  simp only [linesG, line1_words h, toksF, ht]

theorem line2_words {w x : List UInt8} (h : plainW w) (g : plainW x) : wordsF (w ++ [32] ++ x) = [(1, w), (w.length + 2, x)] := by
  have e : splitC 32 (w ++ [32] ++ x) = [w, x] := by
    rw [List.append_assoc]
    show splitC 32 (w ++ 32 :: x) = _
    rw [splitC_app 32 w _ h.2.2.1, splitC_one 32 x g.2.2.1]
  unfold wordsF
  rw [e]
  simp only [wordsG, plain_prefix h, plain_prefix g, h.1, g.1]
  simp

theorem line2_split {w x : List UInt8} (h : plainW w) (g : plainW x) : splitC 10 (w ++ [32] ++ x) = [w ++ [32] ++ x] := by
  refine splitC_one 10 _ fun b hb => ?_
  simp only [List.mem_append, List.mem_cons, List.mem_nil_iff, or_false] at hb
  rcases hb with (hb | rfl) | hb
  · exact h.2.2.2 b hb
  · decide
  · exact g.2.2.2 b hb

theorem line2_some {w x : List UInt8} (h : plainW w) (g : plainW x) (hl : w.length ≤ 100) (gl : x.length ≤ 100) {k n k' n' : Int} (ht : tokF w = some (k, n)) (gt : tokF x = some (k', n')) :
    linesR (w ++ [32] ++ x) = .tuple [linesV [[⟨k, w, n, 1, 1⟩, ⟨k', x, n', 1, w.length + 2⟩]], placeV 0 0, .int .i64 0] := by
  refine linesR_inr (by simp; omega) ?_
  unfold linesF
  rw [line2_split h g]
  simp only [linesG, line2_words h g, toksF, ht, gt]
  rfl

theorem line2_none {w x : List UInt8} (h : plainW w) (g : plainW x) (hl : w.length ≤ 100) (gl : x.length ≤ 100) {k n : Int} (ht : tokF w = some (k, n)) (gt : tokF x = none) :
    linesR (w ++ [32] ++ x) = .tuple [linesV [], placeV 1 ((w.length + 2 : Nat) : Int), .int .i64 4] := by
  refine linesR_inl (l := 1) (c := w.length + 2) (by simp; omega) ?_
  unfold linesF
  rw [line2_split h g]
  simp only [linesG, line2_words h g, toksF, ht, gt]

theorem plain_of {w x : List UInt8} (h : anyF (w ++ x) = false) : (∀ b ∈ w, b ≠ 32) ∧ (∀ b ∈ w, b ≠ 10) ∧ (∀ b ∈ x, b ≠ 32) ∧ ∀ b ∈ x, b ≠ 10 := by
  unfold anyF at h
  rw [List.any_eq_false] at h
  refine ⟨fun b hb e => ?_, fun b hb e => ?_, fun b hb e => ?_, fun b hb e => ?_⟩
  · exact h b (List.mem_append.2 (.inl hb)) (by simp [e])
  · exact h b (List.mem_append.2 (.inl hb)) (by simp [e])
  · exact h b (List.mem_append.2 (.inr hb)) (by simp [e])
  · exact h b (List.mem_append.2 (.inr hb)) (by simp [e])

end Go.Proofs.YtjinaakebjfbiaaDoor

/-
  LexerBack, the plain law: words told with blanks between are read again as they are; lines ahead shift lines alone.
-/
namespace Go.Proofs.YtjinaakebjfbiaaDoor
open Go.Ab

/-- A piece has no byte of the separator, and its bytes are the text's. -/
theorem splitC_no (c : UInt8) : ∀ (l p : List UInt8), p ∈ splitC c l → (∀ b ∈ p, b ≠ c) ∧ ∀ b ∈ p, b ∈ l
  | [], p, h => by
    simp only [splitC, List.mem_cons, List.mem_nil_iff, or_false] at h
    subst h
    exact ⟨fun b hb => absurd hb List.not_mem_nil, fun b hb => hb⟩
  | b :: l, p, h => by
    simp only [splitC] at h
    split at h
    · rcases List.mem_cons.1 h with rfl | h
      · exact ⟨fun b hb => absurd hb List.not_mem_nil, fun b hb => absurd hb List.not_mem_nil⟩
      · have := splitC_no c l p h
        exact ⟨this.1, fun x hx => List.mem_cons_of_mem _ (this.2 x hx)⟩
    · rename_i hb
      cases hs : splitC c l with
      | nil => exact absurd hs (splitC_ne c l)
      | cons q qs =>
        rw [hs] at h
        rcases List.mem_cons.1 h with rfl | h
        · have := splitC_no c l q (by rw [hs]; exact List.mem_cons_self ..)
          refine ⟨fun x hx => ?_, fun x hx => ?_⟩
          · rcases List.mem_cons.1 hx with rfl | hx
            · exact hb
            · exact this.1 x hx
          · rcases List.mem_cons.1 hx with rfl | hx
            · exact List.mem_cons_self ..
            · exact List.mem_cons_of_mem _ (this.2 x hx)
        · have := splitC_no c l p (by rw [hs]; exact List.mem_cons_of_mem _ h)
          exact ⟨this.1, fun x hx => List.mem_cons_of_mem _ (this.2 x hx)⟩

theorem wordsG_plain : ∀ (ps : List (List UInt8)) (k : Nat), (∀ p ∈ ps, (∀ b ∈ p, b ≠ 32) ∧ ∀ b ∈ p, b ≠ 10) → ∀ x ∈ wordsG k ps, plainW x.2
  | [], _, _, x, hx => by simp [wordsG] at hx
  | p :: ps, k, h, x, hx => by
    simp only [wordsG] at hx
    split at hx
    · cases hx
    · rename_i hp
      split at hx
      · exact wordsG_plain ps _ (fun q hq => h q (List.mem_cons_of_mem _ hq)) x hx
      · rename_i hne
        rcases List.mem_cons.1 hx with rfl | hx
        · refine ⟨hne, fun e => hp ?_, h p (List.mem_cons_self ..)⟩
          cases p with
          | nil => exact absurd rfl hne
          | cons b l =>
            have : b = 35 := e
            simp [Lib.hasPrefix, List.isPrefixOf, this]
        · exact wordsG_plain ps _ (fun q hq => h q (List.mem_cons_of_mem _ hq)) x hx

theorem wordsF_plain {p : List UInt8} (h : ∀ b ∈ p, b ≠ 10) : ∀ x ∈ wordsF p, plainW x.2 :=
  wordsG_plain _ _ fun q hq => ⟨(splitC_no 32 p q hq).1, fun b hb => h b ((splitC_no 32 p q hq).2 b hb)⟩

/-- What is known of a token that was read. -/
def goodT (t : TokR) : Prop := plainW t.w ∧ tokF t.w = some (t.k, t.n)

theorem toksF_good (n : Nat) : ∀ (ws : List (Nat × List UInt8)) (ts : List TokR), (∀ x ∈ ws, plainW x.2) → toksF n ws = .inr ts → ∀ t ∈ ts, goodT t
  | [], ts, _, h => by
    simp only [toksF, Sum.inr.injEq] at h
    subst h
    exact fun t ht => absurd ht List.not_mem_nil
  | (c, w) :: l, ts, hw, h => by
    simp only [toksF] at h
    split at h
    · cases h
    · rename_i k v hk
      split at h
      · cases h
      · rename_i ts' ht'
        simp only [Sum.inr.injEq] at h
        subst h
        intro t ht
        rcases List.mem_cons.1 ht with rfl | ht
        · exact ⟨hw (c, w) (List.mem_cons_self ..), hk⟩
        · exact toksF_good n l ts' (fun x hx => hw x (List.mem_cons_of_mem _ hx)) ht' t ht

theorem linesG_good : ∀ (ps : List (List UInt8)) (n : Nat) (r : List (List TokR)), (∀ p ∈ ps, ∀ b ∈ p, b ≠ 10) → linesG n ps = .inr r → ∀ l ∈ r, l ≠ [] ∧ ∀ t ∈ l, goodT t
  | [], n, r, _, h => by
    simp only [linesG, Sum.inr.injEq] at h
    subst h
    exact fun l hl => absurd hl List.not_mem_nil
  | p :: ps, n, r, hp, h => by
    simp only [linesG] at h
    split at h
    · cases h
    · rename_i ts ht
      split at h
      · cases h
      · rename_i r' hr
        have ih := linesG_good ps (n + 1) r' (fun q hq => hp q (List.mem_cons_of_mem _ hq)) hr
        have hg := toksF_good _ _ _ (wordsF_plain (hp p (List.mem_cons_self ..))) ht
        simp only [Sum.inr.injEq] at h
        split at h
        · subst h
          exact ih
        · rename_i hne
          subst h
          intro l hl
          rcases List.mem_cons.1 hl with rfl | hl
          · exact ⟨hne, hg⟩
          · exact ih l hl

theorem linesF_good {s : List UInt8} {r : List (List TokR)} (h : linesF s = .inr r) : ∀ l ∈ r, l ≠ [] ∧ ∀ t ∈ l, goodT t :=
  linesG_good _ 0 r (fun p hp => (splitC_no 10 s p hp).1) h

/-! Lines ahead. -/

def up2 (t : TokR) : TokR := { t with ln := t.ln + 2 }

theorem toksF_up (n : Nat) : ∀ (ws : List (Nat × List UInt8)) (ts : List TokR), toksF n ws = .inr ts → toksF (n + 2) ws = .inr (ts.map up2)
  | [], ts, h => by
    simp only [toksF, Sum.inr.injEq] at h ⊢
    subst h
    rfl
  | (c, w) :: l, ts, h => by
    simp only [toksF] at h ⊢
    split at h
    · cases h
    · rename_i k v hk
      split at h
      · cases h
      · rename_i ts' ht'
        simp only [Sum.inr.injEq] at h
        subst h
        rw [toksF_up n l ts' ht']
        rfl

theorem linesG_up : ∀ (ps : List (List UInt8)) (n : Nat) (r : List (List TokR)), linesG n ps = .inr r → linesG (n + 2) ps = .inr (r.map fun l => l.map up2)
  | [], n, r, h => by
    simp only [linesG, Sum.inr.injEq] at h ⊢
    subst h
    rfl
  | p :: ps, n, r, h => by
    simp only [linesG] at h ⊢
    split at h
    · cases h
    · rename_i ts ht
      split at h
      · cases h
      · rename_i r' hr
        simp only [Sum.inr.injEq] at h
        have e1 := toksF_up (n + 1) _ ts ht
        have e2 := linesG_up ps (n + 1) r' hr
        rw [show n + 2 + 1 = n + 1 + 2 by omega, e1, e2]
        split at h
        · rename_i hn
          subst h
          subst hn
          rfl
        · rename_i hn
          subst h
          simp [hn]

theorem ahead_lines {s remark : List UInt8} {r : List (List TokR)} (hr : ∀ b ∈ remark, b ≠ 10) (h : linesF s = .inr r) : linesF ([32, 32, 32, 10, 35] ++ remark ++ [10] ++ s) = .inr (r.map fun l => l.map up2) := by
  have e : splitC 10 ([32, 32, 32, 10, 35] ++ remark ++ [10] ++ s) = [32, 32, 32] :: (35 :: remark) :: splitC 10 s := by
    have e1 : [32, 32, 32, 10, 35] ++ remark ++ [10] ++ s = [32, 32, 32] ++ 10 :: ((35 :: remark) ++ 10 :: s) := by simp
    rw [e1, splitC_app 10 [32, 32, 32] _ (by decide), splitC_app 10 (35 :: remark) s]
    intro b hb
    rcases List.mem_cons.1 hb with rfl | hb
    · decide
    · exact hr b hb
  have w1 : wordsF [32, 32, 32] = [] := by kernel_rfl
  have w2 : wordsF (35 :: remark) = [] := by
    unfold wordsF
    simp only [splitC, show ¬ (35 : UInt8) = 32 by decide, if_false]
    cases hs : splitC 32 remark with
    | nil => rfl
    | cons q qs =>
      simp only [wordsG]
      rw [if_pos]
      simp [Lib.hasPrefix, List.isPrefixOf]
  unfold linesF at h ⊢
  rw [e]
  simp only [linesG, w1, w2, toksF]
  rw [linesG_up _ _ _ h]
  simp

end Go.Proofs.YtjinaakebjfbiaaDoor

/-
  LexerBack, the plain law: words told with blanks between are read again.
-/
namespace Go.Proofs.YtjinaakebjfbiaaDoor
open Go.Ab

def wordT (l : List TokR) : List UInt8 := Lib.join (l.map (·.w)) [32]
def toldT (r : List (List TokR)) : List UInt8 := Lib.join (r.map wordT) [10]

def reT (n : Nat) : Nat → List TokR → List TokR
  | _, [] => []
  | c, t :: l => ⟨t.k, t.w, t.n, n, c⟩ :: reT n (c + t.w.length + 1) l

def reL : Nat → List (List TokR) → List (List TokR)
  | _, [] => []
  | n, l :: r => reT (n + 1) 1 l :: reL (n + 1) r

theorem join_two (x y : List UInt8) (r : List (List UInt8)) (c : UInt8) : Lib.join (x :: y :: r) [c] = x ++ c :: Lib.join (y :: r) [c] := by
  rw [Lib.join_cons, Lib.join_cons]
  simp [Lib.joinTail]

theorem split_join (c : UInt8) : ∀ (xs : List (List UInt8)), xs ≠ [] → (∀ x ∈ xs, ∀ b ∈ x, b ≠ c) → splitC c (Lib.join xs [c]) = xs
  | [], h, _ => absurd rfl h
  | [x], _, h => by rw [Lib.join_one, splitC_one c x (h x (List.mem_cons_self ..))]
  | x :: y :: r, _, h => by
    rw [join_two, splitC_app c x _ (h x (List.mem_cons_self ..)), split_join c (y :: r) (by simp) fun z hz => h z (List.mem_cons_of_mem _ hz)]

theorem join_mem (c : UInt8) : ∀ (xs : List (List UInt8)) (b : UInt8), b ∈ Lib.join xs [c] → b = c ∨ ∃ x ∈ xs, b ∈ x
  | [], b, h => by rw [Lib.join_nil] at h; cases h
  | [x], b, h => by rw [Lib.join_one] at h; exact .inr ⟨x, List.mem_cons_self .., h⟩
  | x :: y :: r, b, h => by
    rw [join_two, List.mem_append, List.mem_cons] at h
    rcases h with h | h | h
    · exact .inr ⟨x, List.mem_cons_self .., h⟩
    · exact .inl h
    · rcases join_mem c (y :: r) b h with h | ⟨z, hz, hb⟩
      · exact .inl h
      · exact .inr ⟨z, List.mem_cons_of_mem _ hz, hb⟩

def posW : Nat → List (List UInt8) → List (Nat × List UInt8)
  | _, [] => []
  | k, w :: ws => (k + 1, w) :: posW (k + w.length + 1) ws

theorem wordsG_pos : ∀ (ws : List (List UInt8)) (k : Nat), (∀ w ∈ ws, plainW w) → wordsG k ws = posW k ws
  | [], _, _ => rfl
  | w :: ws, k, h => by
    have hw := h w (List.mem_cons_self ..)
    simp only [wordsG, posW, plain_prefix hw, if_neg hw.1]
    rw [wordsG_pos ws _ fun z hz => h z (List.mem_cons_of_mem _ hz)]
    simp

theorem toksF_pos (n : Nat) : ∀ (l : List TokR) (k : Nat), (∀ t ∈ l, goodT t) → toksF n (posW k (l.map (·.w))) = .inr (reT n (k + 1) l)
  | [], _, _ => rfl
  | t :: l, k, h => by
    have ht := h t (List.mem_cons_self ..)
    have ih := toksF_pos n l (k + t.w.length + 1) fun z hz => h z (List.mem_cons_of_mem _ hz)
    simp only [List.map_cons, posW, toksF, ht.2, ih, reT]
    rw [show k + t.w.length + 1 + 1 = k + 1 + t.w.length + 1 by omega]

theorem wordT_words {l : List TokR} (hne : l ≠ []) (h : ∀ t ∈ l, goodT t) : wordsF (wordT l) = posW 0 (l.map (·.w)) := by
  have hp : ∀ w ∈ l.map (·.w), plainW w := by
    intro w hw
    obtain ⟨t, ht, rfl⟩ := List.mem_map.1 hw
    exact (h t ht).1
  unfold wordsF wordT
  rw [split_join 32 _ (by simpa using hne) fun x hx => (hp x hx).2.2.1, wordsG_pos _ _ hp]

theorem wordT_no {l : List TokR} (h : ∀ t ∈ l, goodT t) : ∀ b ∈ wordT l, b ≠ 10 := by
  intro b hb
  rcases join_mem 32 _ b hb with rfl | ⟨x, hx, hbx⟩
  · decide
  · obtain ⟨t, ht, rfl⟩ := List.mem_map.1 hx
    exact (h t ht).1.2.2.2 b hbx

theorem reT_ne (n c : Nat) {l : List TokR} (h : l ≠ []) : reT n c l ≠ [] := by
  cases l with
  | nil => exact absurd rfl h
  | cons t l => simp [reT]

theorem linesG_told : ∀ (r : List (List TokR)) (n : Nat), (∀ l ∈ r, l ≠ [] ∧ ∀ t ∈ l, goodT t) → linesG n (r.map wordT) = .inr (reL n r)
  | [], _, _ => rfl
  | l :: r, n, h => by
    obtain ⟨h1, h2⟩ := h l (List.mem_cons_self ..)
    simp only [List.map_cons, linesG, wordT_words h1 h2, toksF_pos (n + 1) l 0 h2, linesG_told r (n + 1) fun z hz => h z (List.mem_cons_of_mem _ hz), reL]
    rw [if_neg (reT_ne _ _ h1)]

theorem told_lines {r : List (List TokR)} (h : ∀ l ∈ r, l ≠ [] ∧ ∀ t ∈ l, goodT t) : linesF (toldT r) = .inr (reL 0 r) := by
  unfold linesF toldT
  cases r with
  | nil => kernel_rfl
  | cons l r =>
    rw [split_join 10 _ (by simp) ?_, linesG_told _ _ h]
    intro x hx
    obtain ⟨z, hz, rfl⟩ := List.mem_map.1 hx
    exact wordT_no (h z hz).2

/-! How long it is. -/

def cntL (xs : List (List UInt8)) : Nat := (xs.map fun x => x.length + 1).sum

theorem join_cnt (c : UInt8) : ∀ xs : List (List UInt8), (Lib.join xs [c]).length ≤ cntL xs ∧ (xs ≠ [] → (Lib.join xs [c]).length + 1 = cntL xs)
  | [] => ⟨by simp [Lib.join_nil], fun h => absurd rfl h⟩
  | [x] => by simp [Lib.join_one, cntL]
  | x :: y :: r => by
    have ih := (join_cnt c (y :: r)).2 (by simp)
    have e : cntL (x :: y :: r) = x.length + 1 + cntL (y :: r) := rfl
    have e2 : (Lib.join (x :: y :: r) [c]).length = x.length + ((Lib.join (y :: r) [c]).length + 1) := by rw [join_two]; simp
    exact ⟨by omega, fun _ => by omega⟩

theorem splitC_cnt (c : UInt8) (l : List UInt8) : cntL (splitC c l) = l.length + 1 := by
  rw [← splitC_len c l]
  unfold cntL
  induction splitC c l with
  | nil => rfl
  | cons x xs ih => simp only [List.map_cons, List.sum_cons, List.length_cons, ih]; omega

theorem wordsG_cnt : ∀ (ps : List (List UInt8)) (k : Nat), cntL ((wordsG k ps).map (·.2)) ≤ cntL ps
  | [], _ => Nat.le_refl _
  | p :: ps, k => by
    have e : cntL (p :: ps) = p.length + 1 + cntL ps := rfl
    simp only [wordsG]
    split
    · exact Nat.zero_le _
    · split
      · have := wordsG_cnt ps (k + 1)
        omega
      · have := wordsG_cnt ps (k + p.length + 1)
        have e2 : cntL (((k + 1, p) :: wordsG (k + p.length + 1) ps).map (·.2)) = p.length + 1 + cntL ((wordsG (k + p.length + 1) ps).map (·.2)) := rfl
        omega

theorem toksF_words (n : Nat) : ∀ (ws : List (Nat × List UInt8)) (ts : List TokR), toksF n ws = .inr ts → ts.map (·.w) = ws.map (·.2)
  | [], ts, h => by
    simp only [toksF, Sum.inr.injEq] at h
    subst h
    rfl
  | (c, w) :: l, ts, h => by
    simp only [toksF] at h
    split at h
    · cases h
    · split at h
      · cases h
      · rename_i ts' ht'
        simp only [Sum.inr.injEq] at h
        subst h
        simp [toksF_words n l ts' ht']

theorem linesG_cnt : ∀ (ps : List (List UInt8)) (n : Nat) (r : List (List TokR)), linesG n ps = .inr r → cntL (r.map wordT) ≤ cntL ps
  | [], n, r, h => by
    simp only [linesG, Sum.inr.injEq] at h
    subst h
    exact Nat.le_refl _
  | p :: ps, n, r, h => by
    have e : cntL (p :: ps) = p.length + 1 + cntL ps := rfl
    simp only [linesG] at h
    split at h
    · cases h
    · rename_i ts ht
      split at h
      · cases h
      · rename_i r' hr
        have ih := linesG_cnt ps (n + 1) r' hr
        simp only [Sum.inr.injEq] at h
        split at h
        · subst h
          omega
        · rename_i hne
          subst h
          have h1 := (join_cnt 32 (ts.map (·.w))).2 (by simpa using hne)
          have h2 : cntL (ts.map (·.w)) ≤ p.length + 1 := by
            rw [toksF_words _ _ _ ht, ← splitC_cnt 32 p]
            exact wordsG_cnt _ _
          have e2 : cntL ((ts :: r').map wordT) = (wordT ts).length + 1 + cntL (r'.map wordT) := rfl
          have e3 : (wordT ts).length = (Lib.join (ts.map (·.w)) [32]).length := rfl
          omega

theorem told_len {s : List UInt8} {r : List (List TokR)} (h : linesF s = .inr r) : cntL (r.map wordT) ≤ s.length + 1 := by
  rw [← splitC_cnt 10 s]
  exact linesG_cnt _ _ _ h

theorem toldT_len {s : List UInt8} {r : List (List TokR)} (h : linesF s = .inr r) : (toldT r).length ≤ s.length + 1 :=
  Nat.le_trans (join_cnt 10 _).1 (told_len h)

theorem cnt_mem : ∀ {xs : List (List UInt8)} {x : List UInt8}, x ∈ xs → x.length + 1 ≤ cntL xs
  | [], _, h => absurd h List.not_mem_nil
  | y :: ys, x, h => by
    have e : cntL (y :: ys) = y.length + 1 + cntL ys := rfl
    rcases List.mem_cons.1 h with rfl | h
    · omega
    · have := cnt_mem h
      omega

/-! What the told words are. -/

theorem reT_len (n : Nat) : ∀ (l : List TokR) (c : Nat), (reT n c l).length = l.length
  | [], _ => rfl
  | t :: l, c => by simp [reT, reT_len n l]

theorem reL_len : ∀ (r : List (List TokR)) (n : Nat), (reL n r).length = r.length
  | [], _ => rfl
  | l :: r, n => by simp [reL, reL_len r]

theorem reT_get (n : Nat) : ∀ (l : List TokR) (c k : Nat), k < l.length → ∃ c', (reT n c l).getD k default = ⟨(l.getD k default).k, (l.getD k default).w, (l.getD k default).n, n, c'⟩
  | [], _, k, h => by simp at h
  | t :: l, c, 0, _ => ⟨c, rfl⟩
  | t :: l, c, k + 1, h => by
    obtain ⟨c', e⟩ := reT_get n l (c + t.w.length + 1) k (by simpa using h)
    exact ⟨c', by simpa [reT, List.getD] using e⟩

theorem reL_get : ∀ (r : List (List TokR)) (n i : Nat), i < r.length → (reL n r).getD i default = reT (n + i + 1) 1 (r.getD i default)
  | [], _, i, h => by simp at h
  | l :: r, n, 0, _ => rfl
  | l :: r, n, i + 1, h => by
    have := reL_get r (n + 1) i (by simpa using h)
    rw [show n + (i + 1) + 1 = n + 1 + i + 1 by omega]
    simpa [reL, List.getD] using this

end Go.Proofs.YtjinaakebjfbiaaDoor
