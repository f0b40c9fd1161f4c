/-
  The document's lines (porismref19.Lines): they are the lexer's.
-/
import Derived.Test.YtjinaakebjfbiaaGreatDoorSc
import Derived.Test.YtjinaakebjfbiaaGreatDoorRx1
namespace Go.Proofs.YtjinaakebjfbiaaGreatDoor
open Go.Ab

structure LS where
  i : Nat
  ln : Nat
  col : Nat
  outs : List (List TokR)
  l : List TokR
  cur : List UInt8
  has : Bool
  rem : Bool
  a1 : Option Addr
  c1 : Nat
  a2 : Option Addr
  c2 : Nat

def fromV (i : Nat) (cur : List UInt8) (has : Bool) : Int := if has then (i : Int) - cur.length else -1

structure LSok (s : List UInt8) (x : LS) : Prop where
  hi : x.i ≤ s.length + 1
  hcol : 1 ≤ x.col ∧ x.col ≤ x.i + 1
  hln : x.ln ≤ x.i + 1
  hout : x.outs.length ≤ x.i
  hl : x.l.length ≤ x.i
  hcur : x.cur.length ≤ x.i ∧ x.cur.length < x.col
  hrem : x.has = true → x.rem = false
  hsl : x.has = true → (s.take x.i).drop (x.i - x.cur.length) = x.cur
  hsc : (x.i ≤ s.length ∧ scan x.outs x.l x.ln x.col x.cur x.has x.rem (s.drop x.i) = linesF s) ∨ (x.i = s.length + 1 ∧ .inr x.outs = linesF s)

def LST (s : List UInt8) (b3 : Nat) (x : LS) : Tmps :=
  [(0, .str s), (3, .ptr b3 0), (5, sl lineE 1 x.outs (.own x.a2 x.c2)), (6, sl tokE 5 x.l (.own x.a1 x.c1)), (7, .int .i64 x.ln), (8, .int .i64 x.col), (9, .int .i64 (fromV x.i x.cur x.has)), (10, .bool x.rem), (11, .int .i64 x.i)]

def LSH (b3 : Nat) (x : LS) : AHeap := [.tok x.a1 x.c1 x.l.length 5 44, .tok x.a2 x.c2 x.outs.length 1 45, .box b3 39 (placeV 0 0)]

theorem sl_succ {s cur : List UInt8} {i : Nat} (h : i < s.length) (hc : cur.length ≤ i) (h1 : (s.take i).drop (i - cur.length) = cur) : (s.take (i + 1)).drop (i + 1 - (cur ++ [s.getD i 0]).length) = cur ++ [s.getD i 0] := by
  rw [List.take_succ_eq_append_getElem h, List.length_append, List.length_cons, List.length_nil, show i + 1 - (cur.length + (0 + 1)) = i - cur.length by omega, List.drop_append_of_le_length (by simp; omega), h1]
  simp [List.getD, h]

theorem sl_one {s : List UInt8} {i : Nat} (h : i < s.length) : (s.take (i + 1)).drop (i + 1 - [s.getD i 0].length) = [s.getD i 0] := by
  have := sl_succ (cur := []) h (Nat.zero_le _) (by simp)
  simpa using this

theorem cbRl : Callable Tryz.prog 74 := fun _ _ => by kernel_rfl
set_option maxHeartbeats 6400000 in
set_option maxRecDepth 100000 in
theorem rlines_c (s : List UInt8) (hs : s.length ≤ 1000000000) : PCalls Tryz.prog 74 [.str s] (linesR s) := by
  refine pcalls_of_awp tyok cbRl Tryz.func74 rfl rfl ?_
  by_cases hlong : s.length > 65536
  · ((repeat (first | refine wK ?_ | refine awp_seq_k (fun K hK => ?_) | refine areg_text mixed tyok (by decide +kernel) ?_ | ((repeat ((fail_if_success (refine hK _ _ ?_)); clear hK)); refine hK _ _ ?_; clear hK))); ((first | refine qal tyok (fun b3 => ?_) | refine qbox (fun b3 => ?_) | refine qboxV (fun b3 => ?_))); (repeat (first | refine wK ?_ | refine awp_seq_k (fun K hK => ?_) | refine areg_text mixed tyok (by decide +kernel) ?_ | refine qal tyok (fun bx => ?_) | refine qbox (fun bx => ?_) | refine qboxV (fun bx => ?_) | ((repeat ((fail_if_success (refine hK _ _ ?_)); clear hK)); refine hK _ _ ?_; clear hK))))
    refine awp_cond rfl (fun hb => ?_) (fun hb => by simp at hb; omega)
    repeat (first | refine wK ?_ | refine awp_seq_k (fun K hK => ?_) | refine areg_text mixed tyok (by decide +kernel) ?_ | refine qal tyok (fun bx => ?_) | refine qbox (fun bx => ?_) | refine qboxV (fun bx => ?_) | ((repeat ((fail_if_success (refine hK _ _ ?_)); clear hK)); refine hK _ _ ?_; clear hK))
    refine fnQ_ret 1 rfl (.tmp rfl (.cell rfl rfl (List.Mem.head _) rfl trivial (.tmp rfl .nil))) ?_ ⟨rfl, rfl⟩
    unfold linesR
    rw [if_pos hlong]
    exact Sub.tuple3 (Sub.nilsv _ _) (Sub.refl _) (Sub.refl _)
  · ((repeat (first | refine wK ?_ | refine awp_seq_k (fun K hK => ?_) | refine areg_text mixed tyok (by decide +kernel) ?_ | ((repeat ((fail_if_success (refine hK _ _ ?_)); clear hK)); refine hK _ _ ?_; clear hK))); ((first | refine qal tyok (fun b3 => ?_) | refine qbox (fun b3 => ?_) | refine qboxV (fun b3 => ?_))); (repeat (first | refine wK ?_ | refine awp_seq_k (fun K hK => ?_) | refine areg_text mixed tyok (by decide +kernel) ?_ | refine qal tyok (fun bx => ?_) | refine qbox (fun bx => ?_) | refine qboxV (fun bx => ?_) | ((repeat ((fail_if_success (refine hK _ _ ?_)); clear hK)); refine hK _ _ ?_; clear hK))))
    refine awp_cond rfl (fun hb => by simp at hb; omega) (fun hb => ?_)
    repeat (first | refine wK ?_ | refine awp_seq_k (fun K hK => ?_) | refine areg_text mixed tyok (by decide +kernel) ?_ | refine qal tyok (fun bx => ?_) | refine qbox (fun bx => ?_) | refine qboxV (fun bx => ?_) | ((repeat ((fail_if_success (refine hK _ _ ?_)); clear hK)); refine hK _ _ ?_; clear hK))
    refine awp_tok0 1 45 ?_
    refine awp_tok0 5 44 ?_
    refine awp_loopP (ι := { x : LS // LSok s x }) (fun x => LST s b3 x.1) (fun x => LSH b3 x.1) (fun x => s.length + 1 - x.1.i)
      ⟨⟨0, 1, 1, [], [], [], false, false, none, 0, none, 0⟩, ⟨by simp, by simp, by simp, by simp, by simp, by simp, fun h => (by cases h), fun h => (by cases h), .inl ⟨Nat.zero_le _, scan_start s⟩⟩⟩ ?_ ⟨[], List.Perm.refl _⟩ ?_
    · (repeat (first | exact True.intro | refine ⟨⟨_, rfl, Sub.refl _⟩, ?_⟩ | refine ⟨⟨_, rfl, Sub.nilso _ _⟩, ?_⟩ | refine ⟨⟨_, rfl, sl_tail _ _ _ _ _⟩, ?_⟩ | refine ⟨⟨_, rfl, Sub.of_eq (by first | rfl | (congr 1; first | omega | (simp only; omega)) | (simp; done) | (simp; omega))⟩, ?_⟩ | refine ⟨⟨_, rfl, Sub.view _ _ _ _⟩, ?_⟩))
    rintro ⟨⟨i, ln, col, outs, l, cur, has, rem, a1, c1, a2, c2⟩, hi, ⟨hc1, hc2⟩, hln, hout, hl, ⟨hcu1, hcu2⟩, hrem, hsl, hsc⟩
    simp only at hi hc1 hc2 hln hout hl hcu1 hcu2 hrem hsl hsc
    simp only [LST, LSH]
    rcases hsc with ⟨hle, hsc⟩ | ⟨hie, hsc⟩
    rotate_left
    · subst hie
      repeat (first | refine wKB ?_ | refine awp_seq_k (fun K hK => ?_) | refine areg_text mixed tyok (by decide +kernel) ?_ | refine qal tyok (fun bx => ?_) | refine qbox (fun bx => ?_) | refine qboxV (fun bx => ?_) | ((repeat ((fail_if_success (refine hK _ _ ?_)); clear hK)); refine hK _ _ ?_; clear hK))
      refine fnQ_ret 3 rfl (.tmp rfl (.cell rfl rfl (List.mem_of_getElem? (i := 2) rfl) rfl trivial (.tmp rfl .nil))) ?_ ⟨rfl, rfl⟩
      rw [linesR_inr hlong hsc.symm]
      exact Sub.tuple3 (Sub.view _ _ _ _) (Sub.refl _) (Sub.refl _)
    -- a word ends: what the word is
    have htok : has = true → PCalls Tryz.prog 103 [.str ((s.take ((i : Int)).toNat).drop ((i : Int) - (cur.length : Int)).toNat)] (tokV cur) := by
      intro h
      have e : (s.take ((i : Int)).toNat).drop ((i : Int) - (cur.length : Int)).toNat = cur := by
        rw [← hsl h]
        congr 1
        rw [hsl h]
        omega
      rw [e]
      exact rtok_c cur (by omega)
    have herr : linesF s = .inl (ln, col - cur.length) → linesR s = .tuple [linesV [], placeV ln ((col : Int) - ((i : Int) - ((i : Int) - (cur.length : Int)))), .int .i64 4] := by
      intro h
      rw [linesR_inl hlong h, show ((col - cur.length : Nat) : Int) = (col : Int) - ((i : Int) - ((i : Int) - (cur.length : Int))) by omega]
    by_cases hend : i = s.length
    · skip
      refine awp_tok0 5 44 ?_
      rw [hend, List.drop_length] at hsc
      simp only [scan] at hsc
      cases has with
      | false =>
        simp only [fromV, Bool.false_eq_true, if_false]
        simp only [finW, Bool.false_eq_true, if_false] at hsc
        by_cases hl0 : l = []
        · subst hl0
          simp only [addL, if_true] at hsc
          repeat (first | refine wKB ?_ | refine awp_seq_k (fun K hK => ?_) | refine areg_text mixed tyok (by decide +kernel) ?_ | refine qal tyok (fun bx => ?_) | refine qbox (fun bx => ?_) | refine qboxV (fun bx => ?_) | ((repeat ((fail_if_success (refine hK _ _ ?_)); clear hK)); refine hK _ _ ?_; clear hK))
          refine ⟨⟨⟨i + 1, ln + 1, 1, outs, [], [], false, false, none, 0, a2, c2⟩, ⟨(by first | omega | (simp only; omega) | (simp; done) | (simp; omega)), ⟨(by first | omega | (simp only; omega) | (simp; done) | (simp; omega)), (by first | omega | (simp only; omega) | (simp; done) | (simp; omega))⟩, (by first | omega | (simp only; omega) | (simp; done) | (simp; omega)), (by first | omega | (simp only; omega) | (simp; done) | (simp; omega)), (by first | omega | (simp only; omega) | (simp; done) | (simp; omega)), ⟨(by first | omega | (simp only; omega) | (simp; done) | (simp; omega)), (by first | omega | (simp only; omega) | (simp; done) | (simp; omega))⟩, fun h => (by cases h), fun h => (by cases h), .inr ⟨(by first | omega | (simp only; omega) | (simp; done) | (simp; omega)), hsc⟩⟩⟩, ?_, ⟨[_], List.Perm.swap _ _ _⟩, (by first | omega | (simp only; omega) | (simp; done) | (simp; omega))⟩
          (repeat (first | exact True.intro | refine ⟨⟨_, rfl, Sub.refl _⟩, ?_⟩ | refine ⟨⟨_, rfl, Sub.nilso _ _⟩, ?_⟩ | refine ⟨⟨_, rfl, sl_tail _ _ _ _ _⟩, ?_⟩ | refine ⟨⟨_, rfl, Sub.of_eq (by first | rfl | (congr 1; first | omega | (simp only; omega)) | (simp; done) | (simp; omega))⟩, ?_⟩ | refine ⟨⟨_, rfl, Sub.view _ _ _ _⟩, ?_⟩))
        · have hl1 : 1 ≤ l.length := by cases l with | nil => exact absurd rfl hl0 | cons _ _ => simp
          simp only [addL, if_neg hl0] at hsc
          repeat (first | refine wKB ?_ | refine awp_seq_k (fun K hK => ?_) | refine areg_text mixed tyok (by decide +kernel) ?_ | refine qal tyok (fun bx => ?_) | refine qbox (fun bx => ?_) | refine qboxV (fun bx => ?_) | ((repeat ((fail_if_success (refine hK _ _ ?_)); clear hK)); refine hK _ _ ?_; clear hK))
          refine qapp tyok lineE outs l ?_ ?_ fun ad cp => ?_
          · exact .cons (Sub.view _ _ _ _) .nil
          · simp only
            omega
          repeat (first | refine wKB ?_ | refine awp_seq_k (fun K hK => ?_) | refine areg_text mixed tyok (by decide +kernel) ?_ | refine qal tyok (fun bx => ?_) | refine qbox (fun bx => ?_) | refine qboxV (fun bx => ?_) | ((repeat ((fail_if_success (refine hK _ _ ?_)); clear hK)); refine hK _ _ ?_; clear hK))
          refine ⟨⟨⟨i + 1, ln + 1, 1, outs ++ [l], [], [], false, false, none, 0, ad, cp⟩, ⟨(by first | omega | (simp only; omega) | (simp; done) | (simp; omega)), ⟨(by first | omega | (simp only; omega) | (simp; done) | (simp; omega)), (by first | omega | (simp only; omega) | (simp; done) | (simp; omega))⟩, (by first | omega | (simp only; omega) | (simp; done) | (simp; omega)), (by first | omega | (simp only; omega) | (simp; done) | (simp; omega)), (by first | omega | (simp only; omega) | (simp; done) | (simp; omega)), ⟨(by first | omega | (simp only; omega) | (simp; done) | (simp; omega)), (by first | omega | (simp only; omega) | (simp; done) | (simp; omega))⟩, fun h => (by cases h), fun h => (by cases h), .inr ⟨(by first | omega | (simp only; omega) | (simp; done) | (simp; omega)), hsc⟩⟩⟩, ?_, ⟨[_], List.Perm.swap _ _ _⟩, (by first | omega | (simp only; omega) | (simp; done) | (simp; omega))⟩
          (repeat (first | exact True.intro | refine ⟨⟨_, rfl, Sub.refl _⟩, ?_⟩ | refine ⟨⟨_, rfl, Sub.nilso _ _⟩, ?_⟩ | refine ⟨⟨_, rfl, sl_tail _ _ _ _ _⟩, ?_⟩ | refine ⟨⟨_, rfl, Sub.of_eq (by first | rfl | (congr 1; first | omega | (simp only; omega)) | (simp; done) | (simp; omega))⟩, ?_⟩ | refine ⟨⟨_, rfl, Sub.view _ _ _ _⟩, ?_⟩))
      | true =>
        have hrm := hrem rfl
        subst hrm
        have g := htok rfl
        unfold tokV at g
        simp only [fromV, if_true]
        simp only [finW, if_true] at hsc
        cases ht : tokF cur with
        | none =>
          rw [ht] at g hsc
          ((repeat (first | refine wKB ?_ | refine awp_seq_k (fun K hK => ?_) | refine TR.pcall rfl rfl rfl rfl True.intro rfl rfl (g) ?_ | refine pco rfl rfl rfl rfl rfl rfl rfl rfl (fun _ => g) ?_ | ((repeat ((fail_if_success (refine hK _ _ ?_)); clear hK)); refine hK _ _ ?_; clear hK))); ((first | refine qal tyok (fun b13 => ?_) | refine qbox (fun b13 => ?_) | refine qboxV (fun b13 => ?_))); (repeat (first | refine wKB ?_ | refine awp_seq_k (fun K hK => ?_) | refine qal tyok (fun bx => ?_) | refine qbox (fun bx => ?_) | refine qboxV (fun bx => ?_) | refine TR.pcall rfl rfl rfl rfl True.intro rfl rfl (g) ?_ | refine pco rfl rfl rfl rfl rfl rfl rfl rfl (fun _ => g) ?_ | ((repeat ((fail_if_success (refine hK _ _ ?_)); clear hK)); refine hK _ _ ?_; clear hK))))
          refine awp_freeze [] (s := 13) rfl rfl ?_
          repeat (first | refine wKB ?_ | refine awp_seq_k (fun K hK => ?_) | refine areg_text mixed tyok (by decide +kernel) ?_ | refine qal tyok (fun bx => ?_) | refine qbox (fun bx => ?_) | refine qboxV (fun bx => ?_) | ((repeat ((fail_if_success (refine hK _ _ ?_)); clear hK)); refine hK _ _ ?_; clear hK))
          refine fnQ_ret 4 rfl (.tmp rfl (.cell rfl rfl (List.mem_of_getElem? (i := 3) rfl) rfl trivial (.tmp rfl .nil))) ?_ ⟨rfl, rfl⟩
          rw [herr hsc.symm]
          exact Sub.tuple3 (Sub.nilsv _ _) (Sub.refl _) (Sub.refl _)
        | some q =>
          obtain ⟨kk, v⟩ := q
          rw [ht] at g hsc
          have hne : l ++ [(⟨kk, cur, v, ln, col - cur.length⟩ : TokR)] ≠ [] := by simp
          simp only [addL, if_neg hne] at hsc
          have hl1 : 1 ≤ (l ++ [(⟨kk, cur, v, ln, col - cur.length⟩ : TokR)] : List TokR).length := by simp
          ((repeat (first | refine wKB ?_ | refine awp_seq_k (fun K hK => ?_) | refine areg_text mixed tyok (by decide +kernel) ?_ | refine TR.pcall rfl rfl rfl rfl True.intro rfl rfl (g) ?_ | refine pco rfl rfl rfl rfl rfl rfl rfl rfl (fun _ => g) ?_ | ((repeat ((fail_if_success (refine hK _ _ ?_)); clear hK)); refine hK _ _ ?_; clear hK))); ((first | refine qal tyok (fun b13 => ?_) | refine qbox (fun b13 => ?_) | refine qboxV (fun b13 => ?_))); (repeat (first | refine wKB ?_ | refine awp_seq_k (fun K hK => ?_) | refine areg_text mixed tyok (by decide +kernel) ?_ | refine qal tyok (fun bx => ?_) | refine qbox (fun bx => ?_) | refine qboxV (fun bx => ?_) | refine TR.pcall rfl rfl rfl rfl True.intro rfl rfl (g) ?_ | refine pco rfl rfl rfl rfl rfl rfl rfl rfl (fun _ => g) ?_ | ((repeat ((fail_if_success (refine hK _ _ ?_)); clear hK)); refine hK _ _ ?_; clear hK))))
          refine qapp tyok tokE l (⟨kk, cur, v, ln, col - cur.length⟩ : TokR) ?_ ?_ fun ad cp => ?_
          · exact .cons (Sub.refl _) (.cons (Sub.refl _) (.cons (Sub.refl _) (.cons (Sub.refl _) (.cons (Sub.of_eq (by congr 1; simp only; omega)) .nil))))
          · simp only
            omega
          repeat (first | refine wKB ?_ | refine awp_seq_k (fun K hK => ?_) | refine areg_text mixed tyok (by decide +kernel) ?_ | refine qal tyok (fun bx => ?_) | refine qbox (fun bx => ?_) | refine qboxV (fun bx => ?_) | ((repeat ((fail_if_success (refine hK _ _ ?_)); clear hK)); refine hK _ _ ?_; clear hK))
          refine qapp tyok lineE outs (l ++ [(⟨kk, cur, v, ln, col - cur.length⟩ : TokR)]) ?_ ?_ fun ad2 cp2 => ?_
          · exact .cons (Sub.view _ _ _ _) .nil
          · simp only
            omega
          repeat (first | refine wKB ?_ | refine awp_seq_k (fun K hK => ?_) | refine areg_text mixed tyok (by decide +kernel) ?_ | refine qal tyok (fun bx => ?_) | refine qbox (fun bx => ?_) | refine qboxV (fun bx => ?_) | ((repeat ((fail_if_success (refine hK _ _ ?_)); clear hK)); refine hK _ _ ?_; clear hK))
          refine ⟨⟨⟨i + 1, ln + 1, 1, outs ++ [l ++ [(⟨kk, cur, v, ln, col - cur.length⟩ : TokR)]], [], [], false, false, none, 0, ad2, cp2⟩, ⟨(by first | omega | (simp only; omega) | (simp; done) | (simp; omega)), ⟨(by first | omega | (simp only; omega) | (simp; done) | (simp; omega)), (by first | omega | (simp only; omega) | (simp; done) | (simp; omega))⟩, (by first | omega | (simp only; omega) | (simp; done) | (simp; omega)), (by first | omega | (simp only; omega) | (simp; done) | (simp; omega)), (by first | omega | (simp only; omega) | (simp; done) | (simp; omega)), ⟨(by first | omega | (simp only; omega) | (simp; done) | (simp; omega)), (by first | omega | (simp only; omega) | (simp; done) | (simp; omega))⟩, fun h => (by cases h), fun h => (by cases h), .inr ⟨(by first | omega | (simp only; omega) | (simp; done) | (simp; omega)), hsc⟩⟩⟩, ?_, ⟨[_, _], List.Perm.cons _ (List.Perm.swap _ _ _)⟩, (by first | omega | (simp only; omega) | (simp; done) | (simp; omega))⟩
          (repeat (first | exact True.intro | refine ⟨⟨_, rfl, Sub.refl _⟩, ?_⟩ | refine ⟨⟨_, rfl, Sub.nilso _ _⟩, ?_⟩ | refine ⟨⟨_, rfl, sl_tail _ _ _ _ _⟩, ?_⟩ | refine ⟨⟨_, rfl, Sub.of_eq (by first | rfl | (congr 1; first | omega | (simp only; omega)) | (simp; done) | (simp; omega))⟩, ?_⟩ | refine ⟨⟨_, rfl, Sub.view _ _ _ _⟩, ?_⟩))
    · have hlt : i < s.length := by omega
      have hd : s.drop i = s.getD i 0 :: s.drop (i + 1) := by
        rw [List.drop_eq_getElem_cons hlt]
        simp [List.getD, hlt]
      rw [hd] at hsc
      by_cases h10 : s.getD i 0 = 10
      · have h10' : (s.getD ((i : Int)).toNat 0).toNat = 10 := by show (s.getD i 0).toNat = 10; rw [h10]; rfl
        refine awp_tok0 5 44 ?_
        simp only [scan, if_pos h10] at hsc
        cases has with
        | false =>
          simp only [fromV, Bool.false_eq_true, if_false]
          simp only [finW, Bool.false_eq_true, if_false] at hsc
          by_cases hl0 : l = []
          · subst hl0
            simp only [addL, if_true] at hsc
            repeat (first | refine wKB ?_ | refine awp_seq_k (fun K hK => ?_) | refine areg_text mixed tyok (by decide +kernel) ?_ | refine qal tyok (fun bx => ?_) | refine qbox (fun bx => ?_) | refine qboxV (fun bx => ?_) | ((repeat ((fail_if_success (refine hK _ _ ?_)); clear hK)); refine hK _ _ ?_; clear hK))
            refine ⟨⟨⟨i + 1, ln + 1, 1, outs, [], [], false, false, none, 0, a2, c2⟩, ⟨(by first | omega | (simp only; omega) | (simp; done) | (simp; omega)), ⟨(by first | omega | (simp only; omega) | (simp; done) | (simp; omega)), (by first | omega | (simp only; omega) | (simp; done) | (simp; omega))⟩, (by first | omega | (simp only; omega) | (simp; done) | (simp; omega)), (by first | omega | (simp only; omega) | (simp; done) | (simp; omega)), (by first | omega | (simp only; omega) | (simp; done) | (simp; omega)), ⟨(by first | omega | (simp only; omega) | (simp; done) | (simp; omega)), (by first | omega | (simp only; omega) | (simp; done) | (simp; omega))⟩, fun h => (by cases h), fun h => (by cases h), .inl ⟨hlt, hsc⟩⟩⟩, ?_, ⟨[_], List.Perm.swap _ _ _⟩, (by first | omega | (simp only; omega) | (simp; done) | (simp; omega))⟩
            (repeat (first | exact True.intro | refine ⟨⟨_, rfl, Sub.refl _⟩, ?_⟩ | refine ⟨⟨_, rfl, Sub.nilso _ _⟩, ?_⟩ | refine ⟨⟨_, rfl, sl_tail _ _ _ _ _⟩, ?_⟩ | refine ⟨⟨_, rfl, Sub.of_eq (by first | rfl | (congr 1; first | omega | (simp only; omega)) | (simp; done) | (simp; omega))⟩, ?_⟩ | refine ⟨⟨_, rfl, Sub.view _ _ _ _⟩, ?_⟩))
          · have hl1 : 1 ≤ l.length := by cases l with | nil => exact absurd rfl hl0 | cons _ _ => simp
            simp only [addL, if_neg hl0] at hsc
            repeat (first | refine wKB ?_ | refine awp_seq_k (fun K hK => ?_) | refine areg_text mixed tyok (by decide +kernel) ?_ | refine qal tyok (fun bx => ?_) | refine qbox (fun bx => ?_) | refine qboxV (fun bx => ?_) | ((repeat ((fail_if_success (refine hK _ _ ?_)); clear hK)); refine hK _ _ ?_; clear hK))
            refine qapp tyok lineE outs l ?_ ?_ fun ad cp => ?_
            · exact .cons (Sub.view _ _ _ _) .nil
            · simp only
              omega
            repeat (first | refine wKB ?_ | refine awp_seq_k (fun K hK => ?_) | refine areg_text mixed tyok (by decide +kernel) ?_ | refine qal tyok (fun bx => ?_) | refine qbox (fun bx => ?_) | refine qboxV (fun bx => ?_) | ((repeat ((fail_if_success (refine hK _ _ ?_)); clear hK)); refine hK _ _ ?_; clear hK))
            refine ⟨⟨⟨i + 1, ln + 1, 1, outs ++ [l], [], [], false, false, none, 0, ad, cp⟩, ⟨(by first | omega | (simp only; omega) | (simp; done) | (simp; omega)), ⟨(by first | omega | (simp only; omega) | (simp; done) | (simp; omega)), (by first | omega | (simp only; omega) | (simp; done) | (simp; omega))⟩, (by first | omega | (simp only; omega) | (simp; done) | (simp; omega)), (by first | omega | (simp only; omega) | (simp; done) | (simp; omega)), (by first | omega | (simp only; omega) | (simp; done) | (simp; omega)), ⟨(by first | omega | (simp only; omega) | (simp; done) | (simp; omega)), (by first | omega | (simp only; omega) | (simp; done) | (simp; omega))⟩, fun h => (by cases h), fun h => (by cases h), .inl ⟨hlt, hsc⟩⟩⟩, ?_, ⟨[_], List.Perm.swap _ _ _⟩, (by first | omega | (simp only; omega) | (simp; done) | (simp; omega))⟩
            (repeat (first | exact True.intro | refine ⟨⟨_, rfl, Sub.refl _⟩, ?_⟩ | refine ⟨⟨_, rfl, Sub.nilso _ _⟩, ?_⟩ | refine ⟨⟨_, rfl, sl_tail _ _ _ _ _⟩, ?_⟩ | refine ⟨⟨_, rfl, Sub.of_eq (by first | rfl | (congr 1; first | omega | (simp only; omega)) | (simp; done) | (simp; omega))⟩, ?_⟩ | refine ⟨⟨_, rfl, Sub.view _ _ _ _⟩, ?_⟩))
        | true =>
          have hrm := hrem rfl
          subst hrm
          have g := htok rfl
          unfold tokV at g
          simp only [fromV, if_true]
          simp only [finW, if_true] at hsc
          cases ht : tokF cur with
          | none =>
            rw [ht] at g hsc
            ((repeat (first | refine wKB ?_ | refine awp_seq_k (fun K hK => ?_) | refine TR.pcall rfl rfl rfl rfl True.intro rfl rfl (g) ?_ | refine pco rfl rfl rfl rfl rfl rfl rfl rfl (fun _ => g) ?_ | ((repeat ((fail_if_success (refine hK _ _ ?_)); clear hK)); refine hK _ _ ?_; clear hK))); ((first | refine qal tyok (fun b13 => ?_) | refine qbox (fun b13 => ?_) | refine qboxV (fun b13 => ?_))); (repeat (first | refine wKB ?_ | refine awp_seq_k (fun K hK => ?_) | refine qal tyok (fun bx => ?_) | refine qbox (fun bx => ?_) | refine qboxV (fun bx => ?_) | refine TR.pcall rfl rfl rfl rfl True.intro rfl rfl (g) ?_ | refine pco rfl rfl rfl rfl rfl rfl rfl rfl (fun _ => g) ?_ | ((repeat ((fail_if_success (refine hK _ _ ?_)); clear hK)); refine hK _ _ ?_; clear hK))))
            refine awp_freeze [] (s := 13) rfl rfl ?_
            repeat (first | refine wKB ?_ | refine awp_seq_k (fun K hK => ?_) | refine areg_text mixed tyok (by decide +kernel) ?_ | refine qal tyok (fun bx => ?_) | refine qbox (fun bx => ?_) | refine qboxV (fun bx => ?_) | ((repeat ((fail_if_success (refine hK _ _ ?_)); clear hK)); refine hK _ _ ?_; clear hK))
            refine fnQ_ret 4 rfl (.tmp rfl (.cell rfl rfl (List.mem_of_getElem? (i := 3) rfl) rfl trivial (.tmp rfl .nil))) ?_ ⟨rfl, rfl⟩
            rw [herr hsc.symm]
            exact Sub.tuple3 (Sub.nilsv _ _) (Sub.refl _) (Sub.refl _)
          | some q =>
            obtain ⟨kk, v⟩ := q
            rw [ht] at g hsc
            have hne : l ++ [(⟨kk, cur, v, ln, col - cur.length⟩ : TokR)] ≠ [] := by simp
            simp only [addL, if_neg hne] at hsc
            have hl1 : 1 ≤ (l ++ [(⟨kk, cur, v, ln, col - cur.length⟩ : TokR)] : List TokR).length := by simp
            ((repeat (first | refine wKB ?_ | refine awp_seq_k (fun K hK => ?_) | refine areg_text mixed tyok (by decide +kernel) ?_ | refine TR.pcall rfl rfl rfl rfl True.intro rfl rfl (g) ?_ | refine pco rfl rfl rfl rfl rfl rfl rfl rfl (fun _ => g) ?_ | ((repeat ((fail_if_success (refine hK _ _ ?_)); clear hK)); refine hK _ _ ?_; clear hK))); ((first | refine qal tyok (fun b13 => ?_) | refine qbox (fun b13 => ?_) | refine qboxV (fun b13 => ?_))); (repeat (first | refine wKB ?_ | refine awp_seq_k (fun K hK => ?_) | refine areg_text mixed tyok (by decide +kernel) ?_ | refine qal tyok (fun bx => ?_) | refine qbox (fun bx => ?_) | refine qboxV (fun bx => ?_) | refine TR.pcall rfl rfl rfl rfl True.intro rfl rfl (g) ?_ | refine pco rfl rfl rfl rfl rfl rfl rfl rfl (fun _ => g) ?_ | ((repeat ((fail_if_success (refine hK _ _ ?_)); clear hK)); refine hK _ _ ?_; clear hK))))
            refine qapp tyok tokE l (⟨kk, cur, v, ln, col - cur.length⟩ : TokR) ?_ ?_ fun ad cp => ?_
            · exact .cons (Sub.refl _) (.cons (Sub.refl _) (.cons (Sub.refl _) (.cons (Sub.refl _) (.cons (Sub.of_eq (by congr 1; simp only; omega)) .nil))))
            · simp only
              omega
            repeat (first | refine wKB ?_ | refine awp_seq_k (fun K hK => ?_) | refine areg_text mixed tyok (by decide +kernel) ?_ | refine qal tyok (fun bx => ?_) | refine qbox (fun bx => ?_) | refine qboxV (fun bx => ?_) | ((repeat ((fail_if_success (refine hK _ _ ?_)); clear hK)); refine hK _ _ ?_; clear hK))
            refine qapp tyok lineE outs (l ++ [(⟨kk, cur, v, ln, col - cur.length⟩ : TokR)]) ?_ ?_ fun ad2 cp2 => ?_
            · exact .cons (Sub.view _ _ _ _) .nil
            · simp only
              omega
            repeat (first | refine wKB ?_ | refine awp_seq_k (fun K hK => ?_) | refine areg_text mixed tyok (by decide +kernel) ?_ | refine qal tyok (fun bx => ?_) | refine qbox (fun bx => ?_) | refine qboxV (fun bx => ?_) | ((repeat ((fail_if_success (refine hK _ _ ?_)); clear hK)); refine hK _ _ ?_; clear hK))
            refine ⟨⟨⟨i + 1, ln + 1, 1, outs ++ [l ++ [(⟨kk, cur, v, ln, col - cur.length⟩ : TokR)]], [], [], false, false, none, 0, ad2, cp2⟩, ⟨(by first | omega | (simp only; omega) | (simp; done) | (simp; omega)), ⟨(by first | omega | (simp only; omega) | (simp; done) | (simp; omega)), (by first | omega | (simp only; omega) | (simp; done) | (simp; omega))⟩, (by first | omega | (simp only; omega) | (simp; done) | (simp; omega)), (by first | omega | (simp only; omega) | (simp; done) | (simp; omega)), (by first | omega | (simp only; omega) | (simp; done) | (simp; omega)), ⟨(by first | omega | (simp only; omega) | (simp; done) | (simp; omega)), (by first | omega | (simp only; omega) | (simp; done) | (simp; omega))⟩, fun h => (by cases h), fun h => (by cases h), .inl ⟨hlt, hsc⟩⟩⟩, ?_, ⟨[_, _], List.Perm.cons _ (List.Perm.swap _ _ _)⟩, (by first | omega | (simp only; omega) | (simp; done) | (simp; omega))⟩
            (repeat (first | exact True.intro | refine ⟨⟨_, rfl, Sub.refl _⟩, ?_⟩ | refine ⟨⟨_, rfl, Sub.nilso _ _⟩, ?_⟩ | refine ⟨⟨_, rfl, sl_tail _ _ _ _ _⟩, ?_⟩ | refine ⟨⟨_, rfl, Sub.of_eq (by first | rfl | (congr 1; first | omega | (simp only; omega)) | (simp; done) | (simp; omega))⟩, ?_⟩ | refine ⟨⟨_, rfl, Sub.view _ _ _ _⟩, ?_⟩))
      · have h10' : (s.getD ((i : Int)).toNat 0).toNat ≠ 10 := fun h => h10 (UInt8.toNat_inj.1 h)
        by_cases h32 : s.getD i 0 = 32
        · have h32' : (s.getD ((i : Int)).toNat 0).toNat = 32 := by show (s.getD i 0).toNat = 32; rw [h32]; rfl
          simp only [scan, if_neg h10, if_pos h32] at hsc
          cases has with
          | false =>
            simp only [fromV, Bool.false_eq_true, if_false]
            simp only [finW, Bool.false_eq_true, if_false] at hsc
            repeat (first | refine wKB ?_ | refine awp_seq_k (fun K hK => ?_) | refine areg_text mixed tyok (by decide +kernel) ?_ | refine qal tyok (fun bx => ?_) | refine qbox (fun bx => ?_) | refine qboxV (fun bx => ?_) | ((repeat ((fail_if_success (refine hK _ _ ?_)); clear hK)); refine hK _ _ ?_; clear hK))
            refine ⟨⟨⟨i + 1, ln, col + 1, outs, l, [], false, rem, a1, c1, a2, c2⟩, ⟨(by first | omega | (simp only; omega) | (simp; done) | (simp; omega)), ⟨(by first | omega | (simp only; omega) | (simp; done) | (simp; omega)), (by first | omega | (simp only; omega) | (simp; done) | (simp; omega))⟩, (by first | omega | (simp only; omega) | (simp; done) | (simp; omega)), (by first | omega | (simp only; omega) | (simp; done) | (simp; omega)), (by first | omega | (simp only; omega) | (simp; done) | (simp; omega)), ⟨(by first | omega | (simp only; omega) | (simp; done) | (simp; omega)), (by first | omega | (simp only; omega) | (simp; done) | (simp; omega))⟩, fun h => (by cases h), fun h => (by cases h), .inl ⟨hlt, hsc⟩⟩⟩, ?_, ⟨[], List.Perm.refl _⟩, (by first | omega | (simp only; omega) | (simp; done) | (simp; omega))⟩
            (repeat (first | exact True.intro | refine ⟨⟨_, rfl, Sub.refl _⟩, ?_⟩ | refine ⟨⟨_, rfl, Sub.nilso _ _⟩, ?_⟩ | refine ⟨⟨_, rfl, sl_tail _ _ _ _ _⟩, ?_⟩ | refine ⟨⟨_, rfl, Sub.of_eq (by first | rfl | (congr 1; first | omega | (simp only; omega)) | (simp; done) | (simp; omega))⟩, ?_⟩ | refine ⟨⟨_, rfl, Sub.view _ _ _ _⟩, ?_⟩))
          | true =>
            have hrm := hrem rfl
            subst hrm
            have g := htok rfl
            unfold tokV at g
            simp only [fromV, if_true]
            simp only [finW, if_true] at hsc
            cases ht : tokF cur with
            | none =>
              rw [ht] at g hsc
              ((repeat (first | refine wKB ?_ | refine awp_seq_k (fun K hK => ?_) | refine TR.pcall rfl rfl rfl rfl True.intro rfl rfl (g) ?_ | refine pco rfl rfl rfl rfl rfl rfl rfl rfl (fun _ => g) ?_ | ((repeat ((fail_if_success (refine hK _ _ ?_)); clear hK)); refine hK _ _ ?_; clear hK))); ((first | refine qal tyok (fun b13 => ?_) | refine qbox (fun b13 => ?_) | refine qboxV (fun b13 => ?_))); (repeat (first | refine wKB ?_ | refine awp_seq_k (fun K hK => ?_) | refine qal tyok (fun bx => ?_) | refine qbox (fun bx => ?_) | refine qboxV (fun bx => ?_) | refine TR.pcall rfl rfl rfl rfl True.intro rfl rfl (g) ?_ | refine pco rfl rfl rfl rfl rfl rfl rfl rfl (fun _ => g) ?_ | ((repeat ((fail_if_success (refine hK _ _ ?_)); clear hK)); refine hK _ _ ?_; clear hK))))
              refine awp_freeze [] (s := 13) rfl rfl ?_
              repeat (first | refine wKB ?_ | refine awp_seq_k (fun K hK => ?_) | refine areg_text mixed tyok (by decide +kernel) ?_ | refine qal tyok (fun bx => ?_) | refine qbox (fun bx => ?_) | refine qboxV (fun bx => ?_) | ((repeat ((fail_if_success (refine hK _ _ ?_)); clear hK)); refine hK _ _ ?_; clear hK))
              refine fnQ_ret 3 rfl (.tmp rfl (.cell rfl rfl (List.mem_of_getElem? (i := 2) rfl) rfl trivial (.tmp rfl .nil))) ?_ ⟨rfl, rfl⟩
              rw [herr hsc.symm]
              exact Sub.tuple3 (Sub.nilsv _ _) (Sub.refl _) (Sub.refl _)
            | some q =>
              obtain ⟨kk, v⟩ := q
              rw [ht] at g hsc
              simp only at hsc
              ((repeat (first | refine wKB ?_ | refine awp_seq_k (fun K hK => ?_) | refine areg_text mixed tyok (by decide +kernel) ?_ | refine TR.pcall rfl rfl rfl rfl True.intro rfl rfl (g) ?_ | refine pco rfl rfl rfl rfl rfl rfl rfl rfl (fun _ => g) ?_ | ((repeat ((fail_if_success (refine hK _ _ ?_)); clear hK)); refine hK _ _ ?_; clear hK))); ((first | refine qal tyok (fun b13 => ?_) | refine qbox (fun b13 => ?_) | refine qboxV (fun b13 => ?_))); (repeat (first | refine wKB ?_ | refine awp_seq_k (fun K hK => ?_) | refine areg_text mixed tyok (by decide +kernel) ?_ | refine qal tyok (fun bx => ?_) | refine qbox (fun bx => ?_) | refine qboxV (fun bx => ?_) | refine TR.pcall rfl rfl rfl rfl True.intro rfl rfl (g) ?_ | refine pco rfl rfl rfl rfl rfl rfl rfl rfl (fun _ => g) ?_ | ((repeat ((fail_if_success (refine hK _ _ ?_)); clear hK)); refine hK _ _ ?_; clear hK))))
              refine qapp tyok tokE l (⟨kk, cur, v, ln, col - cur.length⟩ : TokR) ?_ ?_ fun ad cp => ?_
              · exact .cons (Sub.refl _) (.cons (Sub.refl _) (.cons (Sub.refl _) (.cons (Sub.refl _) (.cons (Sub.of_eq (by congr 1; simp only; omega)) .nil))))
              · simp only
                omega
              repeat (first | refine wKB ?_ | refine awp_seq_k (fun K hK => ?_) | refine areg_text mixed tyok (by decide +kernel) ?_ | refine qal tyok (fun bx => ?_) | refine qbox (fun bx => ?_) | refine qboxV (fun bx => ?_) | ((repeat ((fail_if_success (refine hK _ _ ?_)); clear hK)); refine hK _ _ ?_; clear hK))
              refine ⟨⟨⟨i + 1, ln, col + 1, outs, l ++ [(⟨kk, cur, v, ln, col - cur.length⟩ : TokR)], [], false, false, ad, cp, a2, c2⟩, ⟨(by first | omega | (simp only; omega) | (simp; done) | (simp; omega)), ⟨(by first | omega | (simp only; omega) | (simp; done) | (simp; omega)), (by first | omega | (simp only; omega) | (simp; done) | (simp; omega))⟩, (by first | omega | (simp only; omega) | (simp; done) | (simp; omega)), (by first | omega | (simp only; omega) | (simp; done) | (simp; omega)), (by first | omega | (simp only; omega) | (simp; done) | (simp; omega)), ⟨(by first | omega | (simp only; omega) | (simp; done) | (simp; omega)), (by first | omega | (simp only; omega) | (simp; done) | (simp; omega))⟩, fun h => (by cases h), fun h => (by cases h), .inl ⟨hlt, hsc⟩⟩⟩, ?_, ⟨[_], List.Perm.refl _⟩, (by first | omega | (simp only; omega) | (simp; done) | (simp; omega))⟩
              (repeat (first | exact True.intro | refine ⟨⟨_, rfl, Sub.refl _⟩, ?_⟩ | refine ⟨⟨_, rfl, Sub.nilso _ _⟩, ?_⟩ | refine ⟨⟨_, rfl, sl_tail _ _ _ _ _⟩, ?_⟩ | refine ⟨⟨_, rfl, Sub.of_eq (by first | rfl | (congr 1; first | omega | (simp only; omega)) | (simp; done) | (simp; omega))⟩, ?_⟩ | refine ⟨⟨_, rfl, Sub.view _ _ _ _⟩, ?_⟩))
        · have h32' : (s.getD ((i : Int)).toNat 0).toNat ≠ 32 := fun h => h32 (UInt8.toNat_inj.1 h)
          simp only [scan, if_neg h10, if_neg h32] at hsc
          cases has with
          | true =>
            have hrm := hrem rfl
            subst hrm
            simp only [fromV, if_true]
            simp only [if_true] at hsc
            repeat (first | refine wKB ?_ | refine awp_seq_k (fun K hK => ?_) | refine areg_text mixed tyok (by decide +kernel) ?_ | refine qal tyok (fun bx => ?_) | refine qbox (fun bx => ?_) | refine qboxV (fun bx => ?_) | ((repeat ((fail_if_success (refine hK _ _ ?_)); clear hK)); refine hK _ _ ?_; clear hK))
            refine ⟨⟨⟨i + 1, ln, col + 1, outs, l, cur ++ [s.getD i 0], true, false, a1, c1, a2, c2⟩, ⟨(by first | omega | (simp only; omega) | (simp; done) | (simp; omega)), ⟨(by first | omega | (simp only; omega) | (simp; done) | (simp; omega)), (by first | omega | (simp only; omega) | (simp; done) | (simp; omega))⟩, (by first | omega | (simp only; omega) | (simp; done) | (simp; omega)), (by first | omega | (simp only; omega) | (simp; done) | (simp; omega)), (by first | omega | (simp only; omega) | (simp; done) | (simp; omega)), ⟨(by first | omega | (simp only; omega) | (simp; done) | (simp; omega)), (by first | omega | (simp only; omega) | (simp; done) | (simp; omega))⟩, fun _ => rfl, fun _ => ?_, .inl ⟨hlt, hsc⟩⟩⟩, ?_, ⟨[], List.Perm.refl _⟩, (by first | omega | (simp only; omega) | (simp; done) | (simp; omega))⟩
            · exact sl_succ hlt hcu1 (hsl rfl)
            · (repeat (first | exact True.intro | refine ⟨⟨_, rfl, Sub.refl _⟩, ?_⟩ | refine ⟨⟨_, rfl, Sub.nilso _ _⟩, ?_⟩ | refine ⟨⟨_, rfl, sl_tail _ _ _ _ _⟩, ?_⟩ | refine ⟨⟨_, rfl, Sub.of_eq (by first | rfl | (congr 1; first | omega | (simp only; omega)) | (simp; done) | (simp; omega))⟩, ?_⟩ | refine ⟨⟨_, rfl, Sub.view _ _ _ _⟩, ?_⟩))
          | false =>
            simp only [fromV, Bool.false_eq_true, if_false]
            simp only [Bool.false_eq_true, if_false] at hsc
            cases rem with
            | true =>
              simp only [if_true] at hsc
              repeat (first | refine wKB ?_ | refine awp_seq_k (fun K hK => ?_) | refine areg_text mixed tyok (by decide +kernel) ?_ | refine qal tyok (fun bx => ?_) | refine qbox (fun bx => ?_) | refine qboxV (fun bx => ?_) | ((repeat ((fail_if_success (refine hK _ _ ?_)); clear hK)); refine hK _ _ ?_; clear hK))
              refine ⟨⟨⟨i + 1, ln, col + 1, outs, l, [], false, true, a1, c1, a2, c2⟩, ⟨(by first | omega | (simp only; omega) | (simp; done) | (simp; omega)), ⟨(by first | omega | (simp only; omega) | (simp; done) | (simp; omega)), (by first | omega | (simp only; omega) | (simp; done) | (simp; omega))⟩, (by first | omega | (simp only; omega) | (simp; done) | (simp; omega)), (by first | omega | (simp only; omega) | (simp; done) | (simp; omega)), (by first | omega | (simp only; omega) | (simp; done) | (simp; omega)), ⟨(by first | omega | (simp only; omega) | (simp; done) | (simp; omega)), (by first | omega | (simp only; omega) | (simp; done) | (simp; omega))⟩, fun h => (by cases h), fun h => (by cases h), .inl ⟨hlt, hsc⟩⟩⟩, ?_, ⟨[], List.Perm.refl _⟩, (by first | omega | (simp only; omega) | (simp; done) | (simp; omega))⟩
              (repeat (first | exact True.intro | refine ⟨⟨_, rfl, Sub.refl _⟩, ?_⟩ | refine ⟨⟨_, rfl, Sub.nilso _ _⟩, ?_⟩ | refine ⟨⟨_, rfl, sl_tail _ _ _ _ _⟩, ?_⟩ | refine ⟨⟨_, rfl, Sub.of_eq (by first | rfl | (congr 1; first | omega | (simp only; omega)) | (simp; done) | (simp; omega))⟩, ?_⟩ | refine ⟨⟨_, rfl, Sub.view _ _ _ _⟩, ?_⟩))
            | false =>
              simp only [Bool.false_eq_true, if_false] at hsc
              by_cases h35 : s.getD i 0 = 35
              · have h35' : (s.getD ((i : Int)).toNat 0).toNat = 35 := by show (s.getD i 0).toNat = 35; rw [h35]; rfl
                simp only [if_pos h35] at hsc
                repeat (first | refine wKB ?_ | refine awp_seq_k (fun K hK => ?_) | refine areg_text mixed tyok (by decide +kernel) ?_ | refine qal tyok (fun bx => ?_) | refine qbox (fun bx => ?_) | refine qboxV (fun bx => ?_) | ((repeat ((fail_if_success (refine hK _ _ ?_)); clear hK)); refine hK _ _ ?_; clear hK))
                refine ⟨⟨⟨i + 1, ln, col + 1, outs, l, [], false, true, a1, c1, a2, c2⟩, ⟨(by first | omega | (simp only; omega) | (simp; done) | (simp; omega)), ⟨(by first | omega | (simp only; omega) | (simp; done) | (simp; omega)), (by first | omega | (simp only; omega) | (simp; done) | (simp; omega))⟩, (by first | omega | (simp only; omega) | (simp; done) | (simp; omega)), (by first | omega | (simp only; omega) | (simp; done) | (simp; omega)), (by first | omega | (simp only; omega) | (simp; done) | (simp; omega)), ⟨(by first | omega | (simp only; omega) | (simp; done) | (simp; omega)), (by first | omega | (simp only; omega) | (simp; done) | (simp; omega))⟩, fun h => (by cases h), fun h => (by cases h), .inl ⟨hlt, hsc⟩⟩⟩, ?_, ⟨[], List.Perm.refl _⟩, (by first | omega | (simp only; omega) | (simp; done) | (simp; omega))⟩
                (repeat (first | exact True.intro | refine ⟨⟨_, rfl, Sub.refl _⟩, ?_⟩ | refine ⟨⟨_, rfl, Sub.nilso _ _⟩, ?_⟩ | refine ⟨⟨_, rfl, sl_tail _ _ _ _ _⟩, ?_⟩ | refine ⟨⟨_, rfl, Sub.of_eq (by first | rfl | (congr 1; first | omega | (simp only; omega)) | (simp; done) | (simp; omega))⟩, ?_⟩ | refine ⟨⟨_, rfl, Sub.view _ _ _ _⟩, ?_⟩))
              · have h35' : (s.getD ((i : Int)).toNat 0).toNat ≠ 35 := fun h => h35 (UInt8.toNat_inj.1 h)
                simp only [if_neg h35] at hsc
                repeat (first | refine wKB ?_ | refine awp_seq_k (fun K hK => ?_) | refine areg_text mixed tyok (by decide +kernel) ?_ | refine qal tyok (fun bx => ?_) | refine qbox (fun bx => ?_) | refine qboxV (fun bx => ?_) | ((repeat ((fail_if_success (refine hK _ _ ?_)); clear hK)); refine hK _ _ ?_; clear hK))
                refine ⟨⟨⟨i + 1, ln, col + 1, outs, l, [s.getD i 0], true, false, a1, c1, a2, c2⟩, ⟨(by first | omega | (simp only; omega) | (simp; done) | (simp; omega)), ⟨(by first | omega | (simp only; omega) | (simp; done) | (simp; omega)), (by first | omega | (simp only; omega) | (simp; done) | (simp; omega))⟩, (by first | omega | (simp only; omega) | (simp; done) | (simp; omega)), (by first | omega | (simp only; omega) | (simp; done) | (simp; omega)), (by first | omega | (simp only; omega) | (simp; done) | (simp; omega)), ⟨(by first | omega | (simp only; omega) | (simp; done) | (simp; omega)), (by first | omega | (simp only; omega) | (simp; done) | (simp; omega))⟩, fun _ => rfl, fun _ => ?_, .inl ⟨hlt, hsc⟩⟩⟩, ?_, ⟨[], List.Perm.refl _⟩, (by first | omega | (simp only; omega) | (simp; done) | (simp; omega))⟩
                · exact sl_one hlt
                · (repeat (first | exact True.intro | refine ⟨⟨_, rfl, Sub.refl _⟩, ?_⟩ | refine ⟨⟨_, rfl, Sub.nilso _ _⟩, ?_⟩ | refine ⟨⟨_, rfl, sl_tail _ _ _ _ _⟩, ?_⟩ | refine ⟨⟨_, rfl, Sub.of_eq (by first | rfl | (congr 1; first | omega | (simp only; omega)) | (simp; done) | (simp; omega))⟩, ?_⟩ | refine ⟨⟨_, rfl, Sub.view _ _ _ _⟩, ?_⟩))

end Go.Proofs.YtjinaakebjfbiaaGreatDoor
