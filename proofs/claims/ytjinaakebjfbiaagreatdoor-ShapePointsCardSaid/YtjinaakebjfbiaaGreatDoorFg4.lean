/-
  The figures' equations.
-/
import Derived.Test.YtjinaakebjfbiaaGreatDoorFg3
namespace Go.Proofs.YtjinaakebjfbiaaGreatDoor
open Go.Ab

theorem pieceF_len {base : Int} {n : Nat} {s rest : List UInt8} {p : PieceR} (h : pieceF base n s = some (p, rest)) : rest.length ≤ s.length := by
  unfold pieceF at h
  rw [sign_eq s] at h
  simp only [plus_eq] at h
  have t1 := trim_len s [45]
  have t2 := trim_len (Lib.trimPrefix s [45]) [43]
  have t3 := by_len (Lib.trimPrefix (Lib.trimPrefix s [45]) [43])
  cases hby : byF (Lib.trimPrefix (Lib.trimPrefix s [45]) [43]) with
  | mk m q =>
  obtain ⟨fb, s3⟩ := q
  rw [hby] at h t3
  simp only at h t3
  cases hf : formF base s3 with
  | none => rw [hf] at h; cases h
  | some q =>
  obtain ⟨x, s4⟩ := q
  rw [hf] at h
  simp only at h
  cases hfs : facsF base n s4 with
  | none => rw [hfs] at h; cases h
  | some q =>
  obtain ⟨l, s5⟩ := q
  rw [hfs] at h
  simp only [Option.some.injEq, Prod.mk.injEq] at h
  obtain ⟨rfl, rfl⟩ := h
  have t4 := formF_len hf
  have t5 := facsF_rest hfs
  omega

theorem pieces_count (c : UInt8) : ∀ (l : List UInt8), (splitC c l).length ≤ l.length + 1
  | [] => by simp [splitC]
  | b :: l => by
    have := pieces_count c l
    simp only [splitC]
    split
    · simp only [List.length_cons]; omega
    · split
      · simp
      · rename_i h
        rw [h] at this
        simp only [List.length_cons] at this ⊢
        omega

theorem pieces_len (c : UInt8) : ∀ (l p : List UInt8), p ∈ splitC c l → p.length ≤ l.length
  | [], p, h => by simp [splitC] at h; simp [h]
  | b :: l, p, h => by
    simp only [splitC] at h
    split at h
    · rcases List.mem_cons.1 h with rfl | h
      · simp
      · have := pieces_len c l p h; simp; omega
    · split at h
      · simp at h; simp [h]
      · rename_i q qs hq
        rcases List.mem_cons.1 h with rfl | h
        · have := pieces_len c l q (by rw [hq]; simp); simp; omega
        · have := pieces_len c l p (by rw [hq]; simp [h]); simp; omega

theorem sumF_len {base : Int} {n : Nat} : ∀ {k : Nat} {s : List UInt8} {l : List PieceR}, sumF base n k s = some l → l.length ≤ k
  | 0, s, l, h => by simp [sumF] at h
  | k + 1, s, l, h => by
    simp only [sumF] at h
    split at h
    · cases h
      exact Nat.zero_le _
    · split at h
      · cases h
      · split at h
        · cases h
        · rename_i h1
          cases h
          have := sumF_len h1
          simp only [List.length_cons]
          omega

theorem allO_len {α β : Type} {f : α → Option β} : ∀ {l : List α} {r : List β}, allO f l = some r → r.length = l.length
  | [], r, h => by
    simp only [allO, Option.some.injEq] at h
    subst h
    rfl
  | x :: l, r, h => by
    simp only [allO] at h
    split at h
    · cases h
    · split at h
      · cases h
      · rename_i h1
        cases h
        simp [allO_len h1]

theorem cbEqs : Callable Tryz.prog 48 := fun _ _ => by kernel_rfl
set_option maxHeartbeats 3200000 in
set_option maxRecDepth 100000 in
theorem equations_c (s : List UInt8) (base : Int) (L : List (List PieceR)) (hs : s.length ≤ 1000000) (h3 : 0 ≤ base) (h4 : base ≤ 1) (h : eqsF base s = some L) :
    PCalls Tryz.prog 48 [.str s, .int .i64 base] (sl eqE 1 L .view) := by
  refine pcalls_of_awp tyok cbEqs Tryz.func48 rfl rfl ?_
  unfold eqsF at h
  ((repeat (first | refine wK ?_ | refine awp_seq_k (fun K hK => ?_) | refine areg_text mixed tyok (by decide +kernel) ?_ | ((repeat ((fail_if_success (refine hK _ _ ?_)); clear hK)); refine hK _ _ ?_; clear hK))); ((first | refine qal tyok (fun b3 => ?_) | refine qbox (fun b3 => ?_) | refine qboxV (fun b3 => ?_))); (repeat (first | refine wK ?_ | refine awp_seq_k (fun K hK => ?_) | refine areg_text mixed tyok (by decide +kernel) ?_ | ((repeat ((fail_if_success (refine hK _ _ ?_)); clear hK)); refine hK _ _ ?_; clear hK))); ((first | refine qal tyok (fun b4 => ?_) | refine qbox (fun b4 => ?_) | refine qboxV (fun b4 => ?_))); (repeat (first | refine wK ?_ | refine awp_seq_k (fun K hK => ?_) | refine areg_text mixed tyok (by decide +kernel) ?_ | refine qal tyok (fun bx => ?_) | refine qbox (fun bx => ?_) | refine qboxV (fun bx => ?_) | ((repeat ((fail_if_success (refine hK _ _ ?_)); clear hK)); refine hK _ _ ?_; clear hK))))
  refine TR.hcall rfl rfl rfl True.intro rfl rfl (List.Perm.refl _) (SplitSeq_c _ _) (fun v H' hK => ?_) (fun v H' hK => ?_)
  rotate_left
  · obtain ⟨bs, bsep, bsave, e, _⟩ := hK
    cases e
  obtain ⟨bs, bsep, bsave, e, rfl⟩ := hK
  cases e
  repeat (first | refine wK ?_ | refine awp_seq_k (fun K hK => ?_) | refine areg_text mixed tyok (by decide +kernel) ?_ | refine qal tyok (fun bx => ?_) | refine qbox (fun bx => ?_) | refine qboxV (fun bx => ?_) | ((repeat ((fail_if_success (refine hK _ _ ?_)); clear hK)); refine hK _ _ ?_; clear hK))
  refine awp_weaken (T' := [(9, .func (.func 134) [] [.ptr bsep 0, .ptr bs 0, .ptr bsave 0]), (4, .ptr b4 0), (3, .ptr b3 0)]) (Weak.spec (by (repeat (first | exact True.intro | refine ⟨⟨_, rfl, Sub.refl _⟩, ?_⟩ | refine ⟨⟨_, rfl, Sub.nilso _ _⟩, ?_⟩ | refine ⟨⟨_, rfl, sl_tail _ _ _ _ _⟩, ?_⟩ | refine ⟨⟨_, rfl, Sub.of_eq (by first | rfl | (congr 1; first | omega | (simp only; omega)) | (simp; done) | (simp; omega))⟩, ?_⟩ | refine ⟨⟨_, rfl, Sub.view _ _ _ _⟩, ?_⟩)))) ?_
  refine awp_boxSub (seqBoxes bs bsep bsave s [59]) (Sub.sl_nil eqE 1) ?_
  refine awp_tok0 1 138 ?_
  refine awp_rangeSeq (splitSeq1_c s 59 bs bsep bsave (by omega)) rfl (by decide) (by simp) (Hb := [.tok none 0 0 1 138, .box b4 49 (sl eqE 1 [] (.own none 0)), .box b3 3 (.int .i64 base)]) (List.perm_middle (l₁ := seqBoxes bs bsep bsave s [59]) (l₂ := [.box b4 49 (sl eqE 1 [] (.own none 0)), .box b3 3 (.int .i64 base)])).symm
    (fun k Hk => k ≤ (splitC 59 s).length ∧ ∃ (outs rest : List (List PieceR)) (a : Option Addr) (cap : Nat) (G : AHeap), Hk = G ++ [.tok a cap outs.length 1 138, .box b4 49 (sl eqE 1 outs (.own a cap)), .box b3 3 (.int .i64 base)] ∧ outs.length = k ∧ allO (sumF base 9 9) ((splitC 59 s).drop k) = some rest ∧ outs ++ rest = L)
    ⟨Nat.zero_le _, [], L, none, 0, [], rfl, rfl, h, rfl⟩ ?_ ?_
  · rintro k Hk vs hx ⟨hk, outs, rest, a, cap, G, rfl, hol, hall, hL⟩
    obtain ⟨p, hp, rfl⟩ : ∃ p, (splitC 59 s)[k]? = some p ∧ vs = [.str p] := by
      simp only [List.getElem?_map, Option.map_eq_some_iff] at hx
      obtain ⟨p, h1, h2⟩ := hx
      exact ⟨p, h1, h2.symm⟩
    have hk' := (List.getElem?_eq_some_iff.1 hp).1
    have hcount := pieces_count 59 s
    have hplen := pieces_len 59 s p (List.mem_of_getElem? hp)
    have hdk : (splitC 59 s).drop k = p :: (splitC 59 s).drop (k + 1) := by
      rw [List.drop_eq_getElem_cons hk', (List.getElem?_eq_some_iff.1 hp).2]
    rw [hdk] at hall
    simp only [allO] at hall
    cases hsum : sumF base 9 9 p with
    | none => rw [hsum] at hall; cases hall
    | some lp =>
    rw [hsum] at hall
    simp only at hall
    cases hall2 : allO (sumF base 9 9) ((splitC 59 s).drop (k + 1)) with
    | none => rw [hall2] at hall; cases hall
    | some rest2 =>
    rw [hall2] at hall
    simp only [Option.some.injEq] at hall
    subst hall
    refine awp_dropF ?_
    repeat (first | refine wK ?_ | refine awp_seq_k (fun K hK => ?_) | refine areg_text mixed tyok (by decide +kernel) ?_ | refine qal tyok (fun bx => ?_) | refine qbox (fun bx => ?_) | refine qboxV (fun bx => ?_) | ((repeat ((fail_if_success (refine hK _ _ ?_)); clear hK)); refine hK _ _ ?_; clear hK))
    refine ⟨rfl, ?_⟩
    ((repeat (first | refine wK ?_ | refine awp_seq_k (fun K hK => ?_) | refine areg_text mixed tyok (by decide +kernel) ?_ | ((repeat ((fail_if_success (refine hK _ _ ?_)); clear hK)); refine hK _ _ ?_; clear hK))); ((first | refine qal tyok (fun b14 => ?_) | refine qbox (fun b14 => ?_) | refine qboxV (fun b14 => ?_))); (repeat (first | refine wK ?_ | refine awp_seq_k (fun K hK => ?_) | refine areg_text mixed tyok (by decide +kernel) ?_ | refine qal tyok (fun bx => ?_) | refine qbox (fun bx => ?_) | refine qboxV (fun bx => ?_) | ((repeat ((fail_if_success (refine hK _ _ ?_)); clear hK)); refine hK _ _ ?_; clear hK))))
    refine awp_tok0 3 141 ?_
    have hlp := sumF_len hsum
    refine awp_loopP (ι := { y : Nat × List PieceR × List PieceR × List UInt8 × Option Addr × Nat // sumF base 9 y.1 y.2.2.2.1 = some y.2.2.1 ∧ y.2.1 ++ y.2.2.1 = lp ∧ y.2.2.2.1.length ≤ 1000000 })
      (fun y => [(6, .ptr b14 0), (7, sl pieceE 3 y.1.2.1 (.own y.1.2.2.2.2.1 y.1.2.2.2.2.2)), (4, .ptr b4 0), (3, .ptr b3 0)])
      (fun y => [.box b14 137 (.agg [.str y.1.2.2.2.1, .int .i64 base]), .tok y.1.2.2.2.2.1 y.1.2.2.2.2.2 y.1.2.1.length 3 141, .tok a cap outs.length 1 138, .box b4 49 (sl eqE 1 outs (.own a cap)), .box b3 3 (.int .i64 base)])
      (fun y => y.1.1) ⟨(9, [], lp, p, none, 0), hsum, rfl, by show p.length ≤ 1000000; omega⟩ (by (repeat (first | exact True.intro | refine ⟨⟨_, rfl, Sub.refl _⟩, ?_⟩ | refine ⟨⟨_, rfl, Sub.nilso _ _⟩, ?_⟩ | refine ⟨⟨_, rfl, sl_tail _ _ _ _ _⟩, ?_⟩ | refine ⟨⟨_, rfl, Sub.of_eq (by first | rfl | (congr 1; first | omega | (simp only; omega)) | (simp; done) | (simp; omega))⟩, ?_⟩ | refine ⟨⟨_, rfl, Sub.view _ _ _ _⟩, ?_⟩))) ⟨[], List.Perm.swap _ _ _⟩ ?_
    rintro ⟨⟨j, acc, l2, cur, a2, c2⟩, hj, hacc, hcur⟩
    simp only at hj hacc hcur ⊢
    have hal : acc.length + l2.length = lp.length := by rw [← List.length_append, hacc]
    cases j with
    | zero => simp [sumF] at hj
    | succ j =>
    simp only [sumF] at hj
    cases cur with
    | nil =>
      simp only [List.isEmpty_nil, Option.some.injEq] at hj
      subst hj
      rw [List.append_nil] at hacc
      subst hacc
      repeat (first | refine wK ?_ | refine awp_seq_k (fun K hK => ?_) | refine areg_text mixed tyok (by decide +kernel) ?_ | refine qal tyok (fun bx => ?_) | refine qbox (fun bx => ?_) | refine qboxV (fun bx => ?_) | ((repeat ((fail_if_success (refine hK _ _ ?_)); clear hK)); refine hK _ _ ?_; clear hK))
      refine qapp tyok eqE outs acc (.cons (Sub.view _ _ _ _) .nil) ?_ fun ad cp => ?_
      · simp only
        omega
      repeat (first | refine wK ?_ | refine awp_seq_k (fun K hK => ?_) | refine areg_text mixed tyok (by decide +kernel) ?_ | refine qal tyok (fun bx => ?_) | refine qbox (fun bx => ?_) | refine qboxV (fun bx => ?_) | ((repeat ((fail_if_success (refine hK _ _ ?_)); clear hK)); refine hK _ _ ?_; clear hK))
      exact ⟨hk', outs ++ [acc], rest2, ad, cp, [_, _], rfl, by simp [hol], rfl, by simpa using hL⟩
    | cons x t =>
      simp only [List.isEmpty_cons] at hj
      cases hpc : pieceF base 9 (x :: t) with
      | none => rw [hpc] at hj; cases hj
      | some q =>
      obtain ⟨pc, s1⟩ := q
      rw [hpc] at hj
      simp only at hj
      have t1 := pieceF_len hpc
      cases hsm : sumF base 9 j s1 with
      | none => rw [hsm] at hj; cases hj
      | some l3 =>
      rw [hsm] at hj
      simp only [Option.some.injEq] at hj
      subst hj
      repeat (first | refine wK ?_ | refine awp_seq_k (fun K hK => ?_) | refine areg_text mixed tyok (by decide +kernel) ?_ | refine qal tyok (fun bx => ?_) | refine qbox (fun bx => ?_) | refine qboxV (fun bx => ?_) | ((repeat ((fail_if_success (refine hK _ _ ?_)); clear hK)); refine hK _ _ ?_; clear hK))
      (first | refine qcallE .here (piece_c b14 (x :: t) s1 base 9 pc hcur (by decide) h3 h4 hpc) ?_ | refine qcallE (.there .here) (piece_c b14 (x :: t) s1 base 9 pc hcur (by decide) h3 h4 hpc) ?_ | refine qcallE (.there (.there .here)) (piece_c b14 (x :: t) s1 base 9 pc hcur (by decide) h3 h4 hpc) ?_ | refine qcallE (.there (.there (.there .here))) (piece_c b14 (x :: t) s1 base 9 pc hcur (by decide) h3 h4 hpc) ?_ | refine qcallE (.there (.there (.there (.there .here)))) (piece_c b14 (x :: t) s1 base 9 pc hcur (by decide) h3 h4 hpc) ?_)
      repeat (first | refine wK ?_ | refine awp_seq_k (fun K hK => ?_) | refine areg_text mixed tyok (by decide +kernel) ?_ | refine qal tyok (fun bx => ?_) | refine qbox (fun bx => ?_) | refine qboxV (fun bx => ?_) | ((repeat ((fail_if_success (refine hK _ _ ?_)); clear hK)); refine hK _ _ ?_; clear hK))
      refine qapp tyok pieceE acc pc (SubL.refl _) ?_ fun ad cp => ?_
      · simp only
        omega
      repeat (first | refine wK ?_ | refine awp_seq_k (fun K hK => ?_) | refine areg_text mixed tyok (by decide +kernel) ?_ | refine qal tyok (fun bx => ?_) | refine qbox (fun bx => ?_) | refine qboxV (fun bx => ?_) | ((repeat ((fail_if_success (refine hK _ _ ?_)); clear hK)); refine hK _ _ ?_; clear hK))
      refine ⟨⟨(j, acc ++ [pc], l3, s1, ad, cp), hsm, by simpa using hacc, by show s1.length ≤ 1000000; omega⟩, (by (repeat (first | exact True.intro | refine ⟨⟨_, rfl, Sub.refl _⟩, ?_⟩ | refine ⟨⟨_, rfl, Sub.nilso _ _⟩, ?_⟩ | refine ⟨⟨_, rfl, sl_tail _ _ _ _ _⟩, ?_⟩ | refine ⟨⟨_, rfl, Sub.of_eq (by first | rfl | (congr 1; first | omega | (simp only; omega)) | (simp; done) | (simp; omega))⟩, ?_⟩ | refine ⟨⟨_, rfl, Sub.view _ _ _ _⟩, ?_⟩))), ⟨[], List.Perm.refl _⟩, Nat.lt_succ_self _⟩
  · rintro He H' ⟨s', rfl⟩ ⟨hk, outs, rest, a, cap, G, rfl, hol, hall, hL⟩
    rw [List.length_map] at hol hall
    rw [List.drop_length] at hall
    simp only [allO, Option.some.injEq] at hall
    subst hall
    rw [List.append_nil] at hL
    subst hL
    refine blockQ_normal ?_
    refine hK _ _ ?_
    rw [← List.append_assoc]
    refine awp_dropF ?_
    repeat (first | refine wK ?_ | refine awp_seq_k (fun K hK => ?_) | refine areg_text mixed tyok (by decide +kernel) ?_ | refine qal tyok (fun bx => ?_) | refine qbox (fun bx => ?_) | refine qboxV (fun bx => ?_) | ((repeat ((fail_if_success (refine hK _ _ ?_)); clear hK)); refine hK _ _ ?_; clear hK))
    exact fnQ_ret 3 rfl (.cell rfl rfl (List.Mem.tail _ (List.Mem.head _)) rfl trivial .nil) (Sub.view _ _ _ _) ⟨rfl, rfl⟩

end Go.Proofs.YtjinaakebjfbiaaGreatDoor
