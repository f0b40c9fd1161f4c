/-
  The line of any statement: parser.Line, porismref20.Line.
-/
import Derived.Test.YtjinaakebjfbiaaGreatDoorSt
import Derived.Test.YtjinaakebjfbiaaGreatDoorAbC
import Derived.Test.YtjinaakebjfbiaaGreatDoorCa
namespace Go.Proofs.YtjinaakebjfbiaaGreatDoor
open Go.Ab

def hdW (x : StI) : List (List UInt8) := if x.k = 1 then [wLimits] else if x.k = 3 then [wPoint] else if x.k = 4 then [x.new.w, [61], x.word.w] else [wShow, x.word.w]

theorem lnWords_hd {x : StI} (h : x.k = 1 ∨ x.k = 3 ∨ x.k = 4 ∨ x.k = 5) : lnWords x = hdW x ++ x.args.map (·.w) := by
  unfold lnWords hdW
  rcases h with h | h | h | h
  · rw [if_pos h, if_pos h]; rfl
  · rw [if_neg (by omega), if_neg (by omega), if_pos h, if_neg (by omega), if_pos h]; rfl
  · rw [if_neg (by omega), if_neg (by omega), if_neg (by omega), if_pos h, if_neg (by omega), if_neg (by omega), if_pos h]; rfl
  · rw [if_neg (by omega), if_neg (by omega), if_neg (by omega), if_neg (by omega), if_pos h, if_neg (by omega), if_neg (by omega), if_neg (by omega)]; rfl

theorem full1 (a : List UInt8) : Sub (.slice 1 1 (chunk [.str a] 1) .full) (sl strE 1 [a] .full) :=
  Sub.els fun i hi => match i, hi with
    | 0, _ => SubL.refl _
theorem full2 (a b : List UInt8) : Sub (.slice 1 2 (chunk [.str a, .str b] 1) .full) (sl strE 1 [a, b] .full) :=
  Sub.els fun i hi => match i, hi with
    | 0, _ => SubL.refl _
    | 1, _ => SubL.refl _
theorem full3 (a b c : List UInt8) : Sub (.slice 1 3 (chunk [.str a, .str b, .str c] 1) .full) (sl strE 1 [a, b, c] .full) :=
  Sub.els fun i hi => match i, hi with
    | 0, _ => SubL.refl _
    | 1, _ => SubL.refl _
    | 2, _ => SubL.refl _

theorem hdW_len (x : StI) : (hdW x).length ≤ 3 := by
  unfold hdW
  split
  · decide
  split
  · decide
  split
  · simp
  · simp

theorem cbLn : Callable Tryz.prog 27 := fun _ _ => by kernel_rfl
set_option maxHeartbeats 3200000 in
set_option maxRecDepth 100000 in
theorem line_c (x : StI) (ha : x.args.length ≤ 2000000) (hl : lenI x ≤ 2000000) : PCalls Tryz.prog 27 [.agg (stmtEI x)] (.str (lineI x)) := by
  refine pcalls_of_awp tyok cbLn Tryz.func27 rfl rfl ?_
  have hll := lineI_len x
  have hhl := hdW_len x
  by_cases hk : x.k = 1 ∨ x.k = 3 ∨ x.k = 4 ∨ x.k = 5
  · have hw := lnWords_hd hk
    ((repeat (first | refine wKB ?_ | refine awp_seq_k (fun K hK => ?_) | refine areg_text mixed tyok (by decide +kernel) ?_ | ((repeat ((fail_if_success (refine hK _ _ ?_)); clear hK)); refine hK _ _ ?_; clear hK))); ((first | refine qal tyok (fun b1 => ?_) | refine qbox (fun b1 => ?_) | refine qboxV (fun b1 => ?_))); (repeat (first | refine wKB ?_ | refine awp_seq_k (fun K hK => ?_) | refine areg_text mixed tyok (by decide +kernel) ?_ | refine qal tyok (fun bx => ?_) | refine qbox (fun bx => ?_) | refine qboxV (fun bx => ?_) | ((repeat ((fail_if_success (refine hK _ _ ?_)); clear hK)); refine hK _ _ ?_; clear hK))))
    refine (have hr := cutKP (Wk := [(1, .ptr b1 0), (3, sl strE 1 (hdW x) .full)]) (H0 := [.box b1 47 (.agg (stmtEI x))]) hK ?_; ?_)
    rotate_left
    · clear hK
      refine awp_cond rfl (fun hb => ?_) (fun hb => ?_)
      · have h1 : x.k = 1 := by simpa using hb
        repeat (first | refine wKB ?_ | refine awp_seq_k (fun K hK => ?_) | refine areg_text mixed tyok (by decide +kernel) ?_ | refine qal tyok (fun bx => ?_) | refine qbox (fun bx => ?_) | refine qboxV (fun bx => ?_) | ((repeat ((fail_if_success (refine hK _ _ ?_)); clear hK)); refine hK _ _ ?_; clear hK))
        refine hr _ _ ?_ (List.Perm.refl _)
        refine ⟨⟨_, rfl, Sub.refl _⟩, ⟨_, rfl, ?_⟩, trivial⟩
        rw [show hdW x = [wLimits] by unfold hdW; rw [if_pos h1]]
        exact full1 _
      · have h1 : ¬ x.k = 1 := by simpa using hb
        rcases hk with h | h | h | h
        · exact absurd h h1
        · repeat (first | refine wKB ?_ | refine awp_seq_k (fun K hK => ?_) | refine areg_text mixed tyok (by decide +kernel) ?_ | refine qal tyok (fun bx => ?_) | refine qbox (fun bx => ?_) | refine qboxV (fun bx => ?_) | ((repeat ((fail_if_success (refine hK _ _ ?_)); clear hK)); refine hK _ _ ?_; clear hK))
          refine hr _ _ ?_ (List.Perm.refl _)
          refine ⟨⟨_, rfl, Sub.refl _⟩, ⟨_, rfl, ?_⟩, trivial⟩
          rw [show hdW x = [wPoint] by unfold hdW; rw [if_neg h1, if_pos h]]
          exact full1 _
        · repeat (first | refine wKB ?_ | refine awp_seq_k (fun K hK => ?_) | refine areg_text mixed tyok (by decide +kernel) ?_ | refine qal tyok (fun bx => ?_) | refine qbox (fun bx => ?_) | refine qboxV (fun bx => ?_) | ((repeat ((fail_if_success (refine hK _ _ ?_)); clear hK)); refine hK _ _ ?_; clear hK))
          refine hr _ _ ?_ (List.Perm.refl _)
          refine ⟨⟨_, rfl, Sub.refl _⟩, ⟨_, rfl, ?_⟩, trivial⟩
          rw [show hdW x = [x.new.w, [61], x.word.w] by unfold hdW; rw [if_neg h1, if_neg (by omega), if_pos h]]
          exact full3 _ _ _
        · repeat (first | refine wKB ?_ | refine awp_seq_k (fun K hK => ?_) | refine areg_text mixed tyok (by decide +kernel) ?_ | refine qal tyok (fun bx => ?_) | refine qbox (fun bx => ?_) | refine qboxV (fun bx => ?_) | ((repeat ((fail_if_success (refine hK _ _ ?_)); clear hK)); refine hK _ _ ?_; clear hK))
          refine hr _ _ ?_ (List.Perm.refl _)
          refine ⟨⟨_, rfl, Sub.refl _⟩, ⟨_, rfl, ?_⟩, trivial⟩
          rw [show hdW x = [wShow, x.word.w] by unfold hdW; rw [if_neg h1, if_neg (by omega), if_neg (by omega)]]
          exact full2 _ _
    clear hK
    repeat (first | refine wKB ?_ | refine awp_seq_k (fun K hK => ?_) | refine areg_text mixed tyok (by decide +kernel) ?_ | refine qal tyok (fun bx => ?_) | refine qbox (fun bx => ?_) | refine qboxV (fun bx => ?_) | ((repeat ((fail_if_success (refine hK _ _ ?_)); clear hK)); refine hK _ _ ?_; clear hK))
    refine awp_full 9 (t := 3) rfl (fun a0 => ?_)
    refine awp_loop0 (ι := { y : Nat × List (List UInt8) × Option Addr × Nat // y.1 ≤ x.args.length ∧ y.2.1 = hdW x ++ (x.args.take y.1).map (·.w) })
      (fun y => [(1, .ptr b1 0), (3, sl strE 1 y.1.2.1 (.own y.1.2.2.1 y.1.2.2.2)), (36, sl tokEI 5 x.args .view), (37, .int .i64 x.args.length), (38, .int .i64 y.1.1)])
      (fun y => [.tok y.1.2.2.1 y.1.2.2.2 y.1.2.1.length 1 9, .box b1 47 (.agg (stmtEI x))]) (fun y => x.args.length - y.1.1) ⟨(0, hdW x, a0, (hdW x).length), Nat.zero_le _, by simp⟩ (by (repeat (first | exact True.intro | refine ⟨⟨_, rfl, Sub.refl _⟩, ?_⟩ | refine ⟨⟨_, rfl, Sub.nilso _ _⟩, ?_⟩ | refine ⟨⟨_, rfl, sl_tail _ _ _ _ _⟩, ?_⟩ | refine ⟨⟨_, rfl, Sub.of_eq (by first | rfl | (congr 1; first | omega | (simp only; omega)) | (simp; done) | (simp; omega))⟩, ?_⟩ | refine ⟨⟨_, rfl, Sub.view _ _ _ _⟩, ?_⟩))) ⟨0, rfl⟩ ?_
    rintro ⟨⟨i, acc, a2, c2⟩, hi, hacc⟩
    simp only at hi hacc ⊢
    have hal : acc.length = (hdW x).length + i := by rw [hacc, List.length_append, List.length_map, List.length_take]; omega
    by_cases hlt : i < x.args.length
    · have hlt' : (i : Int) < x.args.length := by omega
      ((repeat (first | refine wKB ?_ | refine awp_seq_k (fun K hK => ?_) | refine areg_text mixed tyok (by decide +kernel) ?_ | ((repeat ((fail_if_success (refine hK _ _ ?_)); clear hK)); refine hK _ _ ?_; clear hK))); ((first | refine qal tyok (fun b5 => ?_) | refine qbox (fun b5 => ?_) | refine qboxV (fun b5 => ?_))); (repeat (first | refine wKB ?_ | refine awp_seq_k (fun K hK => ?_) | refine areg_text mixed tyok (by decide +kernel) ?_ | refine qal tyok (fun bx => ?_) | refine qbox (fun bx => ?_) | refine qboxV (fun bx => ?_) | ((repeat ((fail_if_success (refine hK _ _ ?_)); clear hK)); refine hK _ _ ?_; clear hK))))
      refine qapp tyok strE acc (x.args.getD i default).w (SubL.refl _) ?_ fun ad cp => ?_
      · simp only
        omega
      repeat (first | refine wKB ?_ | refine awp_seq_k (fun K hK => ?_) | refine areg_text mixed tyok (by decide +kernel) ?_ | refine qal tyok (fun bx => ?_) | refine qbox (fun bx => ?_) | refine qboxV (fun bx => ?_) | ((repeat ((fail_if_success (refine hK _ _ ?_)); clear hK)); refine hK _ _ ?_; clear hK))
      refine ⟨⟨(i + 1, acc ++ [(x.args.getD i default).w], ad, cp), hlt, ?_⟩, (by (repeat (first | exact True.intro | refine ⟨⟨_, rfl, Sub.refl _⟩, ?_⟩ | refine ⟨⟨_, rfl, Sub.nilso _ _⟩, ?_⟩ | refine ⟨⟨_, rfl, sl_tail _ _ _ _ _⟩, ?_⟩ | refine ⟨⟨_, rfl, Sub.of_eq (by first | rfl | (congr 1; first | omega | (simp only; omega)) | (simp; done) | (simp; omega))⟩, ?_⟩ | refine ⟨⟨_, rfl, Sub.view _ _ _ _⟩, ?_⟩))), ⟨1, rfl⟩, ?_⟩
      · show acc ++ _ = _
        rw [hacc, List.take_succ_eq_append_getElem hlt, List.map_append, getD_def hlt, List.append_assoc]
        rfl
      · simp only
        omega
    · have hge : ¬ (i : Int) < x.args.length := by omega
      obtain rfl : i = x.args.length := by omega
      rw [List.take_length, ← hw] at hacc
      subst hacc
      have gj := fun o => join_c (lnWords x) [32] o (by omega) (by unfold lineI at hll; omega)
      repeat (first | refine wKB ?_ | refine awp_seq_k (fun K hK => ?_) | refine areg_text mixed tyok (by decide +kernel) ?_ | refine qal tyok (fun bx => ?_) | refine qbox (fun bx => ?_) | refine qboxV (fun bx => ?_) | refine TR.pcall rfl rfl rfl rfl True.intro rfl rfl (gj _) ?_ | refine pco rfl rfl rfl rfl rfl rfl rfl rfl (fun _ => gj _) ?_ | ((repeat ((fail_if_success (refine hK _ _ ?_)); clear hK)); refine hK _ _ ?_; clear hK))
      refine r1 ?_
      exact Sub.refl _
  · by_cases h2 : x.k = 2
    · have hl2 : x.word.w.length ≤ 2000000 := by unfold lenI at hl; omega
      have hm : ({ data := #[109, 111, 100, 101, 32] } : ByteArray).data.toList.length = 5 := rfl
      repeat (first | refine wKB ?_ | refine awp_seq_k (fun K hK => ?_) | refine areg_text mixed tyok (by decide +kernel) ?_ | refine qal tyok (fun bx => ?_) | refine qbox (fun bx => ?_) | refine qboxV (fun bx => ?_) | ((repeat ((fail_if_success (refine hK _ _ ?_)); clear hK)); refine hK _ _ ?_; clear hK))
      refine r1 ?_
      refine Sub.of_eq ?_
      unfold lineI lnWords
      rw [if_neg (by omega), if_pos h2, join_two, Lib.join_one]
      rfl
    · have h1 : x.k ≠ 1 := fun e => hk (.inl e)
      have h3 : x.k ≠ 3 := fun e => hk (.inr (.inl e))
      have h4 : x.k ≠ 4 := fun e => hk (.inr (.inr (.inl e)))
      have h5 : x.k ≠ 5 := fun e => hk (.inr (.inr (.inr e)))
      repeat (first | refine wKB ?_ | refine awp_seq_k (fun K hK => ?_) | refine areg_text mixed tyok (by decide +kernel) ?_ | refine qal tyok (fun bx => ?_) | refine qbox (fun bx => ?_) | refine qboxV (fun bx => ?_) | ((repeat ((fail_if_success (refine hK _ _ ?_)); clear hK)); refine hK _ _ ?_; clear hK))
      refine r1 ?_
      refine Sub.of_eq ?_
      unfold lineI lnWords
      rw [if_neg h1, if_neg h2, if_neg h3, if_neg h4, if_neg h5, Lib.join_nil]

theorem join_snoc (c : UInt8) (y : List UInt8) : ∀ (xs : List (List UInt8)), xs ≠ [] → Lib.join (xs ++ [y]) [c] = Lib.join xs [c] ++ c :: y
  | [], h => absurd rfl h
  | [x], _ => by
    rw [show [x] ++ [y] = [x, y] from rfl, join_two, Lib.join_one, Lib.join_one]
  | x :: z :: r, _ => by
    rw [show x :: z :: r ++ [y] = x :: z :: (r ++ [y]) from rfl, join_two, show z :: (r ++ [y]) = (z :: r) ++ [y] from rfl, join_snoc c y (z :: r) (by simp), join_two]
    simp

theorem join_le (c : UInt8) : ∀ (ys xs : List (List UInt8)), xs ≠ [] → (Lib.join xs [c]).length ≤ (Lib.join (xs ++ ys) [c]).length
  | [], xs, _ => by simp
  | y :: ys, xs, h => by
    have h1 := join_le c ys (xs ++ [y]) (by simp)
    rw [join_snoc c y xs h] at h1
    rw [show xs ++ y :: ys = xs ++ [y] ++ ys by simp]
    simp only [List.length_append] at h1
    omega

theorem hdW_ne (x : StI) : hdW x ≠ [] := by
  unfold hdW
  split
  · simp
  split
  · simp
  split
  · simp
  · simp

theorem cbRln : Callable Tryz.prog 62 := fun _ _ => by kernel_rfl
set_option maxHeartbeats 3200000 in
set_option maxRecDepth 100000 in
theorem rline_c (x : StI) (ha : x.args.length ≤ 2000000) (hl : lenI x ≤ 2000000) : PCalls Tryz.prog 62 [.agg (stmtEI x)] (.str (lineI x)) := by
  refine pcalls_of_awp tyok cbRln Tryz.func62 rfl rfl ?_
  have hll := lineI_len x
  have hl1 : x.word.w.length ≤ 2000000 := by unfold lenI at hl; omega
  have hl2 : x.new.w.length ≤ 2000000 := by unfold lenI at hl; omega
  have hm : ({ data := #[109, 111, 100, 101, 32] } : ByteArray).data.toList.length = 5 := rfl
  have hm2 : ({ data := #[115, 104, 111, 119, 32] } : ByteArray).data.toList.length = 5 := rfl
  have hm3 : ({ data := #[32, 61, 32] } : ByteArray).data.toList.length = 3 := rfl
  have hm4 : (x.new.w ++ ({ data := #[32, 61, 32] } : ByteArray).data.toList).length = x.new.w.length + 3 := by simp
  have hm5 : ({ data := #[32] } : ByteArray).data.toList.length = 1 := rfl
  by_cases hk : x.k = 1 ∨ x.k = 3 ∨ x.k = 4 ∨ x.k = 5
  · have hw := lnWords_hd hk
    ((repeat (first | refine wKB ?_ | refine awp_seq_k (fun K hK => ?_) | refine areg_text mixed tyok (by decide +kernel) ?_ | ((repeat ((fail_if_success (refine hK _ _ ?_)); clear hK)); refine hK _ _ ?_; clear hK))); ((first | refine qal tyok (fun b1 => ?_) | refine qbox (fun b1 => ?_) | refine qboxV (fun b1 => ?_))); (repeat (first | refine wKB ?_ | refine awp_seq_k (fun K hK => ?_) | refine areg_text mixed tyok (by decide +kernel) ?_ | refine qal tyok (fun bx => ?_) | refine qbox (fun bx => ?_) | refine qboxV (fun bx => ?_) | ((repeat ((fail_if_success (refine hK _ _ ?_)); clear hK)); refine hK _ _ ?_; clear hK))))
    refine (have hr := cutKP (Wk := [(1, .ptr b1 0), (3, .str (Lib.join (hdW x) [32]))]) (H0 := [.box b1 47 (.agg (stmtEI x))]) hK ?_; ?_)
    rotate_left
    · clear hK
      refine awp_cond rfl (fun hb => ?_) (fun hb => ?_)
      · have h1 : x.k = 1 := by simpa using hb
        repeat (first | refine wKB ?_ | refine awp_seq_k (fun K hK => ?_) | refine areg_text mixed tyok (by decide +kernel) ?_ | refine qal tyok (fun bx => ?_) | refine qbox (fun bx => ?_) | refine qboxV (fun bx => ?_) | ((repeat ((fail_if_success (refine hK _ _ ?_)); clear hK)); refine hK _ _ ?_; clear hK))
        refine hr _ _ ?_ (List.Perm.refl _)
        refine ⟨⟨_, rfl, Sub.refl _⟩, ⟨_, rfl, Sub.of_eq ?_⟩, trivial⟩
        rw [show hdW x = [wLimits] by unfold hdW; rw [if_pos h1], Lib.join_one]
        rfl
      · have h1 : ¬ x.k = 1 := by simpa using hb
        rcases hk with h | h | h | h
        · exact absurd h h1
        · repeat (first | refine wKB ?_ | refine awp_seq_k (fun K hK => ?_) | refine areg_text mixed tyok (by decide +kernel) ?_ | refine qal tyok (fun bx => ?_) | refine qbox (fun bx => ?_) | refine qboxV (fun bx => ?_) | ((repeat ((fail_if_success (refine hK _ _ ?_)); clear hK)); refine hK _ _ ?_; clear hK))
          refine hr _ _ ?_ (List.Perm.refl _)
          refine ⟨⟨_, rfl, Sub.refl _⟩, ⟨_, rfl, Sub.of_eq ?_⟩, trivial⟩
          rw [show hdW x = [wPoint] by unfold hdW; rw [if_neg h1, if_pos h], Lib.join_one]
          rfl
        · repeat (first | refine wKB ?_ | refine awp_seq_k (fun K hK => ?_) | refine areg_text mixed tyok (by decide +kernel) ?_ | refine qal tyok (fun bx => ?_) | refine qbox (fun bx => ?_) | refine qboxV (fun bx => ?_) | ((repeat ((fail_if_success (refine hK _ _ ?_)); clear hK)); refine hK _ _ ?_; clear hK))
          refine hr _ _ ?_ (List.Perm.refl _)
          refine ⟨⟨_, rfl, Sub.refl _⟩, ⟨_, rfl, Sub.of_eq ?_⟩, trivial⟩
          rw [show hdW x = [x.new.w, [61], x.word.w] by unfold hdW; rw [if_neg h1, if_neg (by omega), if_pos h], join_two, join_two, Lib.join_one]
          simp
        · repeat (first | refine wKB ?_ | refine awp_seq_k (fun K hK => ?_) | refine areg_text mixed tyok (by decide +kernel) ?_ | refine qal tyok (fun bx => ?_) | refine qbox (fun bx => ?_) | refine qboxV (fun bx => ?_) | ((repeat ((fail_if_success (refine hK _ _ ?_)); clear hK)); refine hK _ _ ?_; clear hK))
          refine hr _ _ ?_ (List.Perm.refl _)
          refine ⟨⟨_, rfl, Sub.refl _⟩, ⟨_, rfl, Sub.of_eq ?_⟩, trivial⟩
          rw [show hdW x = [wShow, x.word.w] by unfold hdW; rw [if_neg h1, if_neg (by omega), if_neg (by omega)], join_two, Lib.join_one]
          rfl
    clear hK
    repeat (first | refine wKB ?_ | refine awp_seq_k (fun K hK => ?_) | refine areg_text mixed tyok (by decide +kernel) ?_ | refine qal tyok (fun bx => ?_) | refine qbox (fun bx => ?_) | refine qboxV (fun bx => ?_) | ((repeat ((fail_if_success (refine hK _ _ ?_)); clear hK)); refine hK _ _ ?_; clear hK))
    refine awp_loop0 (ι := { y : Nat × List UInt8 // y.1 ≤ x.args.length ∧ y.2 = Lib.join (hdW x ++ (x.args.take y.1).map (·.w)) [32] })
      (fun y => [(1, .ptr b1 0), (3, .str y.1.2), (4, .int .i64 y.1.1)])
      (fun _ => [.box b1 47 (.agg (stmtEI x))]) (fun y => x.args.length - y.1.1) ⟨(0, Lib.join (hdW x) [32]), Nat.zero_le _, by simp⟩ (by (repeat (first | exact True.intro | refine ⟨⟨_, rfl, Sub.refl _⟩, ?_⟩ | refine ⟨⟨_, rfl, Sub.nilso _ _⟩, ?_⟩ | refine ⟨⟨_, rfl, sl_tail _ _ _ _ _⟩, ?_⟩ | refine ⟨⟨_, rfl, Sub.of_eq (by first | rfl | (congr 1; first | omega | (simp only; omega)) | (simp; done) | (simp; omega))⟩, ?_⟩ | refine ⟨⟨_, rfl, Sub.view _ _ _ _⟩, ?_⟩))) ⟨0, rfl⟩ ?_
    rintro ⟨⟨i, sv⟩, hi, hsv⟩
    simp only at hi hsv ⊢
    by_cases hlt : i < x.args.length
    · have hlt' : (i : Int) < x.args.length := by omega
      have hnx : Lib.join (hdW x ++ (x.args.take (i + 1)).map (·.w)) [32] = sv ++ 32 :: (x.args.getD i default).w := by
        rw [hsv, List.take_succ_eq_append_getElem hlt, List.map_append, ← List.append_assoc, getD_def hlt]
        exact join_snoc 32 _ _ (by simp [hdW_ne x])
      have hle := join_le 32 ((x.args.drop (i + 1)).map (·.w)) (hdW x ++ (x.args.take (i + 1)).map (·.w)) (by simp [hdW_ne x])
      have hwhole : hdW x ++ (x.args.take (i + 1)).map (·.w) ++ (x.args.drop (i + 1)).map (·.w) = lnWords x := by
        rw [List.append_assoc, ← List.map_append, List.take_append_drop, hw]
      rw [hwhole, hnx] at hle
      have hle2 : sv.length + (x.args.getD ((i : Int)).toNat default).w.length + 1 ≤ 2000020 := by
        have e : (x.args.getD ((i : Int)).toNat default) = x.args.getD i default := rfl
        unfold lineI at hll
        simp only [List.length_append, List.length_cons] at hle
        rw [e]
        omega
      have hm6 : (sv ++ ({ data := #[32] } : ByteArray).data.toList).length = sv.length + 1 := by simp
      repeat (first | refine wKB ?_ | refine awp_seq_k (fun K hK => ?_) | refine areg_text mixed tyok (by decide +kernel) ?_ | refine qal tyok (fun bx => ?_) | refine qbox (fun bx => ?_) | refine qboxV (fun bx => ?_) | ((repeat ((fail_if_success (refine hK _ _ ?_)); clear hK)); refine hK _ _ ?_; clear hK))
      refine ⟨⟨(i + 1, sv ++ 32 :: (x.args.getD i default).w), hlt, hnx.symm⟩, ?_, ⟨0, rfl⟩, by simp only; omega⟩
      refine ⟨⟨_, rfl, Sub.refl _⟩, ⟨_, rfl, Sub.of_eq ?_⟩, ⟨_, rfl, Sub.of_eq (by simp)⟩, trivial⟩
      simp
    · have hge : ¬ (i : Int) < x.args.length := by omega
      obtain rfl : i = x.args.length := by omega
      rw [List.take_length, ← hw] at hsv
      subst hsv
      repeat (first | refine wKB ?_ | refine awp_seq_k (fun K hK => ?_) | refine areg_text mixed tyok (by decide +kernel) ?_ | refine qal tyok (fun bx => ?_) | refine qbox (fun bx => ?_) | refine qboxV (fun bx => ?_) | ((repeat ((fail_if_success (refine hK _ _ ?_)); clear hK)); refine hK _ _ ?_; clear hK))
      refine r1 ?_
      exact Sub.refl _
  · by_cases h2 : x.k = 2
    · repeat (first | refine wKB ?_ | refine awp_seq_k (fun K hK => ?_) | refine areg_text mixed tyok (by decide +kernel) ?_ | refine qal tyok (fun bx => ?_) | refine qbox (fun bx => ?_) | refine qboxV (fun bx => ?_) | ((repeat ((fail_if_success (refine hK _ _ ?_)); clear hK)); refine hK _ _ ?_; clear hK))
      refine r1 ?_
      refine Sub.of_eq ?_
      unfold lineI lnWords
      rw [if_neg (by omega), if_pos h2, join_two, Lib.join_one]
      rfl
    · have h1 : x.k ≠ 1 := fun e => hk (.inl e)
      have h3 : x.k ≠ 3 := fun e => hk (.inr (.inl e))
      have h4 : x.k ≠ 4 := fun e => hk (.inr (.inr (.inl e)))
      have h5 : x.k ≠ 5 := fun e => hk (.inr (.inr (.inr e)))
      repeat (first | refine wKB ?_ | refine awp_seq_k (fun K hK => ?_) | refine areg_text mixed tyok (by decide +kernel) ?_ | refine qal tyok (fun bx => ?_) | refine qbox (fun bx => ?_) | refine qboxV (fun bx => ?_) | ((repeat ((fail_if_success (refine hK _ _ ?_)); clear hK)); refine hK _ _ ?_; clear hK))
      refine r1 ?_
      refine Sub.of_eq ?_
      unfold lineI lnWords
      rw [if_neg h1, if_neg h2, if_neg h3, if_neg h4, if_neg h5, Lib.join_nil]

end Go.Proofs.YtjinaakebjfbiaaGreatDoor
