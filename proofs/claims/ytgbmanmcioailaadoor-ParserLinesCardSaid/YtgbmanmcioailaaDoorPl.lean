/-
  ParserLines returns true.
-/
import Derived.Test.YtgbmanmcioailaaDoorLn
import Derived.Test.YtgbmanmcioailaaDoorBl
import Derived.Test.YtgbmanmcioailaaDoorPp
namespace Go.Proofs.YtgbmanmcioailaaDoor
open Go.Ab

theorem tokF_is {w : List UInt8} {n : Int} (h : tokF w = some (4, n)) : w = [61] := by
  unfold tokF at h
  split at h
  · rename_i h1
    exact beq_iff_eq.1 h1
  split at h
  · simp at h
  split at h
  · simp at h
  · split at h
    · split at h
      · cases h
      · simp at h
    · cases h

theorem good_is {l : List TokR} (h : ∀ t ∈ l, goodT t) : ∀ t ∈ l, t.k = 4 → t.w = [61] := fun t ht hk => by
  have := (h t ht).2
  rw [hk] at this
  exact tokF_is this

theorem stmtF_mem {l : List TokR} {x : StR} (h : stmtF l = .inr x) : (x.new = tok0 ∨ x.new ∈ l) ∧ (x.word = tok0 ∨ x.word ∈ l) := by
  cases l with
  | nil => simp [stmtF] at h
  | cons t0 r0 =>
    simp only [stmtF] at h
    split at h
    · obtain ⟨t1, r1, rfl, hk1, h⟩ := needK_inr' h
      obtain ⟨t2, r2, rfl, _, h⟩ := needK_inr' h
      obtain ⟨rfl, _⟩ := allK_some h
      exact ⟨.inr (by simp), .inr (by simp)⟩
    split at h
    · cases h
    split at h
    · obtain ⟨rfl, _⟩ := allK_some h
      exact ⟨.inl rfl, .inl rfl⟩
    split at h
    · obtain ⟨t1, r1, rfl, _, h⟩ := needK_inr' h
      obtain ⟨rfl, ho⟩ := allK_some h
      exact ⟨.inl rfl, .inr (by simp)⟩
    split at h
    · obtain ⟨rfl, _⟩ := allK_some h
      exact ⟨.inl rfl, .inl rfl⟩
    split at h
    · obtain ⟨t1, r1, rfl, _, h⟩ := needK_inr' h
      obtain ⟨rfl, ho⟩ := allK_some h
      exact ⟨.inl rfl, .inr (by simp)⟩
    cases h

theorem cntL_drop : ∀ (n : Nat) (xs : List (List UInt8)), cntL (xs.drop n) ≤ cntL xs
  | 0, xs => by simp
  | n + 1, [] => by simp
  | n + 1, x :: xs => by
    have := cntL_drop n xs
    have e : cntL (x :: xs) = x.length + 1 + cntL xs := rfl
    rw [List.drop_succ_cons]
    omega

/-- What is known of the line of a statement that was read. -/
theorem line_of {s : List UInt8} {r : List (List TokR)} {a : List StR} (hf : linesF s = .inr r) (hp : parseG r = .inr a) {i : Nat} (hi : i < r.length) :
    lineI (a.getD i default).up = wordT (r.getD i default) ∧ lenI (a.getD i default).up ≤ 3 * (s.length + 1) ∧ (a.getD i default).up.args.length ≤ s.length + 1 := by
  obtain ⟨h1, h2⟩ := parseG_get hp
  have hs := h2 i hi
  have hm : r.getD i default ∈ r := by rw [getD_def hi]; exact List.getElem_mem _
  obtain ⟨hne, hg⟩ := linesF_good hf _ hm
  have pl := stmtF_pl hs
  obtain ⟨m1, m2⟩ := stmtF_mem hs
  have e1 : (wordT (r.getD i default)).length + 1 = cntL ((r.getD i default).map TokR.w) := (join_cnt 32 ((r.getD i default).map TokR.w)).2 (fun e => hne (List.map_eq_nil_iff.1 e))
  have e2 := cnt_mem (List.mem_map_of_mem (f := wordT) hm)
  have e3 := told_len hf
  have w0 : ∀ t : TokR, (t = tok0 ∨ t ∈ r.getD i default) → t.w.length ≤ cntL ((r.getD i default).map TokR.w) := by
    rintro t (rfl | ht)
    · exact Nat.zero_le _
    · have := cnt_mem (List.mem_map_of_mem (f := TokR.w) ht)
      omega
  have e4 := w0 _ m1
  have e5 := w0 _ m2
  have e6 : cntL ((a.getD i default).args.map TokR.w) ≤ cntL ((r.getD i default).map TokR.w) := by
    rw [pl.args, List.map_drop]
    exact cntL_drop _ _
  refine ⟨?_, ?_, ?_⟩
  · unfold lineI wordT
    rw [lnWords_up, pl.words (good_is hg)]
  · unfold lenI
    have e7 : ((a.getD i default).up.args.map (·.w)) = (a.getD i default).args.map TokR.w := by
      show ((a.getD i default).args.map TokR.up).map (·.w) = _
      rw [List.map_map]; rfl
    rw [e7]
    show (a.getD i default).new.w.length + (a.getD i default).word.w.length + _ ≤ _
    omega
  · have e8 : (a.getD i default).up.args.length = (a.getD i default).args.length := by
      show ((a.getD i default).args.map TokR.up).length = _
      simp
    have e9 : ∀ xs : List (List UInt8), xs.length ≤ cntL xs := by
      intro xs
      induction xs with
      | nil => exact Nat.zero_le _
      | cons x xs ih =>
        have e : cntL (x :: xs) = x.length + 1 + cntL xs := rfl
        simp only [List.length_cons]
        omega
    have e10 := e9 ((a.getD i default).args.map TokR.w)
    rw [List.length_map] at e10
    omega

theorem lnCat_app : ∀ (r r' : List (List TokR)), lnCat (r ++ r') = lnCat r ++ lnCat r'
  | [], _ => rfl
  | l :: r, r' => by simp only [List.cons_append, lnCat, lnCat_app r r', List.append_assoc]

theorem lnCat_take : ∀ (r : List (List TokR)) (i : Nat), (lnCat (r.take i)).length ≤ (lnCat r).length
  | [], i => by simp
  | l :: r, 0 => by simp [lnCat]
  | l :: r, i + 1 => by
    have := lnCat_take r i
    simp only [List.take_succ_cons, lnCat, List.length_append, List.length_cons]
    omega

def sumW (l : List TokI) : Nat := (l.map fun t => t.w.length).sum

theorem sumW_take {l : List TokI} {i : Nat} (h : i < l.length) : sumW (l.take (i + 1)) = sumW (l.take i) + (l.getD i default).w.length := by
  unfold sumW
  rw [List.take_succ_eq_append_getElem h, List.map_append, List.sum_append, getD_def h]
  simp

theorem sumW_le : ∀ (l : List TokI) (i : Nat), sumW (l.take i) ≤ cntL (l.map (·.w))
  | [], i => by simp [sumW]
  | t :: l, 0 => by simp [sumW]
  | t :: l, i + 1 => by
    have := sumW_le l i
    have e : cntL ((t :: l).map (·.w)) = t.w.length + 1 + cntL (l.map (·.w)) := rfl
    have e2 : sumW ((t :: l).take (i + 1)) = t.w.length + sumW (l.take i) := by simp [sumW]
    omega

theorem sumW_cnt : ∀ (l : List TokI), cntL (l.map (·.w)) = sumW l + l.length
  | [] => rfl
  | t :: l => by
    have := sumW_cnt l
    have e : cntL ((t :: l).map (·.w)) = t.w.length + 1 + cntL (l.map (·.w)) := rfl
    have e2 : sumW (t :: l) = t.w.length + sumW l := by simp [sumW]
    simp only [List.length_cons]
    omega

theorem sumW_bound : ∀ (l : List TokI), (∀ t ∈ l, t.w.length ≤ 10000000000000000) → ∀ i, sumW (l.take i) ≤ i * 10000000000000000
  | [], _, i => by simp [sumW]
  | t :: l, h, 0 => by simp [sumW]
  | t :: l, h, i + 1 => by
    have h0 := h t (List.mem_cons_self ..)
    have := sumW_bound l (fun u hu => h u (List.mem_cons_of_mem _ hu)) i
    have e2 : sumW ((t :: l).take (i + 1)) = t.w.length + sumW (l.take i) := by simp [sumW]
    rw [e2]
    omega

theorem cbPl : Callable Tryd.prog 15 := fun _ _ => by kernel_rfl
set_option maxHeartbeats 6400000 in
set_option maxRecDepth 100000 in
theorem parserLines_c (x : StI) (s : List UInt8) (hA : x.args.length ≤ 10000000000000000) (h1w : x.new.w.length ≤ 10000000000000000) (h2w : x.word.w.length ≤ 10000000000000000) (h3w : ∀ t ∈ x.args, t.w.length ≤ 10000000000000000) :
    PCalls Tryd.prog 15 [.agg (stmtEI x), .str s] (.bool true) := by
  refine pcalls_of_awp tyok cbPl Tryd.func15 rfl rfl ?_
  have hcn := sumW_cnt x.args
  ((repeat (first | refine wKB ?_ | refine awp_seq_k (fun K hK => ?_) | refine areg_text mixed tyok (by decide +kernel) ?_ | ((repeat ((fail_if_success (refine hK _ _ ?_)); clear hK)); refine hK _ _ ?_; clear hK))); ((first | refine qal tyok (fun b2 => ?_) | refine qbox (fun b2 => ?_) | refine qboxV (fun b2 => ?_))); (repeat (first | refine wKB ?_ | refine awp_seq_k (fun K hK => ?_) | refine areg_text mixed tyok (by decide +kernel) ?_ | refine qal tyok (fun bx => ?_) | refine qbox (fun bx => ?_) | refine qboxV (fun bx => ?_) | ((repeat ((fail_if_success (refine hK _ _ ?_)); clear hK)); refine hK _ _ ?_; clear hK))))
  refine awp_loop0 (ι := { y : Nat × Int // y.1 ≤ x.args.length ∧ (y.1 ≤ 100 → y.2 = ((x.new.w.length + x.word.w.length + sumW (x.args.take y.1) : Nat) : Int)) }) (fun y => [(1, .str s), (2, .ptr b2 0), (5, .int .i64 y.1.2), (25, sl tokEI 5 x.args .view), (26, .int .i64 x.args.length), (27, .int .i64 y.1.1)])
    (fun _ => [.box b2 74 (.agg (stmtEI x))]) (fun y => x.args.length - y.1.1) ⟨(0, ((x.new.w.length + x.word.w.length : Nat) : Int)), Nat.zero_le _, fun _ => by simp [sumW]⟩ ?_ ⟨0, rfl⟩ ?_
  · refine ⟨⟨_, rfl, Sub.refl _⟩, ⟨_, rfl, Sub.refl _⟩, ⟨_, rfl, Sub.of_eq (by simp)⟩, ?_⟩
    (repeat (first | exact True.intro | refine ⟨⟨_, rfl, Sub.refl _⟩, ?_⟩ | refine ⟨⟨_, rfl, Sub.nilso _ _⟩, ?_⟩ | refine ⟨⟨_, rfl, sl_tail _ _ _ _ _⟩, ?_⟩ | refine ⟨⟨_, rfl, Sub.of_eq (by first | rfl | (congr 1; first | omega | (simp only; omega)) | (simp; done) | (simp; omega))⟩, ?_⟩ | refine ⟨⟨_, rfl, Sub.view _ _ _ _⟩, ?_⟩))
  rintro ⟨⟨i, v⟩, hi, hv⟩
  simp only at hi hv ⊢
  by_cases hlt : i < x.args.length
  · have hlt' : (i : Int) < x.args.length := by omega
    have hst := sumW_take hlt
    have e1 : (x.args.getD ((i : Int)).toNat default).w.length = (x.args.getD i default).w.length := rfl
    repeat (first | refine wKB ?_ | refine awp_seq_k (fun K hK => ?_) | refine areg_text mixed tyok (by decide +kernel) ?_ | refine qal tyok (fun bx => ?_) | refine qbox (fun bx => ?_) | refine qboxV (fun bx => ?_) | ((repeat ((fail_if_success (refine hK _ _ ?_)); clear hK)); refine hK _ _ ?_; clear hK))
    refine qaddw ?_
    repeat (first | refine wKB ?_ | refine awp_seq_k (fun K hK => ?_) | refine areg_text mixed tyok (by decide +kernel) ?_ | refine qal tyok (fun bx => ?_) | refine qbox (fun bx => ?_) | refine qboxV (fun bx => ?_) | ((repeat ((fail_if_success (refine hK _ _ ?_)); clear hK)); refine hK _ _ ?_; clear hK))
    refine ⟨⟨(i + 1, IntKind.i64.wrap (v + ((x.args.getD ((i : Int)).toNat default).w.length : Int))), hlt, fun h100 => ?_⟩, (by (repeat (first | exact True.intro | refine ⟨⟨_, rfl, Sub.refl _⟩, ?_⟩ | refine ⟨⟨_, rfl, Sub.nilso _ _⟩, ?_⟩ | refine ⟨⟨_, rfl, sl_tail _ _ _ _ _⟩, ?_⟩ | refine ⟨⟨_, rfl, Sub.of_eq (by first | rfl | (congr 1; first | omega | (simp only; omega)) | (simp; done) | (simp; omega))⟩, ?_⟩ | refine ⟨⟨_, rfl, Sub.view _ _ _ _⟩, ?_⟩))), ⟨0, rfl⟩, by simp only; omega⟩
    have hsb : sumW (x.args.take (i + 1)) ≤ (i + 1) * 10000000000000000 := sumW_bound x.args h3w (i + 1)
    have hv1 := hv (by omega)
    simp only at h100 ⊢
    have hsb2 : sumW (x.args.take (i + 1)) ≤ 100 * 10000000000000000 := Nat.le_trans hsb (Nat.mul_le_mul_right _ h100)
    rw [hv1, e1, wrap_inK (by simp only [inK]; omega), hst]
    omega
  · have hge : ¬ (i : Int) < x.args.length := by omega
    obtain rfl : i = x.args.length := by omega
    rw [List.take_length] at hv
    by_cases hb1 : (x.args.length : Int) > 100
    · repeat (first | refine wKB ?_ | refine awp_seq_k (fun K hK => ?_) | refine areg_text mixed tyok (by decide +kernel) ?_ | refine qal tyok (fun bx => ?_) | refine qbox (fun bx => ?_) | refine qboxV (fun bx => ?_) | refine TR.pcall rfl rfl rfl rfl True.intro rfl rfl (known20_c) ?_ | refine pco rfl rfl rfl rfl rfl rfl rfl rfl (fun _ => known20_c) ?_ | ((repeat ((fail_if_success (refine hK _ _ ?_)); clear hK)); refine hK _ _ ?_; clear hK))
      refine r1 ?_
      exact Sub.refl _
    obtain rfl := hv (by omega)
    by_cases hb2 : ((x.new.w.length + x.word.w.length + sumW x.args : Nat) : Int) > 2000
    · repeat (first | refine wKB ?_ | refine awp_seq_k (fun K hK => ?_) | refine areg_text mixed tyok (by decide +kernel) ?_ | refine qal tyok (fun bx => ?_) | refine qbox (fun bx => ?_) | refine qboxV (fun bx => ?_) | refine TR.pcall rfl rfl rfl rfl True.intro rfl rfl (known20_c) ?_ | refine pco rfl rfl rfl rfl rfl rfl rfl rfl (fun _ => known20_c) ?_ | ((repeat ((fail_if_success (refine hK _ _ ?_)); clear hK)); refine hK _ _ ?_; clear hK))
      refine r1 ?_
      exact Sub.refl _
    by_cases hb3 : (s.length : Int) > 3000
    · repeat (first | refine wKB ?_ | refine awp_seq_k (fun K hK => ?_) | refine areg_text mixed tyok (by decide +kernel) ?_ | refine qal tyok (fun bx => ?_) | refine qbox (fun bx => ?_) | refine qboxV (fun bx => ?_) | refine TR.pcall rfl rfl rfl rfl True.intro rfl rfl (known20_c) ?_ | refine pco rfl rfl rfl rfl rfl rfl rfl rfl (fun _ => known20_c) ?_ | ((repeat ((fail_if_success (refine hK _ _ ?_)); clear hK)); refine hK _ _ ?_; clear hK))
      refine r1 ?_
      exact Sub.refl _
    have hs : s.length ≤ 3000 := by omega
    have hsl : ¬ s.length > 65536 := by omega
    have hlI : lenI x ≤ 1000000 := by unfold lenI; omega
    have gl := line_c x (by omega) hlI
    have gr := rline_c x (by omega) hlI
    repeat (first | refine wKB ?_ | refine awp_seq_k (fun K hK => ?_) | refine areg_text mixed tyok (by decide +kernel) ?_ | refine qal tyok (fun bx => ?_) | refine qbox (fun bx => ?_) | refine qboxV (fun bx => ?_) | ((repeat ((fail_if_success (refine hK _ _ ?_)); clear hK)); refine hK _ _ ?_; clear hK))
    refine areg_soft mixed tyok [1, 3] [] [0, 1, 2, 3, 4] (by decide +kernel) ?_
    have g1 := parse_c s (by omega)
    cases h1 : parseF s with
    | inl p =>
      rw [parseR_inl (by omega) h1] at g1
      repeat (first | refine wKE ?_ | refine awp_seq_k (fun K hK => ?_) | refine areg_text mixed tyok (by decide +kernel) ?_ | refine qal tyok (fun bx => ?_) | refine qbox (fun bx => ?_) | refine qboxV (fun bx => ?_) | refine TR.pcall rfl rfl rfl rfl True.intro rfl rfl (gl) ?_ | refine TR.pcall rfl rfl rfl rfl True.intro rfl rfl (gr) ?_ | refine pco rfl rfl rfl rfl rfl rfl rfl rfl (fun _ => gl) ?_ | refine pco rfl rfl rfl rfl rfl rfl rfl rfl (fun _ => gr) ?_ | ((repeat ((fail_if_success (refine hK _ _ ?_)); clear hK)); refine hK _ _ ?_; clear hK))
      repeat (first | refine wKB ?_ | refine awp_seq_k (fun K hK => ?_) | refine areg_text mixed tyok (by decide +kernel) ?_ | refine qal tyok (fun bx => ?_) | refine qbox (fun bx => ?_) | refine qboxV (fun bx => ?_) | refine TR.pcall rfl rfl rfl rfl True.intro rfl rfl (g1) ?_ | refine TR.pcall rfl rfl rfl rfl True.intro rfl rfl (known20_c) ?_ | refine pco rfl rfl rfl rfl rfl rfl rfl rfl (fun _ => g1) ?_ | refine pco rfl rfl rfl rfl rfl rfl rfl rfl (fun _ => known20_c) ?_ | ((repeat ((fail_if_success (refine hK _ _ ?_)); clear hK)); refine hK _ _ ?_; clear hK))
      refine r1 ?_
      exact Sub.refl _
    | inr a =>
      rw [parseR_inr (by omega) h1] at g1
      obtain ⟨r, hf, hpg⟩ := parseF_inr h1
      obtain ⟨hal, hst⟩ := parseG_get hpg
      have hrn := lines_count hf
      have htl := told_len hf
      have hcl := lnCat_len r
      repeat (first | refine wKE ?_ | refine awp_seq_k (fun K hK => ?_) | refine areg_text mixed tyok (by decide +kernel) ?_ | refine qal tyok (fun bx => ?_) | refine qbox (fun bx => ?_) | refine qboxV (fun bx => ?_) | refine TR.pcall rfl rfl rfl rfl True.intro rfl rfl (gl) ?_ | refine TR.pcall rfl rfl rfl rfl True.intro rfl rfl (gr) ?_ | refine pco rfl rfl rfl rfl rfl rfl rfl rfl (fun _ => gl) ?_ | refine pco rfl rfl rfl rfl rfl rfl rfl rfl (fun _ => gr) ?_ | ((repeat ((fail_if_success (refine hK _ _ ?_)); clear hK)); refine hK _ _ ?_; clear hK))
      repeat (first | refine wKB ?_ | refine awp_seq_k (fun K hK => ?_) | refine areg_text mixed tyok (by decide +kernel) ?_ | refine qal tyok (fun bx => ?_) | refine qbox (fun bx => ?_) | refine qboxV (fun bx => ?_) | refine TR.pcall rfl rfl rfl rfl True.intro rfl rfl (g1) ?_ | refine TR.pcall rfl rfl rfl rfl True.intro rfl rfl (known20_c) ?_ | refine pco rfl rfl rfl rfl rfl rfl rfl rfl (fun _ => g1) ?_ | refine pco rfl rfl rfl rfl rfl rfl rfl rfl (fun _ => known20_c) ?_ | ((repeat ((fail_if_success (refine hK _ _ ?_)); clear hK)); refine hK _ _ ?_; clear hK))
      refine awp_loop0 (ι := { i : Nat // i ≤ r.length }) (fun i => [(7, stmtsV a), (10, .str (lnCat (r.take i.1))), (73, stmtsV a), (74, .int .i64 a.length), (75, .int .i64 i.1)]) (fun _ => []) (fun i => r.length - i.1) ⟨0, Nat.zero_le _⟩ (by (repeat (first | exact True.intro | refine ⟨⟨_, rfl, Sub.refl _⟩, ?_⟩ | refine ⟨⟨_, rfl, Sub.nilso _ _⟩, ?_⟩ | refine ⟨⟨_, rfl, sl_tail _ _ _ _ _⟩, ?_⟩ | refine ⟨⟨_, rfl, Sub.of_eq (by first | rfl | (congr 1; first | omega | (simp only; omega)) | (simp; done) | (simp; omega))⟩, ?_⟩ | refine ⟨⟨_, rfl, Sub.view _ _ _ _⟩, ?_⟩))) (by (first | exact ⟨0, rfl⟩ | exact ⟨1, rfl⟩ | exact ⟨2, rfl⟩ | exact ⟨3, rfl⟩ | exact ⟨4, rfl⟩)) ?_
      rintro ⟨i, hi⟩
      simp only at hi ⊢
      by_cases hlt2 : i < r.length
      · obtain ⟨q1, q2, q3⟩ := line_of hf hpg hlt2
        have gl2 : PCalls Tryd.prog 41 [.agg (stmtE (a.getD i default))] (.str (wordT (r.getD i default))) := by
          rw [← q1]
          exact PCalls.sub (line_c _ (by omega) (by omega)) (.cons (stmt_up _) .nil)
        have hlt3 : (i : Int) < (a.length : Int) := by omega
        have htk := lnCat_take r i
        have hmem : r.getD i default ∈ r := by rw [getD_def hlt2]; exact List.getElem_mem _
        have hwl := cnt_mem (List.mem_map_of_mem (f := wordT) hmem)
        have hm1 : ({ data := #[10] } : ByteArray).data.toList.length = 1 := rfl
        have hm2 : (wordT (r.getD i default) ++ ({ data := #[10] } : ByteArray).data.toList).length = (wordT (r.getD i default)).length + 1 := by simp
        repeat (first | refine wKB ?_ | refine awp_seq_k (fun K hK => ?_) | refine areg_text mixed tyok (by decide +kernel) ?_ | refine qal tyok (fun bx => ?_) | refine qbox (fun bx => ?_) | refine qboxV (fun bx => ?_) | refine TR.pcall rfl rfl rfl rfl True.intro rfl rfl (gl2) ?_ | refine pco rfl rfl rfl rfl rfl rfl rfl rfl (fun _ => gl2) ?_ | ((repeat ((fail_if_success (refine hK _ _ ?_)); clear hK)); refine hK _ _ ?_; clear hK))
        refine ⟨⟨i + 1, hlt2⟩, ?_, (by (first | exact ⟨0, rfl⟩ | exact ⟨1, rfl⟩ | exact ⟨2, rfl⟩ | exact ⟨3, rfl⟩ | exact ⟨4, rfl⟩)), by simp only; omega⟩
        refine ⟨⟨_, rfl, Sub.refl _⟩, ⟨_, rfl, Sub.of_eq ?_⟩, ?_⟩
        · rw [List.take_succ_eq_append_getElem hlt2, lnCat_app, getD_def hlt2]
          simp [lnCat]
        (repeat (first | exact True.intro | refine ⟨⟨_, rfl, Sub.refl _⟩, ?_⟩ | refine ⟨⟨_, rfl, Sub.nilso _ _⟩, ?_⟩ | refine ⟨⟨_, rfl, sl_tail _ _ _ _ _⟩, ?_⟩ | refine ⟨⟨_, rfl, Sub.of_eq (by first | rfl | (congr 1; first | omega | (simp only; omega)) | (simp; done) | (simp; omega))⟩, ?_⟩ | refine ⟨⟨_, rfl, Sub.view _ _ _ _⟩, ?_⟩))
      · have hge2 : ¬ (i : Int) < (a.length : Int) := by omega
        obtain rfl : i = r.length := by omega
        rw [List.take_length]
        have hr1 := lnCat_lines hf
        have hsim := parse_sim hf hr1 (reL_er r 0).symm
        have hpl : (lnCat r).length ≤ 65536 := by omega
        have g3 := parse_c (lnCat r) (by omega)
        cases h2 : parseF (lnCat r) with
        | inl q => rw [h1, h2] at hsim; exact hsim.elim
        | inr b =>
          rw [h1, h2] at hsim
          rw [parseR_inr hpl h2] at g3
          obtain ⟨ha1, ha2⟩ := parseG_bound h1
          have f1 := sameL_c a b true (by omega) (fun y hy => by have := ha2 y hy; omega) hsim
          repeat (first | refine wKB ?_ | refine awp_seq_k (fun K hK => ?_) | refine areg_text mixed tyok (by decide +kernel) ?_ | refine qal tyok (fun bx => ?_) | refine qbox (fun bx => ?_) | refine qboxV (fun bx => ?_) | refine TR.pcall rfl rfl rfl rfl True.intro rfl rfl (known20_c) ?_ | refine TR.pcall rfl rfl rfl rfl True.intro rfl rfl (g3) ?_ | refine TR.pcall rfl rfl rfl rfl True.intro rfl rfl (f1) ?_ | refine pco rfl rfl rfl rfl rfl rfl rfl rfl (fun _ => known20_c) ?_ | refine pco rfl rfl rfl rfl rfl rfl rfl rfl (fun _ => g3) ?_ | refine pco rfl rfl rfl rfl rfl rfl rfl rfl (fun _ => f1) ?_ | ((repeat ((fail_if_success (refine hK _ _ ?_)); clear hK)); refine hK _ _ ?_; clear hK))
          refine r1 ?_
          exact Sub.refl _

end Go.Proofs.YtgbmanmcioailaaDoor
