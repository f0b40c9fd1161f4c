/-
  strings.SplitAfter at one byte; the lines of a script's text, each with its end.
-/
import Derived.Test.YtjinaakebjfbiaaGreatDoorPy
import Derived.Lib.SplitLaws
import Derived.Test.YtjinaakebjfbiaaGreatDoorShK
namespace Go.Proofs.YtjinaakebjfbiaaGreatDoor
open Go.Ab

theorem nat_ne (n : Nat) : ¬ (((n : Int) == -1) = true) := by
  rw [beq_iff_eq]
  omega

theorem indexByte_app (c : UInt8) : ∀ (x s : List UInt8), (∀ b ∈ x, b ≠ c) → Lib.indexByte (x ++ c :: s) c = x.length
  | [], s, _ => by simp [Lib.indexByte]
  | b :: x, s, h => by
    have hb : b ≠ c := h b (List.mem_cons_self ..)
    have ih := indexByte_app c x s fun y hy => h y (List.mem_cons_of_mem _ hy)
    rw [List.cons_append, indexByte_cons, if_neg (by simpa using hb), ih, if_neg (nat_ne _)]
    simp

theorem after_app (c : UInt8) (k : Nat) (x s : List UInt8) (h : ∀ b ∈ x, b ≠ c) : Lib.splitK [c] 1 (k + 1) (x ++ c :: s) = (x ++ [c]) :: Lib.splitK [c] 1 k s := by
  have e : Lib.index (x ++ c :: s) [c] = x.length := by rw [Lib.index_one, indexByte_app c x s h]
  have e2 : x ++ c :: s = (x ++ [c]) ++ s := by simp
  have e3 : x.length + 1 = (x ++ [c]).length := by simp
  rw [Lib.splitK, e, if_neg (nat_ne _), Int.toNat_natCast, List.length_singleton, e2, e3, List.take_left, List.drop_left]

theorem lnCat_after : ∀ (r : List (List TokR)), (∀ l ∈ r, ∀ t ∈ l, goodT t) → Lib.splitK [10] 1 r.length (lnCat r) = r.map (fun l => wordT l ++ [10]) ++ [[]]
  | [], _ => rfl
  | l :: r, h => by
    rw [lnCat, List.length_cons, after_app 10 _ _ _ (wordT_no (h l (List.mem_cons_self ..))), lnCat_after r fun x hx => h x (List.mem_cons_of_mem _ hx)]
    rfl

theorem lnCat_count : ∀ (r : List (List TokR)), (∀ l ∈ r, ∀ t ∈ l, goodT t) → (lnCat r).count 10 = r.length
  | [], _ => rfl
  | l :: r, h => by
    have h0 : (wordT l).count 10 = 0 := List.count_eq_zero.2 fun hm => wordT_no (h l (List.mem_cons_self ..)) 10 hm rfl
    rw [lnCat, List.count_append, h0, List.count_cons_self, lnCat_count r fun x hx => h x (List.mem_cons_of_mem _ hx), List.length_cons]
    omega

theorem repL_ssii {st : Stab} {w : World} {s t : List UInt8} {k k' : IntKind} {a b : Int} {xs : List Value} (h : RepL st w [.str s, .str t, .int k a, .int k' b] xs) : xs = [.string ⟨s.toArray⟩, .string ⟨t.toArray⟩, .int k a, .int k' b] := by
  match xs, h with
  | [x, y, u, v], h =>
    have h3 := h.2 2 _ u rfl rfl
    have h4 := h.2 3 _ v rfl rfl
    cases h3
    cases h4
    rw [(h.2 0 _ x rfl rfl).str_eq, (h.2 1 _ y rfl rfl).str_eq]

theorem genSplit_c (s : List UInt8) (c : UInt8) (hs : s.length ≤ 1000000000) : PCalls Tryz.prog 59 [.str s, .str [c], .int .i64 1, .int .i64 (-1)] (sl txtE 1 (Lib.splitK [c] 1 (Lib.count s [c]) s) .view) :=
  pcalls_of_texts (fun _ _ => by kernel_rfl) fun st w xs hx hg => by
    rw [repL_ssii hx]
    obtain ⟨cc, t, f, g1, m, rfl⟩ := gl_at hg 0 rfl
    have hsz : (ByteArray.mk s.toArray).size < 4294967281 := by simp [ByteArray.size]; omega
    have hle := Lib.countB_le ⟨#[c]⟩ (Nat.le_refl 1) _ ⟨s.toArray⟩ (Nat.le_refl _)
    have hlen := Lib.splitB_all (ByteArray.mk #[c]) (Nat.le_refl 1) 1 _ (ByteArray.mk s.toArray) rfl
    have hd := Lib.splitB_data ⟨#[c]⟩ 1 (Lib.countB ⟨s.toArray⟩ ⟨#[c]⟩) ⟨s.toArray⟩
    have hsp : Lib.splitK [c] 1 (Lib.count s [c]) s = (Lib.splitB ⟨#[c]⟩ 1 (Lib.countB ⟨s.toArray⟩ ⟨#[c]⟩) ⟨s.toArray⟩).map (·.data.toList) := hd.symm
    have e2 : Lib.cellsOf (Lib.splitB ⟨#[c]⟩ 1 (Lib.countB ⟨s.toArray⟩ ⟨#[c]⟩) ⟨s.toArray⟩) (Lib.countB ⟨s.toArray⟩ ⟨#[c]⟩ + 1) = ((Lib.splitB ⟨#[c]⟩ 1 (Lib.countB ⟨s.toArray⟩ ⟨#[c]⟩) ⟨s.toArray⟩).map Value.string).toArray := by rw [← hlen]; exact Lib.cellsOf_full _
    refine (Tryz.strings_genSplit ⟨s.toArray⟩ ⟨#[c]⟩ 1 (-1) (Lib.countB ⟨s.toArray⟩ ⟨#[c]⟩ + 1) m w hsz (by rw [cell_of_block g1]; rfl) (Nat.le_refl 1) (Nat.le_refl 1) (by decide) (by decide) (by rw [if_pos (by decide)]; omega)).mono ?_
    rintro e w' ⟨rfl, rfl⟩
    rw [Nat.add_sub_cancel, e2]
    refine ⟨9, ?_, ?_⟩
    · rw [hsp, List.length_map, hlen]
    · rw [hsp, List.map_map]
      rfl

theorem cbAft : Callable Tryz.prog 26 := fun _ _ => by kernel_rfl
theorem after_c (s : List UInt8) (c : UInt8) (hs : s.length ≤ 1000000000) : PCalls Tryz.prog 26 [.str s, .str [c]] (sl txtE 1 (Lib.splitK [c] 1 (Lib.count s [c]) s) .view) := by
  refine pcalls_of_awp tyok cbAft Tryz.func26 rfl rfl ?_
  have g := genSplit_c s c hs
  repeat (first | refine wKB ?_ | refine awp_seq_k (fun K hK => ?_) | refine areg_text mixed tyok (by decide +kernel) ?_ | refine qal tyok (fun bx => ?_) | refine qbox (fun bx => ?_) | refine qboxV (fun bx => ?_) | refine TR.pcall rfl rfl rfl rfl True.intro rfl rfl (g) ?_ | refine pco rfl rfl rfl rfl rfl rfl rfl rfl (fun _ => g) ?_ | ((repeat ((fail_if_success (refine hK _ _ ?_)); clear hK)); refine hK _ _ ?_; clear hK))
  refine r1 ?_
  exact Sub.refl _

/-- The text's lines, each with its end; behind the last one nothing. -/
theorem rows_c {s : List UInt8} {r : List (List TokR)} (h : linesF s = .inr r) (hs : (lnCat r).length ≤ 1000000000) : PCalls Tryz.prog 26 [.str (lnCat r), .str [10]] (sl txtE 1 (r.map (fun l => wordT l ++ [10]) ++ [[]]) .view) := by
  have hg : ∀ l ∈ r, ∀ t ∈ l, goodT t := fun l hl => (linesF_good h l hl).2
  have g := after_c (lnCat r) 10 hs
  rw [Lib.count_one, lnCat_count r hg, lnCat_after r hg] at g
  exact g

end Go.Proofs.YtjinaakebjfbiaaGreatDoor

/-
  PrinterLines returns true.
-/
namespace Go.Proofs.YtjinaakebjfbiaaGreatDoor
open Go.Ab

theorem scriptF_inl {s : List UInt8} {p : Int × Int × Int} (h : scriptF s = .inl p) : p.2.2 ≠ 0 := by
  unfold scriptF at h
  split at h
  · cases h; simp
  split at h
  · cases h; simp
  split at h
  · cases h
  · rename_i he
    cases h
    exact he

theorem cbPnL : Callable Tryz.prog 5 := fun _ _ => by kernel_rfl
set_option maxHeartbeats 6400000 in
set_option maxRecDepth 100000 in
theorem printerLines_c (s : List UInt8) : PCalls Tryz.prog 5 [.str s] (.bool true) := by
  refine pcalls_of_awp tyok cbPnL Tryz.func5 rfl rfl ?_
  by_cases hs : s.length > 2000
  · have hs' : (s.length : Int) > 2000 := by omega
    repeat (first | refine wKB ?_ | refine awp_seq_k (fun K hK => ?_) | refine areg_text mixed tyok (by decide +kernel) ?_ | refine qal tyok (fun bx => ?_) | refine qbox (fun bx => ?_) | refine qboxV (fun bx => ?_) | refine TR.pcall rfl rfl rfl rfl True.intro rfl rfl (known23_c) ?_ | refine pco rfl rfl rfl rfl rfl rfl rfl rfl (fun _ => known23_c) ?_ | ((repeat ((fail_if_success (refine hK _ _ ?_)); clear hK)); refine hK _ _ ?_; clear hK))
    refine r1 ?_
    exact Sub.refl _
  have hs' : ¬ (s.length : Int) > 2000 := by omega
  have g1 := script22_c s (by omega)
  cases hss : scriptF s with
  | inl p =>
    obtain ⟨p1, p2, p3⟩ := p
    have hp : p3 ≠ 0 := scriptF_inl hss
    rw [hss] at g1
    simp only [scriptV] at g1
    repeat (first | refine wKB ?_ | refine awp_seq_k (fun K hK => ?_) | refine areg_text mixed tyok (by decide +kernel) ?_ | refine qal tyok (fun bx => ?_) | refine qbox (fun bx => ?_) | refine qboxV (fun bx => ?_) | refine TR.pcall rfl rfl rfl rfl True.intro rfl rfl (known23_c) ?_ | refine TR.pcall rfl rfl rfl rfl True.intro rfl rfl (g1) ?_ | refine pco rfl rfl rfl rfl rfl rfl rfl rfl (fun _ => known23_c) ?_ | refine pco rfl rfl rfl rfl rfl rfl rfl rfl (fun _ => g1) ?_ | ((repeat ((fail_if_success (refine hK _ _ ?_)); clear hK)); refine hK _ _ ?_; clear hK))
    refine r1 ?_
    exact Sub.refl _
  | inr a =>
  rw [hss] at g1
  simp only [scriptV] at g1
  obtain ⟨i1, i2, i3⟩ := scriptF_inr hss
  obtain ⟨b1, b2⟩ := scriptF_bd hss
  obtain ⟨r, hf, hp⟩ := parseF_inr i2
  obtain ⟨hal, _⟩ := parseG_get hp
  have htl := told_len hf
  have hcl := lnCat_len r
  have sa := read_small hf hp (by omega) b1
  have hT := read_text hf hp
  have ea : printF (a.map StR.up) = (0, lnCat r) := by
    unfold printF
    rw [if_neg (by simpa using i3), if_pos (read_ok hf hp), hT]
  have w1 := PCalls.sub (print_c _ sa) (.cons (stmts_up a) .nil)
  rw [ea] at w1
  have g2 := rows_c hf (by omega)
  generalize hrw : r.map (fun l => wordT l ++ [10]) ++ [[]] = rows at g2
  have hrl : rows.length = a.length + 1 := by rw [← hrw]; simp [hal]
  have hra : ∀ i, i < a.length → rows.getD i default = wordT (r.getD i default) ++ [10] := by
    intro i hi
    rw [getD_at (by omega), getD_at (show i < r.length by omega)]
    subst hrw
    rw [List.getElem_append_left (by simpa using (show i < r.length by omega)), List.getElem_map]
  have hre : rows.getD a.length default = [] := by
    rw [getD_at (by omega)]
    subst hrw
    rw [List.getElem_append_right (by simp; omega)]
    simp
  obtain ⟨h3, _, _, _, hpl⟩ := lookF_id i3
  rw [List.length_map] at h3
  have v3 := PCalls.sub (full_c (a.map StR.up) (by have := sa.len; omega) (fun x hx => by have := sa.args x hx; omega)) (.cons (stmts_up a) .nil)
  have v4 := PCalls.sub (plimits_c (a.map StR.up) (by have := sa.len; omega) (fun x hx => by have := sa.args x hx; omega)) (.cons (stmts_up a) .nil)
  rw [decide_eq_true i3] at v3
  simp only [limsV, decide_eq_true i3] at v4
  have hln : (rows.length : Int) = (a.length : Int) + 1 := by omega
  have hre' : rows.getD ((a.length : Int)).toNat default = [] := hre
  have hall : ∀ i, i < a.length → lineI (a.getD i default).up = wordT (r.getD i default) ∧ lenI (a.getD i default).up ≤ 2000000 ∧ (a.getD i default).up.args.length ≤ 2000000 := fun i hi => by
    obtain ⟨q1, q2, q3⟩ := line_of hf hp (i := i) (by omega)
    exact ⟨q1, by omega, by omega⟩
  have up : ∀ i, i < a.length → (a.map StR.up).getD i default = (a.getD i default).up := by
    intro i hi
    rw [getD_at (by simpa using hi), getD_at hi, List.getElem_map]
  have upT : ∀ (x : StR) (k : Nat), k < x.args.length → (x.up.args.getD k default).n = (x.args.getD k default).n := by
    intro x k hk
    show ((x.args.map TokR.up).getD k default).n = _
    rw [getD_at (by simpa using hk), getD_at hk, List.getElem_map]
    rfl
  have h40 : (a.getD 0 default).args.length = 4 := by
    have := ((place_k (hpl 0 (by rw [List.length_map]; omega)).1).1 rfl).2
    rw [← getD_at (l := a.map StR.up) (by rw [List.length_map]; omega), up 0 (by omega)] at this
    simpa [StR.up] using this
  have h40' : ((a.getD ((0 : Int)).toNat default).args.length : Int) = 4 := congrArg Int.ofNat h40
  have h1 := (hpl 1 (by rw [List.length_map]; omega)).1
  rw [← getD_at (l := a.map StR.up) (by rw [List.length_map]; omega), up 1 (by omega)] at h1
  have hk2 : (a.getD 1 default).k = 2 := ((place_k h1).2.1 rfl)
  have hwd : (a.getD 1 default).word.w = wSimple ∨ (a.getD 1 default).word.w = wFull := by
    unfold placeB at h1
    rw [if_neg (by decide), if_pos rfl] at h1
    simp only [Bool.and_eq_true, Bool.or_eq_true, beq_iff_eq] at h1
    exact h1.2
  have hl1 : lineI (a.getD 1 default).up = wMode ++ 32 :: (a.getD 1 default).word.w := by
    unfold lineI lnWords
    rw [if_neg (show ¬ (a.getD 1 default).up.k = 1 by show ¬ (a.getD 1 default).k = 1; omega), if_pos (show (a.getD 1 default).up.k = 2 from hk2), join_two, Lib.join_one]
    rfl
  have hr1 : rows.getD 1 default = wMode ++ 32 :: (a.getD 1 default).word.w ++ [10] := by
    rw [hra 1 (by omega), ← (hall 1 (by omega)).1, hl1]
  rw [up 0 (by omega), upT _ 0 (by omega), upT _ 1 (by omega), upT _ 2 (by omega), upT _ 3 (by omega)] at v4
  rw [up 1 (by omega)] at v3
  have v3' : PCalls Tryz.prog 28 [stmtsV a] (.bool ((a.getD 1 default).word.w == wFull)) := v3
  repeat (first | refine wKB ?_ | refine awp_seq_k (fun K hK => ?_) | refine areg_text mixed tyok (by decide +kernel) ?_ | refine qal tyok (fun bx => ?_) | refine qbox (fun bx => ?_) | refine qboxV (fun bx => ?_) | refine TR.pcall rfl rfl rfl rfl True.intro rfl rfl (known23_c) ?_ | refine TR.pcall rfl rfl rfl rfl True.intro rfl rfl (g1) ?_ | refine TR.pcall rfl rfl rfl rfl True.intro rfl rfl (g2) ?_ | refine TR.pcall rfl rfl rfl rfl True.intro rfl rfl (w1) ?_ | refine pco rfl rfl rfl rfl rfl rfl rfl rfl (fun _ => known23_c) ?_ | refine pco rfl rfl rfl rfl rfl rfl rfl rfl (fun _ => g1) ?_ | refine pco rfl rfl rfl rfl rfl rfl rfl rfl (fun _ => g2) ?_ | refine pco rfl rfl rfl rfl rfl rfl rfl rfl (fun _ => w1) ?_ | ((repeat ((fail_if_success (refine hK _ _ ?_)); clear hK)); refine hK _ _ ?_; clear hK))
  refine awp_loop0 (ι := { i : Nat // i ≤ a.length }) (fun i => [(3, stmtsV a), (8, sl txtE 1 rows .view), (52, .int .i64 a.length), (53, .int .i64 i.1)]) (fun _ => []) (fun i => a.length - i.1) ⟨0, Nat.zero_le _⟩ (by (repeat (first | exact True.intro | refine ⟨⟨_, rfl, Sub.refl _⟩, ?_⟩ | refine ⟨⟨_, rfl, Sub.nilso _ _⟩, ?_⟩ | refine ⟨⟨_, rfl, sl_tail _ _ _ _ _⟩, ?_⟩ | refine ⟨⟨_, rfl, Sub.of_eq (by first | rfl | (congr 1; first | omega | (simp only; omega)) | (simp; done) | (simp; omega))⟩, ?_⟩ | refine ⟨⟨_, rfl, Sub.view _ _ _ _⟩, ?_⟩))) (by (first | exact ⟨0, rfl⟩ | exact ⟨1, rfl⟩ | exact ⟨2, rfl⟩ | exact ⟨3, rfl⟩ | exact ⟨4, rfl⟩)) ?_
  rintro ⟨i, hi⟩
  simp only at hi ⊢
  by_cases hlt : i < a.length
  · have hlt' : (i : Int) < a.length := by omega
    have hlr : (i : Int) < rows.length := by omega
    obtain ⟨q1, q2, q3⟩ := hall i hlt
    have gl2 : PCalls Tryz.prog 27 [.agg (stmtE (a.getD i default))] (.str (wordT (r.getD i default))) := by
      rw [← q1]
      exact PCalls.sub (line_c _ q3 q2) (.cons (subAgg (stmtE_up _)) .nil)
    have hne : (rows.getD i default != wordT (r.getD i default) ++ [10]) = false := by
      rw [hra i hlt]
      simp
    have hwl : (wordT (r.getD i default)).length ≤ 2000020 := by
      rw [← q1]
      have := lineI_len (a.getD i default).up
      omega
    have hm1 : ({ data := #[10] } : ByteArray).data.toList.length = 1 := rfl
    repeat (first | refine wKB ?_ | refine awp_seq_k (fun K hK => ?_) | refine areg_text mixed tyok (by decide +kernel) ?_ | refine qal tyok (fun bx => ?_) | refine qbox (fun bx => ?_) | refine qboxV (fun bx => ?_) | refine TR.pcall rfl rfl rfl rfl True.intro rfl rfl (gl2) ?_ | refine pco rfl rfl rfl rfl rfl rfl rfl rfl (fun _ => gl2) ?_ | ((repeat ((fail_if_success (refine hK _ _ ?_)); clear hK)); refine hK _ _ ?_; clear hK))
    refine awp_cond rfl (fun hb => absurd (hne.symm.trans (show (rows.getD i default != wordT (r.getD i default) ++ [10]) = true from hb)) (by decide)) (fun _ => ?_)
    repeat (first | refine wKB ?_ | refine awp_seq_k (fun K hK => ?_) | refine areg_text mixed tyok (by decide +kernel) ?_ | refine qal tyok (fun bx => ?_) | refine qbox (fun bx => ?_) | refine qboxV (fun bx => ?_) | ((repeat ((fail_if_success (refine hK _ _ ?_)); clear hK)); refine hK _ _ ?_; clear hK))
    exact ⟨⟨i + 1, hlt⟩, (by (repeat (first | exact True.intro | refine ⟨⟨_, rfl, Sub.refl _⟩, ?_⟩ | refine ⟨⟨_, rfl, Sub.nilso _ _⟩, ?_⟩ | refine ⟨⟨_, rfl, sl_tail _ _ _ _ _⟩, ?_⟩ | refine ⟨⟨_, rfl, Sub.of_eq (by first | rfl | (congr 1; first | omega | (simp only; omega)) | (simp; done) | (simp; omega))⟩, ?_⟩ | refine ⟨⟨_, rfl, Sub.view _ _ _ _⟩, ?_⟩))), (by (first | exact ⟨0, rfl⟩ | exact ⟨1, rfl⟩ | exact ⟨2, rfl⟩ | exact ⟨3, rfl⟩ | exact ⟨4, rfl⟩)), by simp only; omega⟩
  · have hge : ¬ (i : Int) < a.length := by omega
    have hl0 : (0 : Int) < a.length := by omega
    have hl2 : (1 : Int) < rows.length := by omega
    rcases hwd with hw | hw
    · rw [hw] at v3' hr1
      have e : (wSimple == wFull) = false := by decide
      rw [e] at v3'
      have hr1' : rows.getD ((1 : Int)).toNat default = ({ data := #[109, 111, 100, 101, 32, 115, 105, 109, 112, 108, 101, 10] } : ByteArray).data.toList := hr1
      repeat (first | refine wKB ?_ | refine awp_seq_k (fun K hK => ?_) | refine areg_text mixed tyok (by decide +kernel) ?_ | refine qal tyok (fun bx => ?_) | refine qbox (fun bx => ?_) | refine qboxV (fun bx => ?_) | refine TR.pcall rfl rfl rfl rfl True.intro rfl rfl (known23_c) ?_ | refine TR.pcall rfl rfl rfl rfl True.intro rfl rfl (v3') ?_ | refine TR.pcall rfl rfl rfl rfl True.intro rfl rfl (v4) ?_ | refine pco rfl rfl rfl rfl rfl rfl rfl rfl (fun _ => known23_c) ?_ | refine pco rfl rfl rfl rfl rfl rfl rfl rfl (fun _ => v3') ?_ | refine pco rfl rfl rfl rfl rfl rfl rfl rfl (fun _ => v4) ?_ | ((repeat ((fail_if_success (refine hK _ _ ?_)); clear hK)); refine hK _ _ ?_; clear hK))
      refine fnQ_ret 1 rfl (.tmp rfl .nil) (Sub.of_eq (congrArg AV.bool ?_)) ⟨rfl, rfl⟩
      simp
    · rw [hw] at v3' hr1
      have e : (wFull == wFull) = true := by decide
      rw [e] at v3'
      have hr1' : rows.getD ((1 : Int)).toNat default = ({ data := #[109, 111, 100, 101, 32, 102, 117, 108, 108, 10] } : ByteArray).data.toList := hr1
      repeat (first | refine wKB ?_ | refine awp_seq_k (fun K hK => ?_) | refine areg_text mixed tyok (by decide +kernel) ?_ | refine qal tyok (fun bx => ?_) | refine qbox (fun bx => ?_) | refine qboxV (fun bx => ?_) | refine TR.pcall rfl rfl rfl rfl True.intro rfl rfl (known23_c) ?_ | refine TR.pcall rfl rfl rfl rfl True.intro rfl rfl (v3') ?_ | refine TR.pcall rfl rfl rfl rfl True.intro rfl rfl (v4) ?_ | refine pco rfl rfl rfl rfl rfl rfl rfl rfl (fun _ => known23_c) ?_ | refine pco rfl rfl rfl rfl rfl rfl rfl rfl (fun _ => v3') ?_ | refine pco rfl rfl rfl rfl rfl rfl rfl rfl (fun _ => v4) ?_ | ((repeat ((fail_if_success (refine hK _ _ ?_)); clear hK)); refine hK _ _ ?_; clear hK))
      refine fnQ_ret 1 rfl (.tmp rfl .nil) (Sub.of_eq (congrArg AV.bool ?_)) ⟨rfl, rfl⟩
      simp

end Go.Proofs.YtjinaakebjfbiaaGreatDoor
