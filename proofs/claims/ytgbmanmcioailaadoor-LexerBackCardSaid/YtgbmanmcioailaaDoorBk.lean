/-
  LexerBack returns true.
-/
import Derived.Test.YtgbmanmcioailaaDoorBk2
import Derived.Test.YtgbmanmcioailaaDoorLj
import Derived.Test.YtgbmanmcioailaaDoorLk
import Derived.Test.YtgbmanmcioailaaDoorAb21
namespace Go.Proofs.YtgbmanmcioailaaDoor
open Go.Ab

theorem no10_of {l : List UInt8} (h : decide (0 ≤ Lib.indexByte l 10) = false) : ∀ b ∈ l, b ≠ 10 := by
  intro b hb e
  have := Lib.contains_iff_indexByte l 10
  rw [h] at this
  have h2 : l.contains 10 = true := by simpa [List.contains_iff_mem] using e ▸ hb
  rw [h2] at this
  cases this

theorem toksF_ln (n : Nat) : ∀ (ws : List (Nat × List UInt8)) (ts : List TokR), toksF n ws = .inr ts → ∀ t ∈ ts, t.ln = n
  | [], ts, h => by
    simp only [toksF, Sum.inr.injEq] at h
    subst h
    exact fun t ht => absurd ht List.not_mem_nil
  | (c, w) :: l, ts, h => by
    simp only [toksF] at h
    split at h
    · cases h
    · split at h
      · cases h
      · rename_i ts' ht'
        simp only [Sum.inr.injEq] at h
        subst h
        intro t ht
        rcases List.mem_cons.1 ht with rfl | ht
        · rfl
        · exact toksF_ln n l ts' ht' t ht

theorem linesG_ln : ∀ (ps : List (List UInt8)) (n : Nat) (r : List (List TokR)), linesG n ps = .inr r → ∀ l ∈ r, ∀ t ∈ l, t.ln ≤ n + ps.length
  | [], n, r, h => by
    simp only [linesG, Sum.inr.injEq] at h
    subst h
    exact fun l hl => absurd hl List.not_mem_nil
  | p :: ps, n, r, h => by
    simp only [linesG] at h
    split at h
    · cases h
    · rename_i ts ht
      split at h
      · cases h
      · rename_i r' hr
        have ih := linesG_ln ps (n + 1) r' hr
        have h1 := toksF_ln _ _ _ ht
        simp only [Sum.inr.injEq] at h
        have key : ∀ l ∈ ts :: r', ∀ t ∈ l, t.ln ≤ n + (p :: ps).length := by
          intro l hl t htl
          rw [List.length_cons]
          rcases List.mem_cons.1 hl with rfl | hl
          · have := h1 t htl; omega
          · have := ih l hl t htl; omega
        split at h
        · subst h
          exact fun l hl => key l (List.mem_cons_of_mem _ hl)
        · subst h
          exact key

theorem perm213 {α : Type} (x y z : α) : [y, x, z].Perm [x, y, z] := List.Perm.swap _ _ _
theorem perm132 {α : Type} (x y z : α) : [x, z, y].Perm [x, y, z] := List.Perm.cons _ (List.Perm.swap _ _ _)
theorem perm231 {α : Type} (x y z : α) : [y, z, x].Perm [x, y, z] := (List.Perm.cons _ (List.Perm.swap _ _ _)).trans (List.Perm.swap _ _ _)
theorem perm312 {α : Type} (x y z : α) : [z, x, y].Perm [x, y, z] := (List.Perm.swap _ _ _).trans (List.Perm.cons _ (List.Perm.swap _ _ _))
theorem perm321 {α : Type} (x y z : α) : [z, y, x].Perm [x, y, z] := (List.Perm.swap _ _ _).trans ((List.Perm.cons _ (List.Perm.swap _ _ _)).trans (List.Perm.swap _ _ _))

theorem cbLbk : Callable Tryd.prog 9 := fun _ _ => by kernel_rfl
set_option maxHeartbeats 6400000 in
set_option maxRecDepth 100000 in
theorem lexerBack_c (s remark : List UInt8) : PCalls Tryd.prog 9 [.str s, .str remark] (.bool true) := by
  refine pcalls_of_awp tyok cbLbk Tryd.func9 rfl rfl ?_
  have gc := contains1_c remark 10
  repeat (first | refine wK ?_ | refine awp_seq_k (fun K hK => ?_) | refine areg_text mixed tyok (by decide +kernel) ?_ | refine qal tyok (fun bx => ?_) | refine qbox (fun bx => ?_) | refine qboxV (fun bx => ?_) | refine TR.pcall rfl rfl rfl rfl True.intro rfl rfl (gc) ?_ | refine pco rfl rfl rfl rfl rfl rfl rfl rfl (fun _ => gc) ?_ | ((repeat ((fail_if_success (refine hK _ _ ?_)); clear hK)); refine hK _ _ ?_; clear hK))
  refine awp_cond rfl (fun _ => ?_) (fun hb => ?_)
  · repeat (first | refine wK ?_ | refine awp_seq_k (fun K hK => ?_) | refine areg_text mixed tyok (by decide +kernel) ?_ | refine qal tyok (fun bx => ?_) | refine qbox (fun bx => ?_) | refine qboxV (fun bx => ?_) | refine TR.pcall rfl rfl rfl rfl True.intro rfl rfl (known19_c) ?_ | refine pco rfl rfl rfl rfl rfl rfl rfl rfl (fun _ => known19_c) ?_ | ((repeat ((fail_if_success (refine hK _ _ ?_)); clear hK)); refine hK _ _ ?_; clear hK))
    refine r1 ?_
    exact Sub.refl _
  simp only [Bool.or_eq_false_iff, decide_eq_false_iff_not] at hb
  obtain ⟨⟨hs, hrm⟩, hno⟩ := hb
  have hno' : ∀ b ∈ remark, b ≠ 10 := no10_of (by simpa using hno)
  have hsl : ¬ s.length > 65536 := by omega
  have g1 := lines_c s (by omega)
  cases hf : linesF s with
  | inl p =>
    obtain ⟨l, c⟩ := p
    rw [linesR_inl hsl hf] at g1
    repeat (first | refine wK ?_ | refine awp_seq_k (fun K hK => ?_) | refine areg_text mixed tyok (by decide +kernel) ?_ | refine qal tyok (fun bx => ?_) | refine qbox (fun bx => ?_) | refine qboxV (fun bx => ?_) | refine TR.pcall rfl rfl rfl rfl True.intro rfl rfl (g1) ?_ | refine TR.pcall rfl rfl rfl rfl True.intro rfl rfl (known19_c) ?_ | refine pco rfl rfl rfl rfl rfl rfl rfl rfl (fun _ => g1) ?_ | refine pco rfl rfl rfl rfl rfl rfl rfl rfl (fun _ => known19_c) ?_ | ((repeat ((fail_if_success (refine hK _ _ ?_)); clear hK)); refine hK _ _ ?_; clear hK))
    refine r1 ?_
    exact Sub.refl _
  | inr r =>
    rw [linesR_inr hsl hf] at g1
    repeat (first | refine wK ?_ | refine awp_seq_k (fun K hK => ?_) | refine areg_text mixed tyok (by decide +kernel) ?_ | refine qal tyok (fun bx => ?_) | refine qbox (fun bx => ?_) | refine qboxV (fun bx => ?_) | refine TR.pcall rfl rfl rfl rfl True.intro rfl rfl (g1) ?_ | refine TR.pcall rfl rfl rfl rfl True.intro rfl rfl (known19_c) ?_ | refine pco rfl rfl rfl rfl rfl rfl rfl rfl (fun _ => g1) ?_ | refine pco rfl rfl rfl rfl rfl rfl rfl rfl (fun _ => known19_c) ?_ | ((repeat ((fail_if_success (refine hK _ _ ?_)); clear hK)); refine hK _ _ ?_; clear hK))
    have hrl := (linesG_len _ _ _ s.length (fun p hp => splitC_piece 10 s p hp) hf)
    have hrc := splitC_count 10 s
    have hrn : r.length ≤ 100000 := by omega
    have hgood := linesF_good hf
    have hcnt := told_len hf
    refine awp_tok0 1 9 ?_
    refine awp_loopP (ι := { x : Nat × List (List UInt8) × Option Addr × Nat // x.1 ≤ r.length ∧ x.2.1 = (r.take x.1).map wordT })
      (fun x => [(0, .str s), (1, .str remark), (5, linesV r), (8, sl strE 1 x.1.2.1 (.own x.1.2.2.1 x.1.2.2.2)), (52, linesV r), (53, .int .i64 r.length), (54, .int .i64 x.1.1)])
      (fun x => [.tok x.1.2.2.1 x.1.2.2.2 x.1.2.1.length 1 9]) (fun x => r.length - x.1.1) ⟨(0, [], none, 0), Nat.zero_le _, rfl⟩ ?_ ⟨[_], List.Perm.swap _ _ _⟩ ?_
    · (repeat (first | exact True.intro | refine ⟨⟨_, rfl, Sub.refl _⟩, ?_⟩ | refine ⟨⟨_, rfl, Sub.nilso _ _⟩, ?_⟩ | refine ⟨⟨_, rfl, sl_tail _ _ _ _ _⟩, ?_⟩ | refine ⟨⟨_, rfl, Sub.of_eq (by first | rfl | (congr 1; first | omega | (simp only; omega)) | (simp; done) | (simp; omega))⟩, ?_⟩ | refine ⟨⟨_, rfl, Sub.view _ _ _ _⟩, ?_⟩))
    rintro ⟨⟨i, ys, a1, c1⟩, hi, hys⟩
    simp only at hi hys ⊢
    repeat (first | refine wK ?_ | refine awp_seq_k (fun K hK => ?_) | refine areg_text mixed tyok (by decide +kernel) ?_ | refine qal tyok (fun bx => ?_) | refine qbox (fun bx => ?_) | refine qboxV (fun bx => ?_) | ((repeat ((fail_if_success (refine hK _ _ ?_)); clear hK)); refine hK _ _ ?_; clear hK))
    refine awp_cond rfl (fun hb => ?_) (fun hb => ?_)
    · have hlt : i < r.length := by simpa using hb
      have hmem : r.getD i default ∈ r := by rw [getD_def hlt]; exact List.getElem_mem _
      have hll : (r.getD i default).length ≤ 100000 := by have := hrl.2 _ hmem; omega
      have hyl : ys.length = i := by rw [hys, List.length_map, List.length_take]; omega
      repeat (first | refine wK ?_ | refine awp_seq_k (fun K hK => ?_) | refine areg_text mixed tyok (by decide +kernel) ?_ | refine qal tyok (fun bx => ?_) | refine qbox (fun bx => ?_) | refine qboxV (fun bx => ?_) | ((repeat ((fail_if_success (refine hK _ _ ?_)); clear hK)); refine hK _ _ ?_; clear hK))
      refine awp_tok0 1 9 ?_
      refine awp_loopP (ι := { y : Nat × List (List UInt8) × Option Addr × Nat // y.1 ≤ (r.getD i default).length ∧ y.2.1 = ((r.getD i default).take y.1).map (·.w) })
        (fun y => [(0, .str s), (1, .str remark), (5, linesV r), (8, sl strE 1 ys (.own a1 c1)), (52, linesV r), (53, .int .i64 r.length), (54, .int .i64 i),
          (11, sl strE 1 y.1.2.1 (.own y.1.2.2.1 y.1.2.2.2)), (58, toksV (r.getD i default)), (59, .int .i64 (r.getD i default).length), (60, .int .i64 y.1.1)])
        (fun y => [.tok y.1.2.2.1 y.1.2.2.2 y.1.2.1.length 1 9, .tok a1 c1 ys.length 1 9]) (fun y => (r.getD i default).length - y.1.1) ⟨(0, [], none, 0), Nat.zero_le _, rfl⟩ ?_ ⟨[], List.Perm.refl _⟩ ?_
      · (repeat (first | exact True.intro | refine ⟨⟨_, rfl, Sub.refl _⟩, ?_⟩ | refine ⟨⟨_, rfl, Sub.nilso _ _⟩, ?_⟩ | refine ⟨⟨_, rfl, sl_tail _ _ _ _ _⟩, ?_⟩ | refine ⟨⟨_, rfl, Sub.of_eq (by first | rfl | (congr 1; first | omega | (simp only; omega)) | (simp; done) | (simp; omega))⟩, ?_⟩ | refine ⟨⟨_, rfl, Sub.view _ _ _ _⟩, ?_⟩))
      rintro ⟨⟨k, xs, a2, c2⟩, hk, hxs⟩
      simp only at hk hxs ⊢
      have hxl : xs.length = k := by rw [hxs, List.length_map, List.length_take]; omega
      repeat (first | refine wK ?_ | refine awp_seq_k (fun K hK => ?_) | refine areg_text mixed tyok (by decide +kernel) ?_ | refine qal tyok (fun bx => ?_) | refine qbox (fun bx => ?_) | refine qboxV (fun bx => ?_) | ((repeat ((fail_if_success (refine hK _ _ ?_)); clear hK)); refine hK _ _ ?_; clear hK))
      refine awp_cond rfl (fun hb2 => ?_) (fun hb2 => ?_)
      · have hlk : k < (r.getD i default).length := by simpa using hb2
        repeat (first | refine wK ?_ | refine awp_seq_k (fun K hK => ?_) | refine areg_text mixed tyok (by decide +kernel) ?_ | refine qal tyok (fun bx => ?_) | refine qbox (fun bx => ?_) | refine qboxV (fun bx => ?_) | ((repeat ((fail_if_success (refine hK _ _ ?_)); clear hK)); refine hK _ _ ?_; clear hK))
        refine qapp tyok strE xs ((r.getD i default).getD k default).w (SubL.refl _) ?_ fun ad cp => ?_
        · simp only
          omega
        repeat (first | refine wK ?_ | refine awp_seq_k (fun K hK => ?_) | refine areg_text mixed tyok (by decide +kernel) ?_ | refine qal tyok (fun bx => ?_) | refine qbox (fun bx => ?_) | refine qboxV (fun bx => ?_) | ((repeat ((fail_if_success (refine hK _ _ ?_)); clear hK)); refine hK _ _ ?_; clear hK))
        refine ⟨⟨(k + 1, xs ++ [((r.getD i default).getD k default).w], ad, cp), hlk, ?_⟩, ?_, ⟨[_], List.Perm.refl _⟩, ?_⟩
        · show xs ++ [((r.getD i default).getD k default).w] = ((r.getD i default).take (k + 1)).map (·.w)
          rw [hxs, List.take_succ_eq_append_getElem hlk, List.map_append, getD_def hlk]
          rfl
        · (repeat (first | exact True.intro | refine ⟨⟨_, rfl, Sub.refl _⟩, ?_⟩ | refine ⟨⟨_, rfl, Sub.nilso _ _⟩, ?_⟩ | refine ⟨⟨_, rfl, sl_tail _ _ _ _ _⟩, ?_⟩ | refine ⟨⟨_, rfl, Sub.of_eq (by first | rfl | (congr 1; first | omega | (simp only; omega)) | (simp; done) | (simp; omega))⟩, ?_⟩ | refine ⟨⟨_, rfl, Sub.view _ _ _ _⟩, ?_⟩))
        · simp only; omega
      · have hke : k = (r.getD i default).length := by
          have : ¬ k < (r.getD i default).length := by simpa using hb2
          omega
        subst hke
        rw [List.take_length] at hxs
        subst hxs
        have hjl : (Lib.join ((r.getD i default).map (·.w)) [32]).length ≤ 1000000000 := by
          have h1 := cnt_mem (List.mem_map_of_mem (f := wordT) hmem)
          have h2 : (wordT (r.getD i default)).length = (Lib.join ((r.getD i default).map (·.w)) [32]).length := rfl
          omega
        have gj := fun o => join_c ((r.getD i default).map (·.w)) [32] o (by rw [List.length_map]; omega) hjl
        repeat (first | refine wK ?_ | refine awp_seq_k (fun K hK => ?_) | refine areg_text mixed tyok (by decide +kernel) ?_ | refine qal tyok (fun bx => ?_) | refine qbox (fun bx => ?_) | refine qboxV (fun bx => ?_) | refine TR.pcall rfl rfl rfl rfl True.intro rfl rfl (gj _) ?_ | refine pco rfl rfl rfl rfl rfl rfl rfl rfl (fun _ => gj _) ?_ | ((repeat ((fail_if_success (refine hK _ _ ?_)); clear hK)); refine hK _ _ ?_; clear hK))
        refine qapp tyok strE ys (wordT (r.getD i default)) (SubL.refl _) ?_ fun ad cp => ?_
        · simp only
          omega
        repeat (first | refine wK ?_ | refine awp_seq_k (fun K hK => ?_) | refine areg_text mixed tyok (by decide +kernel) ?_ | refine qal tyok (fun bx => ?_) | refine qbox (fun bx => ?_) | refine qboxV (fun bx => ?_) | ((repeat ((fail_if_success (refine hK _ _ ?_)); clear hK)); refine hK _ _ ?_; clear hK))
        refine ⟨⟨(i + 1, ys ++ [wordT (r.getD i default)], ad, cp), hlt, ?_⟩, ?_, ⟨[_], List.Perm.refl _⟩, ?_⟩
        · show ys ++ [wordT (r.getD i default)] = (r.take (i + 1)).map wordT
          rw [hys, List.take_succ_eq_append_getElem hlt, List.map_append, getD_def hlt]
          rfl
        · (repeat (first | exact True.intro | refine ⟨⟨_, rfl, Sub.refl _⟩, ?_⟩ | refine ⟨⟨_, rfl, Sub.nilso _ _⟩, ?_⟩ | refine ⟨⟨_, rfl, sl_tail _ _ _ _ _⟩, ?_⟩ | refine ⟨⟨_, rfl, Sub.of_eq (by first | rfl | (congr 1; first | omega | (simp only; omega)) | (simp; done) | (simp; omega))⟩, ?_⟩ | refine ⟨⟨_, rfl, Sub.view _ _ _ _⟩, ?_⟩))
        · simp only; omega
    · have hie : i = r.length := by
        have : ¬ i < r.length := by simpa using hb
        omega
      subst hie
      rw [List.take_length] at hys
      subst hys
      have hjl : (Lib.join (r.map wordT) [10]).length ≤ s.length + 1 := toldT_len hf
      have gj := fun o => join_c (r.map wordT) [10] o (by rw [List.length_map]; omega) (by omega)
      have g2 := lines_c (Lib.join (r.map wordT) [10]) (by omega)
      rw [linesR_inr (s := Lib.join (r.map wordT) [10]) (by omega) (told_lines hgood)] at g2
      have hs3 : s.length ≤ 3000 := by omega
      have hr3 : remark.length ≤ 100 := by omega
      have g3 := lines_c ([32, 32, 32, 10, 35] ++ remark ++ [10] ++ s) (by simp only [List.length_append, List.length_cons, List.length_nil]; omega)
      rw [linesR_inr (by simp only [List.length_append, List.length_cons, List.length_nil]; omega) (ahead_lines hno' hf)] at g3
      repeat (first | refine wK ?_ | refine awp_seq_k (fun K hK => ?_) | refine areg_text mixed tyok (by decide +kernel) ?_ | refine qal tyok (fun bx => ?_) | refine qbox (fun bx => ?_) | refine qboxV (fun bx => ?_) | refine TR.pcall rfl rfl rfl rfl True.intro rfl rfl (gj _) ?_ | refine TR.pcall rfl rfl rfl rfl True.intro rfl rfl (g2) ?_ | refine TR.pcall rfl rfl rfl rfl True.intro rfl rfl (g3) ?_ | refine pco rfl rfl rfl rfl rfl rfl rfl rfl (fun _ => gj _) ?_ | refine pco rfl rfl rfl rfl rfl rfl rfl rfl (fun _ => g2) ?_ | refine pco rfl rfl rfl rfl rfl rfl rfl rfl (fun _ => g3) ?_ | ((repeat ((fail_if_success (refine hK _ _ ?_)); clear hK)); refine hK _ _ ?_; clear hK))
      have hBl : (reL 0 r).length = r.length := reL_len r 0
      have hBi : ∀ i, i < r.length → (reL 0 r).getD i default = reT (i + 1) 1 (r.getD i default) := fun i hi => by rw [reL_get r 0 i hi, Nat.zero_add]
      have hCl : (r.map fun l => l.map up2).length = r.length := List.length_map ..
      have hCi : ∀ i, i < r.length → (r.map fun l => l.map up2).getD i default = (r.getD i default).map up2 := fun i hi => by rw [getD_def (by simpa using hi), getD_def hi, List.getElem_map]
      clear g2 g3 gj
      generalize reL 0 r = B at *
      generalize (r.map fun l => l.map up2) = C at *
      refine awp_cond rfl (fun h => absurd h (by rw [hBl, hCl]; simp)) (fun _ => ?_)
      repeat (first | refine wK ?_ | refine awp_seq_k (fun K hK => ?_) | refine areg_text mixed tyok (by decide +kernel) ?_ | refine qal tyok (fun bx => ?_) | refine qbox (fun bx => ?_) | refine qboxV (fun bx => ?_) | ((repeat ((fail_if_success (refine hK _ _ ?_)); clear hK)); refine hK _ _ ?_; clear hK))
      refine awp_loop0 (ι := { i : Nat // i ≤ r.length }) (fun i => [(5, linesV r), (14, linesV B), (17, linesV C), (114, .int .i64 r.length), (115, .int .i64 i.1)]) (fun _ => []) (fun i => r.length - i.1) ⟨0, Nat.zero_le _⟩ ?_ (by (first | exact ⟨0, rfl⟩ | exact ⟨1, rfl⟩ | exact ⟨2, rfl⟩ | exact ⟨3, rfl⟩ | exact ⟨4, rfl⟩)) ?_
      · (repeat (first | exact True.intro | refine ⟨⟨_, rfl, Sub.refl _⟩, ?_⟩ | refine ⟨⟨_, rfl, Sub.nilso _ _⟩, ?_⟩ | refine ⟨⟨_, rfl, sl_tail _ _ _ _ _⟩, ?_⟩ | refine ⟨⟨_, rfl, Sub.of_eq (by first | rfl | (congr 1; first | omega | (simp only; omega)) | (simp; done) | (simp; omega))⟩, ?_⟩ | refine ⟨⟨_, rfl, Sub.view _ _ _ _⟩, ?_⟩))
      rintro ⟨i, hi⟩
      simp only at hi ⊢
      repeat (first | refine wK ?_ | refine awp_seq_k (fun K hK => ?_) | refine areg_text mixed tyok (by decide +kernel) ?_ | refine qal tyok (fun bx => ?_) | refine qbox (fun bx => ?_) | refine qboxV (fun bx => ?_) | ((repeat ((fail_if_success (refine hK _ _ ?_)); clear hK)); refine hK _ _ ?_; clear hK))
      refine awp_cond rfl (fun hb => ?_) (fun hb => ?_)
      · have hlt : i < r.length := by simpa using hb
        have hll : (r.getD i default).length ≤ 100000 := by
          have := hrl.2 (r.getD i default) (by rw [getD_def hlt]; exact List.getElem_mem _)
          omega
        have e1 : (B.getD i default).length = (r.getD i default).length := by rw [hBi i hlt, reT_len]
        have e2 : (C.getD i default).length = (r.getD i default).length := by rw [hCi i hlt, List.length_map]
        repeat (first | refine wK ?_ | refine awp_seq_k (fun K hK => ?_) | refine areg_text mixed tyok (by decide +kernel) ?_ | refine qal tyok (fun bx => ?_) | refine qbox (fun bx => ?_) | refine qboxV (fun bx => ?_) | ((repeat ((fail_if_success (refine hK _ _ ?_)); clear hK)); refine hK _ _ ?_; clear hK))
        refine awp_cond rfl (fun h => absurd h (by rw [show ((i : Int)).toNat = i from rfl, e1, e2]; simp)) (fun _ => ?_)
        repeat (first | refine wK ?_ | refine awp_seq_k (fun K hK => ?_) | refine areg_text mixed tyok (by decide +kernel) ?_ | refine qal tyok (fun bx => ?_) | refine qbox (fun bx => ?_) | refine qboxV (fun bx => ?_) | ((repeat ((fail_if_success (refine hK _ _ ?_)); clear hK)); refine hK _ _ ?_; clear hK))
        refine awp_loop0 (ι := { k : Nat // k ≤ (r.getD i default).length }) (fun k => [(5, linesV r), (14, linesV B), (17, linesV C), (114, .int .i64 r.length), (115, .int .i64 i), (20, .int .i64 i), (146, .int .i64 (r.getD i default).length), (147, .int .i64 k.1)]) (fun _ => []) (fun k => (r.getD i default).length - k.1) ⟨0, Nat.zero_le _⟩ ?_ (by (first | exact ⟨0, rfl⟩ | exact ⟨1, rfl⟩ | exact ⟨2, rfl⟩ | exact ⟨3, rfl⟩ | exact ⟨4, rfl⟩)) ?_
        · (repeat (first | exact True.intro | refine ⟨⟨_, rfl, Sub.refl _⟩, ?_⟩ | refine ⟨⟨_, rfl, Sub.nilso _ _⟩, ?_⟩ | refine ⟨⟨_, rfl, sl_tail _ _ _ _ _⟩, ?_⟩ | refine ⟨⟨_, rfl, Sub.of_eq (by first | rfl | (congr 1; first | omega | (simp only; omega)) | (simp; done) | (simp; omega))⟩, ?_⟩ | refine ⟨⟨_, rfl, Sub.view _ _ _ _⟩, ?_⟩))
        rintro ⟨k, hk⟩
        simp only at hk ⊢
        repeat (first | refine wK ?_ | refine awp_seq_k (fun K hK => ?_) | refine areg_text mixed tyok (by decide +kernel) ?_ | refine qal tyok (fun bx => ?_) | refine qbox (fun bx => ?_) | refine qboxV (fun bx => ?_) | ((repeat ((fail_if_success (refine hK _ _ ?_)); clear hK)); refine hK _ _ ?_; clear hK))
        refine awp_cond rfl (fun hb2 => ?_) (fun hb2 => ?_)
        · have hlk : k < (r.getD i default).length := by simpa using hb2
          obtain ⟨c', e3⟩ := reT_get (i + 1) (r.getD i default) 1 k hlk
          rw [← hBi i hlt] at e3
          have e4 : (C.getD i default).getD k default = up2 ((r.getD i default).getD k default) := by rw [hCi i hlt, getD_def (by simpa using hlk), getD_def hlk, List.getElem_map]
          have f0 : ((r.getD ((i : Int)).toNat default).getD ((k : Int)).toNat default).ln ≤ 100000 := by
            have hm1 : r.getD i default ∈ r := by rw [getD_def hlt]; exact List.getElem_mem _
            have hm2 : (r.getD i default).getD k default ∈ r.getD i default := by rw [getD_def hlk]; exact List.getElem_mem _
            have := linesG_ln _ _ _ hf _ hm1 _ hm2
            show ((r.getD i default).getD k default).ln ≤ 100000
            omega
          have f0' : ((r.getD i default).getD k default).ln ≤ 100000 := f0
          have f1 : k < (r.getD ((i : Int)).toNat default).length := hlk
          have f2 : k < (B.getD ((i : Int)).toNat default).length := by show k < (B.getD i default).length; omega
          have f3 : k < (C.getD ((i : Int)).toNat default).length := by show k < (C.getD i default).length; omega
          repeat (first | refine wK ?_ | refine awp_seq_k (fun K hK => ?_) | refine qal tyok (fun bx => ?_) | refine qbox (fun bx => ?_) | refine qboxV (fun bx => ?_) | ((repeat ((fail_if_success (refine hK _ _ ?_)); clear hK)); refine hK _ _ ?_; clear hK))
          refine (have hr : ∀ b22 b23 b24 T' H', Weak T' [(22, .ptr b22 0), (23, .ptr b23 0), (24, .ptr b24 0), (5, linesV r), (14, linesV B), (17, linesV C), (114, .int .i64 r.length), (115, .int .i64 i), (20, .int .i64 i), (146, .int .i64 (r.getD i default).length), (147, .int .i64 k)] →
            List.Perm H' [.box b22 61 (.agg (tokE ((r.getD i default).getD k default))), .box b23 61 (.agg (tokE ((B.getD i default).getD k default))), .box b24 61 (.agg (tokE ((C.getD i default).getD k default)))] → K T' H' := fun b22 b23 b24 => cutKP hK ?_; ?_)
          rotate_left
          · clear hK
            refine areg_allocs mixed tyok (List.range 21) [21, 22, 23] [24, 25, 26] (by kernel_rfl) (by kernel_rfl) ?_
            repeat (first | refine wK ?_ | refine awp_seq_k (fun K hK => ?_) | refine areg_text mixed tyok (by decide +kernel) ?_ | refine qal tyok (fun bx => ?_) | refine qbox (fun bx => ?_) | refine qboxV (fun bx => ?_) | ((repeat ((fail_if_success (refine hK _ _ ?_)); clear hK)); refine hK _ _ ?_; clear hK))
            intro a ha
            have ha' : a ∈ ([21, 22, 23] : List Nat) := ha
            simp only [List.mem_cons, List.mem_nil_iff, or_false] at ha'
            rcases ha' with rfl | rfl | rfl
            · refine one_alloc tyok rfl rfl rfl rfl rfl fun b21 => ?_
              intro a ha
              have ha' : a ∈ ([22, 23] : List Nat) := ha
              simp only [List.mem_cons, List.mem_nil_iff, or_false] at ha'
              rcases ha' with rfl | rfl
              · refine one_alloc tyok rfl rfl rfl rfl rfl fun b22 => ?_
                intro a ha
                have ha' : a ∈ ([23] : List Nat) := ha
                simp only [List.mem_cons, List.mem_nil_iff, or_false] at ha'
                subst ha'
                refine one_alloc tyok rfl rfl rfl rfl rfl fun b23 => ?_
                refine allO_zero ?_
                repeat (first | refine wK ?_ | refine awp_seq_k (fun K hK => ?_) | refine areg_text mixed tyok (by decide +kernel) ?_ | refine qal tyok (fun bx => ?_) | refine qbox (fun bx => ?_) | refine qboxV (fun bx => ?_) | ((repeat ((fail_if_success (refine hK _ _ ?_)); clear hK)); refine hK _ _ ?_; clear hK))
                refine hr b21 b22 b23 _ _ ?_ ?_
                · (repeat (first | exact True.intro | refine ⟨⟨_, rfl, Sub.refl _⟩, ?_⟩ | refine ⟨⟨_, rfl, Sub.nilso _ _⟩, ?_⟩ | refine ⟨⟨_, rfl, sl_tail _ _ _ _ _⟩, ?_⟩ | refine ⟨⟨_, rfl, Sub.of_eq (by first | rfl | (congr 1; first | omega | (simp only; omega)) | (simp; done) | (simp; omega))⟩, ?_⟩ | refine ⟨⟨_, rfl, Sub.view _ _ _ _⟩, ?_⟩))
                · first | exact List.Perm.refl _ | exact perm213 _ _ _ | exact perm132 _ _ _ | exact perm231 _ _ _ | exact perm312 _ _ _ | exact perm321 _ _ _
              · refine one_alloc tyok rfl rfl rfl rfl rfl fun b23 => ?_
                intro a ha
                have ha' : a ∈ ([22] : List Nat) := ha
                simp only [List.mem_cons, List.mem_nil_iff, or_false] at ha'
                subst ha'
                refine one_alloc tyok rfl rfl rfl rfl rfl fun b22 => ?_
                refine allO_zero ?_
                repeat (first | refine wK ?_ | refine awp_seq_k (fun K hK => ?_) | refine areg_text mixed tyok (by decide +kernel) ?_ | refine qal tyok (fun bx => ?_) | refine qbox (fun bx => ?_) | refine qboxV (fun bx => ?_) | ((repeat ((fail_if_success (refine hK _ _ ?_)); clear hK)); refine hK _ _ ?_; clear hK))
                refine hr b21 b22 b23 _ _ ?_ ?_
                · (repeat (first | exact True.intro | refine ⟨⟨_, rfl, Sub.refl _⟩, ?_⟩ | refine ⟨⟨_, rfl, Sub.nilso _ _⟩, ?_⟩ | refine ⟨⟨_, rfl, sl_tail _ _ _ _ _⟩, ?_⟩ | refine ⟨⟨_, rfl, Sub.of_eq (by first | rfl | (congr 1; first | omega | (simp only; omega)) | (simp; done) | (simp; omega))⟩, ?_⟩ | refine ⟨⟨_, rfl, Sub.view _ _ _ _⟩, ?_⟩))
                · first | exact List.Perm.refl _ | exact perm213 _ _ _ | exact perm132 _ _ _ | exact perm231 _ _ _ | exact perm312 _ _ _ | exact perm321 _ _ _
            · refine one_alloc tyok rfl rfl rfl rfl rfl fun b22 => ?_
              intro a ha
              have ha' : a ∈ ([21, 23] : List Nat) := ha
              simp only [List.mem_cons, List.mem_nil_iff, or_false] at ha'
              rcases ha' with rfl | rfl
              · refine one_alloc tyok rfl rfl rfl rfl rfl fun b21 => ?_
                intro a ha
                have ha' : a ∈ ([23] : List Nat) := ha
                simp only [List.mem_cons, List.mem_nil_iff, or_false] at ha'
                subst ha'
                refine one_alloc tyok rfl rfl rfl rfl rfl fun b23 => ?_
                refine allO_zero ?_
                repeat (first | refine wK ?_ | refine awp_seq_k (fun K hK => ?_) | refine areg_text mixed tyok (by decide +kernel) ?_ | refine qal tyok (fun bx => ?_) | refine qbox (fun bx => ?_) | refine qboxV (fun bx => ?_) | ((repeat ((fail_if_success (refine hK _ _ ?_)); clear hK)); refine hK _ _ ?_; clear hK))
                refine hr b21 b22 b23 _ _ ?_ ?_
                · (repeat (first | exact True.intro | refine ⟨⟨_, rfl, Sub.refl _⟩, ?_⟩ | refine ⟨⟨_, rfl, Sub.nilso _ _⟩, ?_⟩ | refine ⟨⟨_, rfl, sl_tail _ _ _ _ _⟩, ?_⟩ | refine ⟨⟨_, rfl, Sub.of_eq (by first | rfl | (congr 1; first | omega | (simp only; omega)) | (simp; done) | (simp; omega))⟩, ?_⟩ | refine ⟨⟨_, rfl, Sub.view _ _ _ _⟩, ?_⟩))
                · first | exact List.Perm.refl _ | exact perm213 _ _ _ | exact perm132 _ _ _ | exact perm231 _ _ _ | exact perm312 _ _ _ | exact perm321 _ _ _
              · refine one_alloc tyok rfl rfl rfl rfl rfl fun b23 => ?_
                intro a ha
                have ha' : a ∈ ([21] : List Nat) := ha
                simp only [List.mem_cons, List.mem_nil_iff, or_false] at ha'
                subst ha'
                refine one_alloc tyok rfl rfl rfl rfl rfl fun b21 => ?_
                refine allO_zero ?_
                repeat (first | refine wK ?_ | refine awp_seq_k (fun K hK => ?_) | refine areg_text mixed tyok (by decide +kernel) ?_ | refine qal tyok (fun bx => ?_) | refine qbox (fun bx => ?_) | refine qboxV (fun bx => ?_) | ((repeat ((fail_if_success (refine hK _ _ ?_)); clear hK)); refine hK _ _ ?_; clear hK))
                refine hr b21 b22 b23 _ _ ?_ ?_
                · (repeat (first | exact True.intro | refine ⟨⟨_, rfl, Sub.refl _⟩, ?_⟩ | refine ⟨⟨_, rfl, Sub.nilso _ _⟩, ?_⟩ | refine ⟨⟨_, rfl, sl_tail _ _ _ _ _⟩, ?_⟩ | refine ⟨⟨_, rfl, Sub.of_eq (by first | rfl | (congr 1; first | omega | (simp only; omega)) | (simp; done) | (simp; omega))⟩, ?_⟩ | refine ⟨⟨_, rfl, Sub.view _ _ _ _⟩, ?_⟩))
                · first | exact List.Perm.refl _ | exact perm213 _ _ _ | exact perm132 _ _ _ | exact perm231 _ _ _ | exact perm312 _ _ _ | exact perm321 _ _ _
            · refine one_alloc tyok rfl rfl rfl rfl rfl fun b23 => ?_
              intro a ha
              have ha' : a ∈ ([21, 22] : List Nat) := ha
              simp only [List.mem_cons, List.mem_nil_iff, or_false] at ha'
              rcases ha' with rfl | rfl
              · refine one_alloc tyok rfl rfl rfl rfl rfl fun b21 => ?_
                intro a ha
                have ha' : a ∈ ([22] : List Nat) := ha
                simp only [List.mem_cons, List.mem_nil_iff, or_false] at ha'
                subst ha'
                refine one_alloc tyok rfl rfl rfl rfl rfl fun b22 => ?_
                refine allO_zero ?_
                repeat (first | refine wK ?_ | refine awp_seq_k (fun K hK => ?_) | refine areg_text mixed tyok (by decide +kernel) ?_ | refine qal tyok (fun bx => ?_) | refine qbox (fun bx => ?_) | refine qboxV (fun bx => ?_) | ((repeat ((fail_if_success (refine hK _ _ ?_)); clear hK)); refine hK _ _ ?_; clear hK))
                refine hr b21 b22 b23 _ _ ?_ ?_
                · (repeat (first | exact True.intro | refine ⟨⟨_, rfl, Sub.refl _⟩, ?_⟩ | refine ⟨⟨_, rfl, Sub.nilso _ _⟩, ?_⟩ | refine ⟨⟨_, rfl, sl_tail _ _ _ _ _⟩, ?_⟩ | refine ⟨⟨_, rfl, Sub.of_eq (by first | rfl | (congr 1; first | omega | (simp only; omega)) | (simp; done) | (simp; omega))⟩, ?_⟩ | refine ⟨⟨_, rfl, Sub.view _ _ _ _⟩, ?_⟩))
                · first | exact List.Perm.refl _ | exact perm213 _ _ _ | exact perm132 _ _ _ | exact perm231 _ _ _ | exact perm312 _ _ _ | exact perm321 _ _ _
              · refine one_alloc tyok rfl rfl rfl rfl rfl fun b22 => ?_
                intro a ha
                have ha' : a ∈ ([21] : List Nat) := ha
                simp only [List.mem_cons, List.mem_nil_iff, or_false] at ha'
                subst ha'
                refine one_alloc tyok rfl rfl rfl rfl rfl fun b21 => ?_
                refine allO_zero ?_
                repeat (first | refine wK ?_ | refine awp_seq_k (fun K hK => ?_) | refine areg_text mixed tyok (by decide +kernel) ?_ | refine qal tyok (fun bx => ?_) | refine qbox (fun bx => ?_) | refine qboxV (fun bx => ?_) | ((repeat ((fail_if_success (refine hK _ _ ?_)); clear hK)); refine hK _ _ ?_; clear hK))
                refine hr b21 b22 b23 _ _ ?_ ?_
                · (repeat (first | exact True.intro | refine ⟨⟨_, rfl, Sub.refl _⟩, ?_⟩ | refine ⟨⟨_, rfl, Sub.nilso _ _⟩, ?_⟩ | refine ⟨⟨_, rfl, sl_tail _ _ _ _ _⟩, ?_⟩ | refine ⟨⟨_, rfl, Sub.of_eq (by first | rfl | (congr 1; first | omega | (simp only; omega)) | (simp; done) | (simp; omega))⟩, ?_⟩ | refine ⟨⟨_, rfl, Sub.view _ _ _ _⟩, ?_⟩))
                · first | exact List.Perm.refl _ | exact perm213 _ _ _ | exact perm132 _ _ _ | exact perm231 _ _ _ | exact perm312 _ _ _ | exact perm321 _ _ _
          repeat (first | refine wK ?_ | refine awp_seq_k (fun K hK => ?_) | refine areg_text mixed tyok (by decide +kernel) ?_ | refine qal tyok (fun bx => ?_) | refine qbox (fun bx => ?_) | refine qboxV (fun bx => ?_) | ((repeat ((fail_if_success (refine hK _ _ ?_)); clear hK)); refine hK _ _ ?_; clear hK))
          refine awp_cond rfl (fun h => absurd h (by rw [e3, e4]; simp [up2])) (fun _ => ?_)
          repeat (first | refine wK ?_ | refine awp_seq_k (fun K hK => ?_) | refine areg_text mixed tyok (by decide +kernel) ?_ | refine qal tyok (fun bx => ?_) | refine qbox (fun bx => ?_) | refine qboxV (fun bx => ?_) | ((repeat ((fail_if_success (refine hK _ _ ?_)); clear hK)); refine hK _ _ ?_; clear hK))
          refine ⟨⟨k + 1, hlk⟩, ?_, (by (first | exact ⟨0, rfl⟩ | exact ⟨1, rfl⟩ | exact ⟨2, rfl⟩ | exact ⟨3, rfl⟩ | exact ⟨4, rfl⟩)), ?_⟩
          · (repeat (first | exact True.intro | refine ⟨⟨_, rfl, Sub.refl _⟩, ?_⟩ | refine ⟨⟨_, rfl, Sub.nilso _ _⟩, ?_⟩ | refine ⟨⟨_, rfl, sl_tail _ _ _ _ _⟩, ?_⟩ | refine ⟨⟨_, rfl, Sub.of_eq (by first | rfl | (congr 1; first | omega | (simp only; omega)) | (simp; done) | (simp; omega))⟩, ?_⟩ | refine ⟨⟨_, rfl, Sub.view _ _ _ _⟩, ?_⟩))
          · simp only; omega
        · repeat (first | refine wK ?_ | refine awp_seq_k (fun K hK => ?_) | refine areg_text mixed tyok (by decide +kernel) ?_ | refine qal tyok (fun bx => ?_) | refine qbox (fun bx => ?_) | refine qboxV (fun bx => ?_) | ((repeat ((fail_if_success (refine hK _ _ ?_)); clear hK)); refine hK _ _ ?_; clear hK))
          refine ⟨⟨i + 1, hlt⟩, ?_, (by (first | exact ⟨0, rfl⟩ | exact ⟨1, rfl⟩ | exact ⟨2, rfl⟩ | exact ⟨3, rfl⟩ | exact ⟨4, rfl⟩)), ?_⟩
          · (repeat (first | exact True.intro | refine ⟨⟨_, rfl, Sub.refl _⟩, ?_⟩ | refine ⟨⟨_, rfl, Sub.nilso _ _⟩, ?_⟩ | refine ⟨⟨_, rfl, sl_tail _ _ _ _ _⟩, ?_⟩ | refine ⟨⟨_, rfl, Sub.of_eq (by first | rfl | (congr 1; first | omega | (simp only; omega)) | (simp; done) | (simp; omega))⟩, ?_⟩ | refine ⟨⟨_, rfl, Sub.view _ _ _ _⟩, ?_⟩))
          · simp only; omega
      · repeat (first | refine wK ?_ | refine awp_seq_k (fun K hK => ?_) | refine areg_text mixed tyok (by decide +kernel) ?_ | refine qal tyok (fun bx => ?_) | refine qbox (fun bx => ?_) | refine qboxV (fun bx => ?_) | refine TR.pcall rfl rfl rfl rfl True.intro rfl rfl (known19_c) ?_ | refine pco rfl rfl rfl rfl rfl rfl rfl rfl (fun _ => known19_c) ?_ | ((repeat ((fail_if_success (refine hK _ _ ?_)); clear hK)); refine hK _ _ ?_; clear hK))
        refine r1 ?_
        exact Sub.refl _

end Go.Proofs.YtgbmanmcioailaaDoor
