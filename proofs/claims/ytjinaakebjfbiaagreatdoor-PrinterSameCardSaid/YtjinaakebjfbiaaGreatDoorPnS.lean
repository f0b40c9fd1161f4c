/-
  PrinterSame returns true.
-/
import Derived.Test.YtjinaakebjfbiaaGreatDoorPy
namespace Go.Proofs.YtjinaakebjfbiaaGreatDoor
open Go.Ab

theorem same_lims {a b : List StR} (h : sameL a b true = true) (ha : (lookF (a.map StR.up)).e = 0) (hb : (lookF (b.map StR.up)).e = 0) :
    limsV (a.map StR.up) = limsV (b.map StR.up) ∧ ((a.map StR.up).getD 1 default).word.w = ((b.map StR.up).getD 1 default).word.w := by
  have h4 : ∀ l : List StI, (lookF l).e = 0 → 3 ≤ l.length ∧ (l.getD 0 default).args.length = 4 := by
    intro l hl
    obtain ⟨h3, _, _, _, hp⟩ := lookF_id hl
    refine ⟨h3, ?_⟩
    have := ((place_k (hp 0 (by omega)).1).1 rfl).2
    rw [getD_at (by omega)]
    exact this
  obtain ⟨a3, a4⟩ := h4 _ ha
  obtain ⟨b3, b4⟩ := h4 _ hb
  rw [List.length_map] at a3 b3
  have up : ∀ (l : List StR) (i : Nat), i < l.length → (l.map StR.up).getD i default = (l.getD i default).up := by
    intro l i hi
    rw [getD_at (by simpa using hi), getD_at hi, List.getElem_map]
  have upT : ∀ (l : List TokR) (i : Nat), i < l.length → (l.map TokR.up).getD i default = (l.getD i default).up := by
    intro l i hi
    rw [getD_at (by simpa using hi), getD_at hi, List.getElem_map]
  rw [up a 0 (by omega)] at a4
  rw [up b 0 (by omega)] at b4
  have a5 : (a.getD 0 default).args.length = 4 := by simpa [StR.up] using a4
  have b5 : (b.getD 0 default).args.length = 4 := by simpa [StR.up] using b4
  simp only [sameL, Bool.and_eq_true, beq_iff_eq, List.all_eq_true, List.mem_range] at h
  obtain ⟨hl, hs⟩ := h
  have s0 := hs 0 (by omega)
  have s1 := hs 1 (by omega)
  simp only [sameS, Bool.and_eq_true, beq_iff_eq, sameA, List.all_eq_true, List.mem_range] at s0 s1
  have n : ∀ k, k < 4 → ((a.getD 0 default).args.getD k default).n = ((b.getD 0 default).args.getD k default).n := by
    intro k hk
    have := s0.2 k (by omega)
    simp only [sameT, Bool.and_eq_true, beq_iff_eq] at this
    exact this.1.2
  constructor
  · unfold limsV
    rw [decide_eq_true ha, decide_eq_true hb, up a 0 (by omega), up b 0 (by omega)]
    have e : ∀ (x : StR) (k : Nat), k < x.args.length → (x.up.args.getD k default).n = (x.args.getD k default).n := by
      intro x k hk
      show ((x.args.map TokR.up).getD k default).n = _
      rw [upT _ _ hk]
      rfl
    rw [e _ 0 (by omega), e _ 1 (by omega), e _ 2 (by omega), e _ 3 (by omega), e _ 0 (by omega), e _ 1 (by omega), e _ 2 (by omega), e _ 3 (by omega), n 0 (by omega), n 1 (by omega), n 2 (by omega), n 3 (by omega)]
  · rw [up a 1 (by omega), up b 1 (by omega)]
    have := s1.1.1.1.2
    simp only [sameT, Bool.and_eq_true, beq_iff_eq] at this
    exact this.1.1.2

theorem scriptF_inl {s : List UInt8} {p : Int × Int × Int} (h : scriptF s = .inl p) : p.2.2 ≠ 0 := by
  unfold scriptF at h
  split at h
  · cases h; simp
  split at h
  · cases h; simp
  split at h
  · cases h
  · rename_i he
    cases h
    exact he

/-- All statements but the last. -/
theorem stmts_short (a : List StR) : Sub (.slice 16 ((a.length : Int) - 1).toNat (fun i => stmtE (a.getD i default)) .view) (stmtsI ((a.map StR.up).take (a.length - 1))) := by
  have e : ((a.length : Int) - 1).toNat = (a.take (a.length - 1)).length := by
    rw [List.length_take]
    omega
  have h := stmts_up (a.take (a.length - 1))
  rw [List.map_take] at h
  refine Sub.trans ?_ h
  unfold stmtsV sl
  rw [e]
  refine Sub.el fun i hi => ?_
  rw [getD_at hi, getD_at (by rw [List.length_take] at hi; omega), List.getElem_take]

theorem cbPnS : Callable Tryz.prog 8 := fun _ _ => by kernel_rfl
set_option maxHeartbeats 6400000 in
set_option maxRecDepth 100000 in
theorem printerSame_c (s t : List UInt8) : PCalls Tryz.prog 8 [.str s, .str t] (.bool true) := by
  refine pcalls_of_awp tyok cbPnS Tryz.func8 rfl rfl ?_
  by_cases hs : s.length > 2000
  · have hs' : (s.length : Int) > 2000 := by omega
    repeat (first | refine wKB ?_ | refine awp_seq_k (fun K hK => ?_) | refine areg_text mixed tyok (by decide +kernel) ?_ | refine qal tyok (fun bx => ?_) | refine qbox (fun bx => ?_) | refine qboxV (fun bx => ?_) | refine TR.pcall rfl rfl rfl rfl True.intro rfl rfl (known23_c) ?_ | refine pco rfl rfl rfl rfl rfl rfl rfl rfl (fun _ => known23_c) ?_ | ((repeat ((fail_if_success (refine hK _ _ ?_)); clear hK)); refine hK _ _ ?_; clear hK))
    refine r1 ?_
    exact Sub.refl _
  have hs' : ¬ (s.length : Int) > 2000 := by omega
  by_cases ht : t.length > 2000
  · have ht' : (t.length : Int) > 2000 := by omega
    repeat (first | refine wKB ?_ | refine awp_seq_k (fun K hK => ?_) | refine areg_text mixed tyok (by decide +kernel) ?_ | refine qal tyok (fun bx => ?_) | refine qbox (fun bx => ?_) | refine qboxV (fun bx => ?_) | refine TR.pcall rfl rfl rfl rfl True.intro rfl rfl (known23_c) ?_ | refine pco rfl rfl rfl rfl rfl rfl rfl rfl (fun _ => known23_c) ?_ | ((repeat ((fail_if_success (refine hK _ _ ?_)); clear hK)); refine hK _ _ ?_; clear hK))
    refine r1 ?_
    exact Sub.refl _
  have ht' : ¬ (t.length : Int) > 2000 := by omega
  have g1 := script22_c s (by omega)
  have g2 := script22_c t (by omega)
  cases hss : scriptF s with
  | inl p =>
    obtain ⟨p1, p2, p3⟩ := p
    have hp : p3 ≠ 0 := scriptF_inl hss
    rw [hss] at g1
    simp only [scriptV] at g1
    obtain ⟨r2, l2, c2, e2, hv⟩ : ∃ (r : List StR) (l c e : Int), scriptV (scriptF t) = .tuple [stmtsV r, placeV l c, .int .i64 e] := by
      cases scriptF t with
      | inl p => exact ⟨[], p.1, p.2.1, p.2.2, rfl⟩
      | inr r => exact ⟨r, 0, 0, 0, rfl⟩
    rw [hv] at g2
    repeat (first | refine wKB ?_ | refine awp_seq_k (fun K hK => ?_) | refine areg_text mixed tyok (by decide +kernel) ?_ | refine qal tyok (fun bx => ?_) | refine qbox (fun bx => ?_) | refine qboxV (fun bx => ?_) | refine TR.pcall rfl rfl rfl rfl True.intro rfl rfl (known23_c) ?_ | refine TR.pcall rfl rfl rfl rfl True.intro rfl rfl (g1) ?_ | refine TR.pcall rfl rfl rfl rfl True.intro rfl rfl (g2) ?_ | refine pco rfl rfl rfl rfl rfl rfl rfl rfl (fun _ => known23_c) ?_ | refine pco rfl rfl rfl rfl rfl rfl rfl rfl (fun _ => g1) ?_ | refine pco rfl rfl rfl rfl rfl rfl rfl rfl (fun _ => g2) ?_ | ((repeat ((fail_if_success (refine hK _ _ ?_)); clear hK)); refine hK _ _ ?_; clear hK))
    refine r1 ?_
    exact Sub.refl _
  | inr a =>
  cases hst : scriptF t with
  | inl p =>
    obtain ⟨p1, p2, p3⟩ := p
    have hp : p3 ≠ 0 := scriptF_inl hst
    rw [hss] at g1
    rw [hst] at g2
    simp only [scriptV] at g1 g2
    repeat (first | refine wKB ?_ | refine awp_seq_k (fun K hK => ?_) | refine areg_text mixed tyok (by decide +kernel) ?_ | refine qal tyok (fun bx => ?_) | refine qbox (fun bx => ?_) | refine qboxV (fun bx => ?_) | refine TR.pcall rfl rfl rfl rfl True.intro rfl rfl (known23_c) ?_ | refine TR.pcall rfl rfl rfl rfl True.intro rfl rfl (g1) ?_ | refine TR.pcall rfl rfl rfl rfl True.intro rfl rfl (g2) ?_ | refine pco rfl rfl rfl rfl rfl rfl rfl rfl (fun _ => known23_c) ?_ | refine pco rfl rfl rfl rfl rfl rfl rfl rfl (fun _ => g1) ?_ | refine pco rfl rfl rfl rfl rfl rfl rfl rfl (fun _ => g2) ?_ | ((repeat ((fail_if_success (refine hK _ _ ?_)); clear hK)); refine hK _ _ ?_; clear hK))
    refine r1 ?_
    exact Sub.refl _
  | inr b =>
  rw [hss] at g1
  rw [hst] at g2
  simp only [scriptV] at g1 g2
  obtain ⟨i1, i2, i3⟩ := scriptF_inr hss
  obtain ⟨j1, j2, j3⟩ := scriptF_inr hst
  obtain ⟨b1, b2⟩ := scriptF_bd hss
  obtain ⟨d1, d2⟩ := scriptF_bd hst
  obtain ⟨r, hf, hp⟩ := parseF_inr i2
  obtain ⟨r', hf', hp'⟩ := parseF_inr j2
  have sa := read_small hf hp (by omega) b1
  have sb := read_small hf' hp' (by omega) d1
  have oa := read_ok hf hp
  have ob := read_ok hf' hp'
  have st := sameLn_text hf hp hf' hp'
  have l3 := (lookF_id i3).1
  rw [List.length_map] at l3
  have ea : printF (a.map StR.up) = (0, printT (a.map StR.up)) := by
    unfold printF
    rw [if_neg (by simpa using i3), if_pos oa]
  have eb : printF (b.map StR.up) = (0, printT (b.map StR.up)) := by
    unfold printF
    rw [if_neg (by simpa using j3), if_pos ob]
  have fa : ∀ {l : List StI}, Small l → ∀ x ∈ l, x.args.length ≤ 2000000 ∧ lenI x ≤ 2000000 := fun h x hx => ⟨h.args x hx, h.line x hx⟩
  have p1 := PCalls.sub (print_c _ sa) (.cons (stmts_up a) .nil)
  have p2 := PCalls.sub (print_c _ sb) (.cons (stmts_up b) .nil)
  rw [ea] at p1
  rw [eb] at p2
  have q1 := PCalls.sub (psame_c _ (b.map StR.up) (by have := sa.len; omega) (fa sa) (fa sb)) (.cons (stmts_up a) (.cons (stmts_up b) .nil))
  have q2 := PCalls.sub (psame_c _ (a.map StR.up) (by have := sb.len; omega) (fa sb) (fa sa)) (.cons (stmts_up b) (.cons (stmts_up a) .nil))
  have q3 := PCalls.sub (psame_c _ (a.map StR.up) (by have := sa.len; omega) (fa sa) (fa sa)) (.cons (stmts_up a) (.cons (stmts_up a) .nil))
  rw [sameLn_refl] at q3
  rw [sameLn_comm] at q2
  have q4 := PCalls.sub (psame_c _ ((a.map StR.up).take (a.length - 1)) (by have := sa.len; omega) (fa sa) (fun x hx => fa sa x (List.mem_of_mem_take hx))) (.cons (stmts_up a) (.cons (stmts_short a) .nil))
  rw [sameLn_short (by rw [List.length_map]; omega)] at q4
  by_cases hT : printT (a.map StR.up) = printT (b.map StR.up)
  · have hs0 : sameLn (a.map StR.up) (b.map StR.up) = true := by rw [st, hT]; simp
    rw [hs0] at q1 q2
    rw [← hT] at p2
    obtain ⟨hl, hw⟩ := same_lims (same_first hf hp hf' hp' hT) i3 j3
    have w1 := PCalls.sub (plimits_c (a.map StR.up) (by have := sa.len; omega) (fun x hx => by have := sa.args x hx; omega)) (.cons (stmts_up a) .nil)
    have w2 := PCalls.sub (plimits_c (b.map StR.up) (by have := sb.len; omega) (fun x hx => by have := sb.args x hx; omega)) (.cons (stmts_up b) .nil)
    have w3 := PCalls.sub (full_c (a.map StR.up) (by have := sa.len; omega) (fun x hx => by have := sa.args x hx; omega)) (.cons (stmts_up a) .nil)
    have w4 := PCalls.sub (full_c (b.map StR.up) (by have := sb.len; omega) (fun x hx => by have := sb.args x hx; omega)) (.cons (stmts_up b) .nil)
    rw [← hl] at w2
    rw [← hw, decide_eq_true j3] at w4
    rw [decide_eq_true i3] at w3
    simp only [limsV, decide_eq_true i3] at w1 w2
    repeat (first | refine wKB ?_ | refine awp_seq_k (fun K hK => ?_) | refine areg_text mixed tyok (by decide +kernel) ?_ | refine qal tyok (fun bx => ?_) | refine qbox (fun bx => ?_) | refine qboxV (fun bx => ?_) | refine TR.pcall rfl rfl rfl rfl True.intro rfl rfl (known23_c) ?_ | refine TR.pcall rfl rfl rfl rfl True.intro rfl rfl (g1) ?_ | refine TR.pcall rfl rfl rfl rfl True.intro rfl rfl (g2) ?_ | refine TR.pcall rfl rfl rfl rfl True.intro rfl rfl (p1) ?_ | refine TR.pcall rfl rfl rfl rfl True.intro rfl rfl (p2) ?_ | refine TR.pcall rfl rfl rfl rfl True.intro rfl rfl (q1) ?_ | refine TR.pcall rfl rfl rfl rfl True.intro rfl rfl (q2) ?_ | refine TR.pcall rfl rfl rfl rfl True.intro rfl rfl (q3) ?_ | refine pco rfl rfl rfl rfl rfl rfl rfl rfl (fun _ => known23_c) ?_ | refine pco rfl rfl rfl rfl rfl rfl rfl rfl (fun _ => g1) ?_ | refine pco rfl rfl rfl rfl rfl rfl rfl rfl (fun _ => g2) ?_ | refine pco rfl rfl rfl rfl rfl rfl rfl rfl (fun _ => p1) ?_ | refine pco rfl rfl rfl rfl rfl rfl rfl rfl (fun _ => p2) ?_ | refine pco rfl rfl rfl rfl rfl rfl rfl rfl (fun _ => q1) ?_ | refine pco rfl rfl rfl rfl rfl rfl rfl rfl (fun _ => q2) ?_ | refine pco rfl rfl rfl rfl rfl rfl rfl rfl (fun _ => q3) ?_ | ((repeat ((fail_if_success (refine hK _ _ ?_)); clear hK)); refine hK _ _ ?_; clear hK))
    refine awp_cond rfl (fun hb => absurd hb (by simp)) (fun _ => ?_)
    repeat (first | refine wKB ?_ | refine awp_seq_k (fun K hK => ?_) | refine areg_text mixed tyok (by decide +kernel) ?_ | refine qal tyok (fun bx => ?_) | refine qbox (fun bx => ?_) | refine qboxV (fun bx => ?_) | refine TR.pcall rfl rfl rfl rfl True.intro rfl rfl (known23_c) ?_ | refine TR.pcall rfl rfl rfl rfl True.intro rfl rfl (q1) ?_ | refine TR.pcall rfl rfl rfl rfl True.intro rfl rfl (q3) ?_ | refine TR.pcall rfl rfl rfl rfl True.intro rfl rfl (q4) ?_ | refine TR.pcall rfl rfl rfl rfl True.intro rfl rfl (w1) ?_ | refine TR.pcall rfl rfl rfl rfl True.intro rfl rfl (w2) ?_ | refine TR.pcall rfl rfl rfl rfl True.intro rfl rfl (w3) ?_ | refine TR.pcall rfl rfl rfl rfl True.intro rfl rfl (w4) ?_ | refine pco rfl rfl rfl rfl rfl rfl rfl rfl (fun _ => known23_c) ?_ | refine pco rfl rfl rfl rfl rfl rfl rfl rfl (fun _ => q1) ?_ | refine pco rfl rfl rfl rfl rfl rfl rfl rfl (fun _ => q3) ?_ | refine pco rfl rfl rfl rfl rfl rfl rfl rfl (fun _ => q4) ?_ | refine pco rfl rfl rfl rfl rfl rfl rfl rfl (fun _ => w1) ?_ | refine pco rfl rfl rfl rfl rfl rfl rfl rfl (fun _ => w2) ?_ | refine pco rfl rfl rfl rfl rfl rfl rfl rfl (fun _ => w3) ?_ | refine pco rfl rfl rfl rfl rfl rfl rfl rfl (fun _ => w4) ?_ | ((repeat ((fail_if_success (refine hK _ _ ?_)); clear hK)); refine hK _ _ ?_; clear hK))
    refine awp_cond rfl (fun hb => absurd hb (by simp)) (fun _ => ?_)
    repeat (first | refine wKB ?_ | refine awp_seq_k (fun K hK => ?_) | refine areg_text mixed tyok (by decide +kernel) ?_ | refine qal tyok (fun bx => ?_) | refine qbox (fun bx => ?_) | refine qboxV (fun bx => ?_) | refine TR.pcall rfl rfl rfl rfl True.intro rfl rfl (known23_c) ?_ | refine TR.pcall rfl rfl rfl rfl True.intro rfl rfl (q3) ?_ | refine TR.pcall rfl rfl rfl rfl True.intro rfl rfl (q4) ?_ | refine pco rfl rfl rfl rfl rfl rfl rfl rfl (fun _ => known23_c) ?_ | refine pco rfl rfl rfl rfl rfl rfl rfl rfl (fun _ => q3) ?_ | refine pco rfl rfl rfl rfl rfl rfl rfl rfl (fun _ => q4) ?_ | ((repeat ((fail_if_success (refine hK _ _ ?_)); clear hK)); refine hK _ _ ?_; clear hK))
    refine fnQ_ret 2 rfl (.tmp rfl .nil) (Sub.of_eq ?_) ⟨rfl, rfl⟩
    rfl
  · have hs0 : sameLn (a.map StR.up) (b.map StR.up) = false := by rw [st]; simpa using hT
    rw [hs0] at q1 q2
    repeat (first | refine wKB ?_ | refine awp_seq_k (fun K hK => ?_) | refine areg_text mixed tyok (by decide +kernel) ?_ | refine qal tyok (fun bx => ?_) | refine qbox (fun bx => ?_) | refine qboxV (fun bx => ?_) | refine TR.pcall rfl rfl rfl rfl True.intro rfl rfl (known23_c) ?_ | refine TR.pcall rfl rfl rfl rfl True.intro rfl rfl (g1) ?_ | refine TR.pcall rfl rfl rfl rfl True.intro rfl rfl (g2) ?_ | refine TR.pcall rfl rfl rfl rfl True.intro rfl rfl (p1) ?_ | refine TR.pcall rfl rfl rfl rfl True.intro rfl rfl (p2) ?_ | refine TR.pcall rfl rfl rfl rfl True.intro rfl rfl (q1) ?_ | refine TR.pcall rfl rfl rfl rfl True.intro rfl rfl (q2) ?_ | refine TR.pcall rfl rfl rfl rfl True.intro rfl rfl (q3) ?_ | refine TR.pcall rfl rfl rfl rfl True.intro rfl rfl (q4) ?_ | refine pco rfl rfl rfl rfl rfl rfl rfl rfl (fun _ => known23_c) ?_ | refine pco rfl rfl rfl rfl rfl rfl rfl rfl (fun _ => g1) ?_ | refine pco rfl rfl rfl rfl rfl rfl rfl rfl (fun _ => g2) ?_ | refine pco rfl rfl rfl rfl rfl rfl rfl rfl (fun _ => p1) ?_ | refine pco rfl rfl rfl rfl rfl rfl rfl rfl (fun _ => p2) ?_ | refine pco rfl rfl rfl rfl rfl rfl rfl rfl (fun _ => q1) ?_ | refine pco rfl rfl rfl rfl rfl rfl rfl rfl (fun _ => q2) ?_ | refine pco rfl rfl rfl rfl rfl rfl rfl rfl (fun _ => q3) ?_ | refine pco rfl rfl rfl rfl rfl rfl rfl rfl (fun _ => q4) ?_ | ((repeat ((fail_if_success (refine hK _ _ ?_)); clear hK)); refine hK _ _ ?_; clear hK))
    refine fnQ_ret 2 rfl (.tmp rfl .nil) (Sub.of_eq ?_) ⟨rfl, rfl⟩
    rfl

end Go.Proofs.YtjinaakebjfbiaaGreatDoor
