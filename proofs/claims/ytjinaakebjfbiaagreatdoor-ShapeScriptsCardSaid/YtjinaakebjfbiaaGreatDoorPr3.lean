/-
  A script's statements.
-/
import Derived.Test.YtjinaakebjfbiaaGreatDoorPr2
namespace Go.Proofs.YtjinaakebjfbiaaGreatDoor
open Go.Ab

theorem cbPa1 : Callable Tryz.prog 96 := fun _ _ => by kernel_rfl

def outB (b : Nat) (v : AV) : Ent := .box b 22 v
def plB (b : Nat) (l c : Int) : Ent := .box b 39 (placeV l c)
def erB (b : Nat) (e : Int) : Ent := .box b 29 (.int .i64 e)

/-- The deferred call, where nothing was given up. -/
theorem pa1_none (b2 b3 b4 : Nat) (H : AHeap) (R : AHeap → Prop) (hR : R H) : DCalls Tryz.prog 96 (ptrsOf [(b2, 0), (b3, 0), (b4, 0)]) none H R := by
  refine dcalls_of_awp cbPa1 Tryz.func96 rfl rfl rfl rfl rfl rfl rfl ?_
  repeat (first | refine wK ?_ | refine awp_seq_k (fun K hK => ?_) | refine areg_text mixed tyok (by decide +kernel) ?_ | refine qal tyok (fun bx => ?_) | refine qbox (fun bx => ?_) | refine qboxV (fun bx => ?_) | ((repeat ((fail_if_success (refine hK _ _ ?_)); clear hK)); refine hK _ _ ?_; clear hK))
  exact ⟨rfl, hR⟩

theorem pa1_some (b2 b3 b4 : Nat) (G H : AHeap) (outs : List StR) (a : Option Addr) (cap : Nat) (l c l0 c0 e0 : Int) (R : AHeap → Prop) (hp : H.Perm ([outB b2 (sl stmtE 16 outs (.own a cap)), plB b3 l0 c0, erB b4 e0] ++ G)) (hR : ∀ b, R ([.box b 156 (placeV l c), outB b2 .nils, plB b3 l c, erB b4 4] ++ G)) :
    DCalls Tryz.prog 96 (ptrsOf [(b2, 0), (b3, 0), (b4, 0)]) (some (.iface 156 (placeV l c))) H R := by
  refine dcalls_of_awp cbPa1 Tryz.func96 rfl rfl rfl rfl rfl rfl rfl ?_
  refine awp_perm hp ?_
  unfold outB plB erB
  refine awp_perm (List.Perm.refl _ : List.Perm _ (.box b2 22 (sl stmtE 16 outs (.own a cap)) :: .box b3 39 (placeV l0 c0) :: .box b4 29 (.int .i64 e0) :: G)) ?_
  repeat (first | refine wK ?_ | refine awp_seq_k (fun K hK => ?_) | refine areg_text mixed tyok (by decide +kernel) ?_ | refine qal tyok (fun bx => ?_) | refine qbox (fun bx => ?_) | refine qboxV (fun bx => ?_) | ((repeat ((fail_if_success (refine hK _ _ ?_)); clear hK)); refine hK _ _ ?_; clear hK))
  refine qta tyok ?_
  ((repeat (first | refine wK ?_ | refine awp_seq_k (fun K hK => ?_) | ((repeat ((fail_if_success (refine hK _ _ ?_)); clear hK)); refine hK _ _ ?_; clear hK))); ((first | refine qal tyok (fun b => ?_) | refine qbox (fun b => ?_) | refine qboxV (fun b => ?_))); (repeat (first | refine wK ?_ | refine awp_seq_k (fun K hK => ?_) | refine qal tyok (fun bx => ?_) | refine qbox (fun bx => ?_) | refine qboxV (fun bx => ?_) | ((repeat ((fail_if_success (refine hK _ _ ?_)); clear hK)); refine hK _ _ ?_; clear hK))))
  refine areg_kept mixed tyok [(1, [22]), (2, [39]), (3, [29])] [0, 1, 2, 3] (by decide +kernel) ?_
  repeat (first | refine wK ?_ | refine awp_seq_k (fun K hK => ?_) | refine areg_text mixed tyok (by decide +kernel) ?_ | refine qal tyok (fun bx => ?_) | refine qbox (fun bx => ?_) | refine qboxV (fun bx => ?_) | ((repeat ((fail_if_success (refine hK _ _ ?_)); clear hK)); refine hK _ _ ?_; clear hK))
  exact ⟨rfl, hR b⟩

theorem cbPar : Callable Tryz.prog 69 := fun _ _ => by kernel_rfl

theorem parseG_step {outs : List StR} {l : List TokR} {ls : List (List TokR)} {s : StR} (h : stmtF l = .inr s) : preS outs (parseG (l :: ls)) = preS (outs ++ [s]) (parseG ls) := by
  simp only [parseG, h]
  cases parseG ls <;> simp [preS]

/-- Behind a panic nothing is told of the heap. -/
theorem ACalls.panicNil {P : Program} {f : FuncId} {vs : List AV} {H : AHeap} {K : ARes → AHeap → Prop} (h : ACalls P f vs H K) :
    ACalls P f vs H (fun r H' => match r with
      | .ret v => K (.ret v) H'
      | .panic v => H' = [] ∧ ∃ H2, K (.panic v) H2) := by
  refine ⟨h.1, fun st w xs hc hx hg => (h.2 st w xs hc hx hg).mono fun e w' hp => ?_⟩
  cases e with
  | outgrown => exact hp.elim
  | returned v =>
    obtain ⟨st', r, H2, h1, h2, h3⟩ := hp
    cases r with
    | ret u => exact ⟨st', .ret u, H2, h1, h2, h3⟩
    | panic u => exact h2.elim
  | panicked v =>
    obtain ⟨st', r, H2, h1, h2, h3⟩ := hp
    cases r with
    | ret u => exact h2.elim
    | panic u => exact ⟨st', .panic u, [], by simpa using conc_dropK (k := H2.length) h1, h2, rfl, H2, h3⟩

theorem endOf_bound {n : Nat} : ∀ {ws : List (Nat × List UInt8)} {ts : List TokR}, toksF n ws = .inr ts → ∀ t ∈ ts, ∃ c, (c, t.w) ∈ ws ∧ t.co = c
  | [], ts, h, t, ht => by
    simp only [toksF, Sum.inr.injEq] at h
    subst h
    cases ht
  | (c, w) :: ws, ts, h, t, ht => by
    simp only [toksF] at h
    split at h
    · cases h
    · split at h
      · cases h
      · rename_i r hr
        simp only [Sum.inr.injEq] at h
        subst h
        rcases List.mem_cons.1 ht with rfl | ht
        · exact ⟨c, by simp, rfl⟩
        · obtain ⟨c', h1, h2⟩ := endOf_bound hr t ht
          exact ⟨c', by simp [h1], h2⟩

theorem wordsG_bound : ∀ (ps : List (List UInt8)) (k : Nat) (x : Nat × List UInt8), x ∈ wordsG k ps → x.1 + x.2.length ≤ k + (ps.map List.length).sum + ps.length + 1
  | [], _, x, h => by simp [wordsG] at h
  | p :: ps, k, x, h => by
    simp only [wordsG] at h
    simp only [List.map_cons, List.sum_cons, List.length_cons]
    split at h
    · simp at h
    · split at h
      · have := wordsG_bound ps _ x h
        omega
      · rcases List.mem_cons.1 h with rfl | h
        · simp only
          omega
        · have := wordsG_bound ps _ x h
          omega

theorem linesG_mem : ∀ (ps : List (List UInt8)) (n : Nat) (r : List (List TokR)), linesG n ps = .inr r → ∀ l ∈ r, l ≠ [] ∧ ∃ p ∈ ps, ∃ m, toksF m (wordsF p) = .inr l
  | [], n, r, h, l, hl => by
    simp only [linesG, Sum.inr.injEq] at h
    subst h
    cases hl
  | p :: ps, n, r, h, l, hl => by
    simp only [linesG] at h
    split at h
    · cases h
    · rename_i ts ht
      split at h
      · cases h
      · rename_i r' hr
        have ih := linesG_mem ps (n + 1) r' hr
        simp only [Sum.inr.injEq] at h
        split at h
        · subst h
          obtain ⟨h1, q, h2, h3⟩ := ih l hl
          exact ⟨h1, q, by simp [h2], h3⟩
        · rename_i hne
          subst h
          rcases List.mem_cons.1 hl with rfl | hl
          · exact ⟨hne, p, by simp, n + 1, ht⟩
          · obtain ⟨h1, q, h2, h3⟩ := ih l hl
            exact ⟨h1, q, by simp [h2], h3⟩

/-- Of a line that was read: it has words, not too many, and none stands too far right. -/
theorem line_bound {s : List UInt8} {r : List (List TokR)} (h : linesF s = .inr r) {l : List TokR} (hl : l ∈ r) : l ≠ [] ∧ l.length ≤ s.length + 1 ∧ ∀ t ∈ l, t.co + t.w.length ≤ s.length + 2 := by
  obtain ⟨h1, p, h2, m, h3⟩ := linesG_mem _ _ _ h l hl
  have hp := splitC_piece 10 s p h2
  have hc := splitC_len 32 p
  refine ⟨h1, ?_, fun t ht => ?_⟩
  · rw [toksF_len _ _ _ h3]
    refine Nat.le_trans (wordsG_len _ _) ?_
    omega
  · obtain ⟨c, h4, h5⟩ := endOf_bound h3 t ht
    have := wordsG_bound _ _ _ h4
    simp only at this
    omega

theorem linesG_count : ∀ (ps : List (List UInt8)) (n : Nat) (r : List (List TokR)), linesG n ps = .inr r → r.length ≤ ps.length
  | [], n, r, h => by
    simp only [linesG, Sum.inr.injEq] at h
    subst h
    simp
  | p :: ps, n, r, h => by
    simp only [linesG] at h
    split at h
    · cases h
    · split at h
      · cases h
      · rename_i r' hr
        have ih := linesG_count ps (n + 1) r' hr
        simp only [Sum.inr.injEq] at h
        split at h
        · subst h; simp; omega
        · subst h; simp; omega

theorem lines_count {s : List UInt8} {r : List (List TokR)} (h : linesF s = .inr r) : r.length ≤ s.length + 1 :=
  Nat.le_trans (linesG_count _ _ _ h) (splitC_count 10 s)

theorem getLastD_mem {l : List TokR} (h : l ≠ []) : l.getLastD tok0 ∈ l := by
  cases l with
  | nil => exact absurd rfl h
  | cons t l =>
    rw [List.getLastD_cons]
    exact List.getLastD_mem_cons

/-- The program where the words were no script's: told at once. -/
theorem parseR_err {s : List UInt8} {l c e : Int} (h : linesR s = .tuple [linesV [], placeV l c, .int .i64 e]) (he : e ≠ 0) : parseR s = .tuple [stmtsV [], placeV l c, .int .i64 e] := by
  unfold linesR at h
  unfold parseR parseF
  split at h
  · rename_i hl
    rw [if_pos hl]
    simp only [AV.tuple.injEq, List.cons.injEq, and_true, true_and, placeV, AV.agg.injEq, AV.int.injEq] at h
    obtain ⟨⟨rfl, rfl⟩, rfl⟩ := h
    rfl
  · rename_i hl
    rw [if_neg hl]
    cases hf : linesF s with
    | inl p =>
      rw [hf] at h
      simp only [AV.tuple.injEq, List.cons.injEq, and_true, true_and, placeV, AV.agg.injEq, AV.int.injEq] at h
      obtain ⟨⟨rfl, rfl⟩, rfl⟩ := h
      rfl
    | inr r =>
      rw [hf] at h
      simp only [AV.tuple.injEq, List.cons.injEq, and_true, true_and, placeV, AV.agg.injEq, AV.int.injEq] at h
      exact absurd h.2.2.symm he

set_option maxHeartbeats 6400000 in
set_option maxRecDepth 100000 in
theorem parse_c (s : List UInt8) (hs : s.length ≤ 1000000000) : PCalls Tryz.prog 69 [.str s] (parseR s) := by
  refine acalls_of_fwp cbPar Tryz.func69 rfl rfl ?_
  have g := lines_c s hs
  refine fwp_seq_k tyok (fun K hK => ?_)
  ((repeat (first | refine wK ?_ | refine awp_seq_k (fun K hK => ?_) | refine areg_text mixed tyok (by decide +kernel) ?_ | refine TR.pcall rfl rfl rfl rfl True.intro rfl rfl (g) ?_ | refine pco rfl rfl rfl rfl rfl rfl rfl rfl (fun _ => g) ?_ | ((repeat ((fail_if_success (refine hK _ _ ?_)); clear hK)); refine hK _ _ ?_; clear hK))); ((first | refine qal tyok (fun b2 => ?_) | refine qbox (fun b2 => ?_) | refine qboxV (fun b2 => ?_))); (repeat (first | refine wK ?_ | refine awp_seq_k (fun K hK => ?_) | refine areg_text mixed tyok (by decide +kernel) ?_ | refine TR.pcall rfl rfl rfl rfl True.intro rfl rfl (g) ?_ | refine pco rfl rfl rfl rfl rfl rfl rfl rfl (fun _ => g) ?_ | ((repeat ((fail_if_success (refine hK _ _ ?_)); clear hK)); refine hK _ _ ?_; clear hK))); ((first | refine qal tyok (fun b3 => ?_) | refine qbox (fun b3 => ?_) | refine qboxV (fun b3 => ?_))); (repeat (first | refine wK ?_ | refine awp_seq_k (fun K hK => ?_) | refine areg_text mixed tyok (by decide +kernel) ?_ | refine TR.pcall rfl rfl rfl rfl True.intro rfl rfl (g) ?_ | refine pco rfl rfl rfl rfl rfl rfl rfl rfl (fun _ => g) ?_ | ((repeat ((fail_if_success (refine hK _ _ ?_)); clear hK)); refine hK _ _ ?_; clear hK))); ((first | refine qal tyok (fun b4 => ?_) | refine qbox (fun b4 => ?_) | refine qboxV (fun b4 => ?_))); (repeat (first | refine wK ?_ | refine awp_seq_k (fun K hK => ?_) | refine areg_text mixed tyok (by decide +kernel) ?_ | refine qal tyok (fun bx => ?_) | refine qbox (fun bx => ?_) | refine qboxV (fun bx => ?_) | refine TR.pcall rfl rfl rfl rfl True.intro rfl rfl (g) ?_ | refine pco rfl rfl rfl rfl rfl rfl rfl rfl (fun _ => g) ?_ | ((repeat ((fail_if_success (refine hK _ _ ?_)); clear hK)); refine hK _ _ ?_; clear hK))))
  refine fwp_seq_k tyok (fun K hK => ?_)
  by_cases hl : s.length > 65536 ∨ ∃ p, linesF s = .inl p
  · obtain ⟨l, c, e, h1, h2⟩ : ∃ l c e : Int, linesR s = .tuple [linesV [], placeV l c, .int .i64 e] ∧ e ≠ 0 := by
      by_cases h : s.length > 65536
      · exact ⟨0, 0, 3, by unfold linesR; rw [if_pos h], by decide⟩
      · obtain ⟨p, hp⟩ := hl.resolve_left h
        exact ⟨p.1, p.2, 4, linesR_inl h hp, by decide⟩
    rw [h1] at g
    rw [parseR_err h1 h2]
    repeat (first | refine wK ?_ | refine awp_seq_k (fun K hK => ?_) | refine areg_text mixed tyok (by decide +kernel) ?_ | refine qal tyok (fun bx => ?_) | refine qbox (fun bx => ?_) | refine qboxV (fun bx => ?_) | refine TR.pcall rfl rfl rfl rfl True.intro rfl rfl (g) ?_ | refine pco rfl rfl rfl rfl rfl rfl rfl rfl (fun _ => g) ?_ | ((repeat ((fail_if_success (refine hK _ _ ?_)); clear hK)); refine hK _ _ ?_; clear hK))
    refine fwp_seq_k tyok (fun K hK => ?_)
    repeat (first | refine wKB ?_ | refine awp_seq_k (fun K hK => ?_) | refine qal tyok (fun bx => ?_) | refine qbox (fun bx => ?_) | refine qboxV (fun bx => ?_) | ((repeat ((fail_if_success (refine hK _ _ ?_)); clear hK)); refine hK _ _ ?_; clear hK))
    refine areg_kept mixed tyok [(2, [22]), (3, [39])] [0, 1, 2, 3, 4] (by decide +kernel) ?_
    repeat (first | refine wK ?_ | refine awp_seq_k (fun K hK => ?_) | refine areg_text mixed tyok (by decide +kernel) ?_ | refine qal tyok (fun bx => ?_) | refine qbox (fun bx => ?_) | refine qboxV (fun bx => ?_) | ((repeat ((fail_if_success (refine hK _ _ ?_)); clear hK)); refine hK _ _ ?_; clear hK))
    refine fnQ_ret 3 rfl (.cell rfl rfl (List.Mem.tail _ (List.Mem.tail _ (List.Mem.head _))) rfl trivial (.cell rfl rfl (List.Mem.tail _ (List.Mem.head _)) rfl trivial (.cell rfl rfl (List.Mem.head _) rfl trivial .nil))) ?_ ⟨rfl, rfl⟩
    rw [parseR_err h1 h2]
    exact (Sub.of_eq (rfl : _ = AV.tuple [.nils, placeV l c, .int .i64 e])).trans (Sub.tuple3 (Sub.nilsv _ _) (Sub.refl _) (Sub.refl _))
  · have hlong : ¬ s.length > 65536 := fun h => hl (.inl h)
    obtain ⟨r, hr⟩ : ∃ r, linesF s = .inr r := by
      cases h : linesF s with
      | inl p => exact absurd (.inr ⟨p, h⟩) hl
      | inr r => exact ⟨r, rfl⟩
    rw [linesR_inr hlong hr] at g
    have hrl := lines_count hr
    repeat (first | refine wK ?_ | refine awp_seq_k (fun K hK => ?_) | refine areg_text mixed tyok (by decide +kernel) ?_ | refine qal tyok (fun bx => ?_) | refine qbox (fun bx => ?_) | refine qboxV (fun bx => ?_) | refine TR.pcall rfl rfl rfl rfl True.intro rfl rfl (g) ?_ | refine pco rfl rfl rfl rfl rfl rfl rfl rfl (fun _ => g) ?_ | ((repeat ((fail_if_success (refine hK _ _ ?_)); clear hK)); refine hK _ _ ?_; clear hK))
    refine fwp_seq_k tyok (fun K hK => ?_)
    repeat (first | refine wKB ?_ | refine awp_seq_k (fun K hK => ?_) | refine areg_text mixed tyok (by decide +kernel) ?_ | refine qal tyok (fun bx => ?_) | refine qbox (fun bx => ?_) | refine qboxV (fun bx => ?_) | ((repeat ((fail_if_success (refine hK _ _ ?_)); clear hK)); refine hK _ _ ?_; clear hK))
    refine fwp_defer tyok [(b2, 0), (b3, 0), (b4, 0)] rfl rfl rfl rfl rfl rfl rfl cbPa1 rfl ?_
    refine awp_boxSub [_, _] (v' := sl stmtE 16 [] (.own none 0)) (Sub.nilso _ _) ?_
    refine awp_tok0 16 47 ?_
    repeat (first | refine wK ?_ | refine awp_seq_k (fun K hK => ?_) | refine areg_text mixed tyok (by decide +kernel) ?_ | refine qal tyok (fun bx => ?_) | refine qbox (fun bx => ?_) | refine qboxV (fun bx => ?_) | ((repeat ((fail_if_success (refine hK _ _ ?_)); clear hK)); refine hK _ _ ?_; clear hK))
    refine awp_loop0 (ι := { x : Nat × List StR × Option Addr × Nat // x.1 ≤ r.length ∧ x.2.1.length = x.1 ∧ preS x.2.1 (parseG (r.drop x.1)) = parseG r })
      (fun i => [(2, .ptr b2 0), (3, .ptr b3 0), (4, .ptr b4 0), (19, linesV r), (20, .int .i64 r.length), (21, .int .i64 i.1.1)])
      (fun i => [.tok i.1.2.2.1 i.1.2.2.2 i.1.2.1.length 16 47, .box b4 29 (.int .i64 0), .box b3 39 (placeV 0 0), .box b2 22 (sl stmtE 16 i.1.2.1 (.own i.1.2.2.1 i.1.2.2.2))])
      (fun i => r.length - i.1.1) ⟨(0, [], none, 0), Nat.zero_le _, rfl, preS_nil _⟩ (by (repeat (first | exact True.intro | refine ⟨⟨_, rfl, Sub.refl _⟩, ?_⟩ | refine ⟨⟨_, rfl, Sub.nilso _ _⟩, ?_⟩ | refine ⟨⟨_, rfl, sl_tail _ _ _ _ _⟩, ?_⟩ | refine ⟨⟨_, rfl, Sub.of_eq (by first | rfl | (congr 1; first | omega | (simp only; omega)) | (simp; done) | (simp; omega))⟩, ?_⟩ | refine ⟨⟨_, rfl, Sub.view _ _ _ _⟩, ?_⟩))) ⟨0, rfl⟩ ?_
    rintro ⟨⟨k, outs, a, cap⟩, hk, hol, hpre⟩
    simp only at hk hol hpre
    by_cases hkl : k < r.length
    · have hd : r.drop k = r[k] :: r.drop (k + 1) := List.drop_eq_getElem_cons hkl
      obtain ⟨hne, hll, hcol⟩ := line_bound hr (List.getElem_mem hkl)
      obtain ⟨t0, r0, hrk⟩ : ∃ t0 r0, r[k] = t0 :: r0 := by
        cases h : r[k] with
        | nil => exact absurd h hne
        | cons t0 r0 => exact ⟨t0, r0, rfl⟩
      rw [hrk] at hd hne hll hcol
      rw [hd] at hpre
      have hget : r.getD k default = t0 :: r0 := by
        rw [List.getD_eq_getElem?_getD, List.getElem?_eq_getElem hkl, hrk]
        rfl
      have hst := stmt_c t0 r0 (by omega) (by
        have := hcol _ (getLastD_mem hne)
        simp only [endOf]
        omega)
      repeat (first | refine wKB ?_ | refine awp_seq_k (fun K hK => ?_) | refine qal tyok (fun bx => ?_) | refine qbox (fun bx => ?_) | refine qboxV (fun bx => ?_) | ((repeat ((fail_if_success (refine hK _ _ ?_)); clear hK)); refine hK _ _ ?_; clear hK))
      refine areg_kept mixed tyok [(2, []), (3, [])] [0, 1, 2, 3, 4, 5] (by decide +kernel) ?_
      cases hF : stmtF (t0 :: r0) with
      | inl p =>
        have hpG : parseG r = .inl p := by
          rw [← hpre]
          simp [parseG, hF, preS]
        have hpR : parseR s = .tuple [stmtsV [], placeV p.1 p.2, .int .i64 4] := by
          unfold parseR parseF
          rw [if_neg hlong, hr]
          simp only [hpG]
        rw [hF, ← hget] at hst
        repeat (first | refine wK ?_ | refine awp_seq_k (fun K hK => ?_) | refine areg_text mixed tyok (by decide +kernel) ?_ | refine qal tyok (fun bx => ?_) | refine qbox (fun bx => ?_) | refine qboxV (fun bx => ?_) | ((repeat ((fail_if_success (refine hK _ _ ?_)); clear hK)); refine hK _ _ ?_; clear hK))
        refine TR.hcall (Hc := []) rfl rfl rfl True.intro rfl rfl (List.Perm.refl _) (ACalls.panicNil hst) (fun v H' hK => ?_) (fun v H' hK => ?_) (fun v H' hK => ?_)
        · cases hK
        · obtain ⟨rfl, H2, hK⟩ := hK
          cases hK
          repeat (first | refine wK ?_ | refine awp_seq_k (fun K hK => ?_) | refine areg_text mixed tyok (by decide +kernel) ?_ | refine qal tyok (fun bx => ?_) | refine qbox (fun bx => ?_) | refine qboxV (fun bx => ?_) | ((repeat ((fail_if_success (refine hK _ _ ?_)); clear hK)); refine hK _ _ ?_; clear hK))
          refine pa1_some b2 b3 b4 [.tok a cap outs.length 16 47] _ outs a cap p.1 p.2 0 0 0 _ (List.reverse_perm [_, _, _, _]).symm fun b => ?_
          rw [hpR]
          refine ⟨5, _, _, .cell rfl rfl (List.Mem.tail _ (List.Mem.head _)) rfl trivial (.cell rfl rfl (List.Mem.tail _ (List.Mem.tail _ (List.Mem.head _))) rfl trivial (.cell rfl rfl (List.Mem.tail _ (List.Mem.tail _ (List.Mem.tail _ (List.Mem.head _)))) rfl trivial .nil)), ?_, rfl, rfl⟩
          exact (Sub.of_eq (rfl : _ = AV.tuple [.nils, placeV p.1 p.2, .int .i64 4])).trans (Sub.tuple3 (Sub.nilsv _ _) (Sub.refl _) (Sub.refl _))
        · cases hK
      | inr st =>
        rw [hF, ← hget] at hst
        repeat (first | refine wK ?_ | refine awp_seq_k (fun K hK => ?_) | refine areg_text mixed tyok (by decide +kernel) ?_ | refine qal tyok (fun bx => ?_) | refine qbox (fun bx => ?_) | refine qboxV (fun bx => ?_) | ((repeat ((fail_if_success (refine hK _ _ ?_)); clear hK)); refine hK _ _ ?_; clear hK))
        refine TR.hcall (Hc := []) rfl rfl rfl True.intro rfl rfl (List.Perm.refl _) (ACalls.panicNil hst) (fun v H' hK => ?_) (fun v H' hK => ?_) (fun v H' hK => ?_)
        rotate_left
        · obtain ⟨rfl, H2, hK⟩ := hK
          cases hK.1
        · obtain ⟨hK, rfl⟩ := hK
          exact KeepB.refl _
        obtain ⟨e1, rfl⟩ := hK
        cases e1
        repeat (first | refine wK ?_ | refine awp_seq_k (fun K hK => ?_) | refine areg_text mixed tyok (by decide +kernel) ?_ | refine qal tyok (fun bx => ?_) | refine qbox (fun bx => ?_) | refine qboxV (fun bx => ?_) | ((repeat ((fail_if_success (refine hK _ _ ?_)); clear hK)); refine hK _ _ ?_; clear hK))
        refine qapp tyok stmtE outs st (SubL.refl _) ?_ fun ad cp => ?_
        · simp only
          omega
        repeat (first | refine wK ?_ | refine awp_seq_k (fun K hK => ?_) | refine areg_text mixed tyok (by decide +kernel) ?_ | refine qal tyok (fun bx => ?_) | refine qbox (fun bx => ?_) | refine qboxV (fun bx => ?_) | ((repeat ((fail_if_success (refine hK _ _ ?_)); clear hK)); refine hK _ _ ?_; clear hK))
        refine ⟨⟨(k + 1, outs ++ [st], ad, cp), by simp only; omega, by simp [hol], by rw [← hpre]; exact (parseG_step hF).symm⟩, (by (repeat (first | exact True.intro | refine ⟨⟨_, rfl, Sub.refl _⟩, ?_⟩ | refine ⟨⟨_, rfl, Sub.nilso _ _⟩, ?_⟩ | refine ⟨⟨_, rfl, sl_tail _ _ _ _ _⟩, ?_⟩ | refine ⟨⟨_, rfl, Sub.of_eq (by first | rfl | (congr 1; first | omega | (simp only; omega)) | (simp; done) | (simp; omega))⟩, ?_⟩ | refine ⟨⟨_, rfl, Sub.view _ _ _ _⟩, ?_⟩))), ⟨0, rfl⟩, by simp only; omega⟩
    · have hke : k = r.length := by omega
      subst hke
      rw [List.drop_length] at hpre
      simp only [parseG, preS, List.append_nil] at hpre
      have hpR : parseR s = .tuple [stmtsV outs, placeV 0 0, .int .i64 0] := by
        unfold parseR parseF
        rw [if_neg hlong, hr]
        simp only [← hpre]
      repeat (first | refine wKB ?_ | refine awp_seq_k (fun K hK => ?_) | refine qal tyok (fun bx => ?_) | refine qbox (fun bx => ?_) | refine qboxV (fun bx => ?_) | ((repeat ((fail_if_success (refine hK _ _ ?_)); clear hK)); refine hK _ _ ?_; clear hK))
      refine areg_kept mixed tyok [(3, [22]), (4, [39])] [0, 1, 2, 3, 4, 5] (by decide +kernel) ?_
      repeat (first | refine wK ?_ | refine awp_seq_k (fun K hK => ?_) | refine areg_text mixed tyok (by decide +kernel) ?_ | refine qal tyok (fun bx => ?_) | refine qbox (fun bx => ?_) | refine qboxV (fun bx => ?_) | ((repeat ((fail_if_success (refine hK _ _ ?_)); clear hK)); refine hK _ _ ?_; clear hK))
      refine pa1_none b2 b3 b4 _ _ ?_
      rw [hpR]
      refine ⟨4, _, _, .cell rfl rfl (List.Mem.tail _ (List.Mem.tail _ (List.Mem.tail _ (List.Mem.head _)))) rfl trivial (.cell rfl rfl (List.Mem.tail _ (List.Mem.tail _ (List.Mem.head _))) rfl trivial (.cell rfl rfl (List.Mem.tail _ (List.Mem.head _)) rfl trivial .nil)), ?_, rfl, rfl⟩
      exact (Sub.of_eq (rfl : _ = AV.tuple [sl stmtE 16 outs (.own a cap), placeV 0 0, .int .i64 0])).trans (Sub.tuple3 (Sub.view _ _ _ _) (Sub.refl _) (Sub.refl _))

end Go.Proofs.YtjinaakebjfbiaaGreatDoor
