/-
  ShapePoints returns true.
-/
import Derived.Test.YtjinaakebjfbiaaGreatDoorShA
namespace Go.Proofs.YtjinaakebjfbiaaGreatDoor
open Go.Ab

theorem cbNames22 : Callable Tryz.prog 40 := fun _ _ => by kernel_rfl
set_option maxHeartbeats 1600000 in
set_option maxRecDepth 100000 in
theorem names22_c (a : List (List UInt8)) (ha : a.length ≤ 1000000000) : PCalls Tryz.prog 40 [sl txtE 1 a .view, sl txtE 1 a .view] (.bool true) := by
  refine pcalls_of_awp tyok cbNames22 Tryz.func40 rfl rfl ?_
  repeat (first | refine wKB ?_ | refine awp_seq_k (fun K hK => ?_) | refine areg_text mixed tyok (by decide +kernel) ?_ | refine qal tyok (fun bx => ?_) | refine qbox (fun bx => ?_) | refine qboxV (fun bx => ?_) | ((repeat ((fail_if_success (refine hK _ _ ?_)); clear hK)); refine hK _ _ ?_; clear hK))
  refine awp_loop0 (ι := { i : Nat // i ≤ a.length }) (fun i => [(0, sl txtE 1 a .view), (1, sl txtE 1 a .view), (12, .int .i64 a.length), (13, .int .i64 i.1)]) (fun _ => []) (fun i => a.length - i.1) ⟨0, Nat.zero_le _⟩ (by (repeat (first | exact True.intro | refine ⟨⟨_, rfl, Sub.refl _⟩, ?_⟩ | refine ⟨⟨_, rfl, Sub.nilso _ _⟩, ?_⟩ | refine ⟨⟨_, rfl, sl_tail _ _ _ _ _⟩, ?_⟩ | refine ⟨⟨_, rfl, Sub.of_eq (by first | rfl | (congr 1; first | omega | (simp only; omega)) | (simp; done) | (simp; omega))⟩, ?_⟩ | refine ⟨⟨_, rfl, Sub.view _ _ _ _⟩, ?_⟩))) (by (first | exact ⟨0, rfl⟩ | exact ⟨1, rfl⟩ | exact ⟨2, rfl⟩ | exact ⟨3, rfl⟩ | exact ⟨4, rfl⟩)) ?_
  rintro ⟨i, hi⟩
  simp only at hi ⊢
  by_cases hlt : i < a.length
  · have hlt' : (i : Int) < a.length := by omega
    repeat (first | refine wKB ?_ | refine awp_seq_k (fun K hK => ?_) | refine areg_text mixed tyok (by decide +kernel) ?_ | refine qal tyok (fun bx => ?_) | refine qbox (fun bx => ?_) | refine qboxV (fun bx => ?_) | ((repeat ((fail_if_success (refine hK _ _ ?_)); clear hK)); refine hK _ _ ?_; clear hK))
    refine awp_cond rfl (fun hb => absurd hb (by simp)) (fun _ => ?_)
    repeat (first | refine wKB ?_ | refine awp_seq_k (fun K hK => ?_) | refine areg_text mixed tyok (by decide +kernel) ?_ | refine qal tyok (fun bx => ?_) | refine qbox (fun bx => ?_) | refine qboxV (fun bx => ?_) | ((repeat ((fail_if_success (refine hK _ _ ?_)); clear hK)); refine hK _ _ ?_; clear hK))
    exact ⟨⟨i + 1, hlt⟩, (by (repeat (first | exact True.intro | refine ⟨⟨_, rfl, Sub.refl _⟩, ?_⟩ | refine ⟨⟨_, rfl, Sub.nilso _ _⟩, ?_⟩ | refine ⟨⟨_, rfl, sl_tail _ _ _ _ _⟩, ?_⟩ | refine ⟨⟨_, rfl, Sub.of_eq (by first | rfl | (congr 1; first | omega | (simp only; omega)) | (simp; done) | (simp; omega))⟩, ?_⟩ | refine ⟨⟨_, rfl, Sub.view _ _ _ _⟩, ?_⟩))), (by (first | exact ⟨0, rfl⟩ | exact ⟨1, rfl⟩ | exact ⟨2, rfl⟩ | exact ⟨3, rfl⟩ | exact ⟨4, rfl⟩)), by simp only; omega⟩
  · have hge : ¬ (i : Int) < a.length := by omega
    repeat (first | refine wKB ?_ | refine awp_seq_k (fun K hK => ?_) | refine areg_text mixed tyok (by decide +kernel) ?_ | refine qal tyok (fun bx => ?_) | refine qbox (fun bx => ?_) | refine qboxV (fun bx => ?_) | ((repeat ((fail_if_success (refine hK _ _ ?_)); clear hK)); refine hK _ _ ?_; clear hK))
    refine r1 ?_
    exact Sub.refl _

theorem wf_at {r : List StR} (h : (lookF (r.map StR.up)).e = 0) {i : Nat} (hi : i < r.length) :
    placeB r.length i (r.getD i default).up = true ∧ (stmtG (r.getD i default).up ⟨0, 0, 0, namesF ((r.take i).map StR.up)⟩).e = 0 := by
  have := (lookF_id h).2.2.2.2 i (by simpa using hi)
  simp only [List.length_map, List.getElem_map, ← List.map_take] at this
  rw [getD_at hi]
  exact this

theorem names_succ {r : List StR} {i : Nat} (hi : i < r.length) : namesF ((r.take (i + 1)).map StR.up) = namesF ((r.take i).map StR.up) ++ namesOf (r.getD i default).up := by
  rw [List.take_succ_eq_append_getElem hi, List.map_append, namesF_append, getD_at hi]
  simp [namesF]

theorem names_len {r : List StR} (h : (namesF (r.map StR.up)).length ≤ 40) (i : Nat) : (namesF ((r.take i).map StR.up)).length ≤ 40 := by
  have e : namesF (r.map StR.up) = namesF ((r.take i).map StR.up) ++ namesF ((r.drop i).map StR.up) := by
    rw [← namesF_append, ← List.map_append, List.take_append_drop]
  rw [e, List.length_append] at h
  omega

def thB (t : TokR) (ns : List (List UInt8)) (j : Nat) : Bool := (t.k == 3) || ((t.k == 1) && (ns.take j).any fun n => t.w == n)
theorem thB_succ {t : TokR} {ns : List (List UInt8)} {j : Nat} (h : j < ns.length) : thB t ns (j + 1) = (thB t ns j || (t.k == 1 && t.w == ns.getD j default)) := by
  unfold thB
  rw [List.take_succ_eq_append_getElem h, List.any_append, getD_at h]
  cases (t.k == 3) <;> cases (t.k == 1) <;> simp
theorem thB_zero (t : TokR) (ns : List (List UInt8)) : thB t ns 0 = (t.k == 3) := by simp [thB]
theorem thB_all {t : TokR} {ns : List (List UInt8)} (h : t.k = 3 ∨ (t.k = 1 ∧ ns.contains t.w = true)) : thB t ns ns.length = true := by
  unfold thB
  rw [List.take_length]
  rcases h with h | ⟨h1, h2⟩
  · simp [h]
  · rw [List.contains_eq_any_beq] at h2
    simp [h1, h2]

theorem cbShP : Callable Tryz.prog 11 := fun _ _ => by kernel_rfl
set_option maxHeartbeats 6400000 in
set_option maxRecDepth 100000 in
theorem shapePoints_c (s : List UInt8) : PCalls Tryz.prog 11 [.str s] (.bool true) := by
  refine pcalls_of_awp tyok cbShP Tryz.func11 rfl rfl ?_
  by_cases hs : s.length > 3000
  · have hs' : (s.length : Int) > 3000 := by omega
    repeat (first | refine wKB ?_ | refine awp_seq_k (fun K hK => ?_) | refine areg_text mixed tyok (by decide +kernel) ?_ | refine qal tyok (fun bx => ?_) | refine qbox (fun bx => ?_) | refine qboxV (fun bx => ?_) | refine TR.pcall rfl rfl rfl rfl True.intro rfl rfl (known22_c) ?_ | refine pco rfl rfl rfl rfl rfl rfl rfl rfl (fun _ => known22_c) ?_ | ((repeat ((fail_if_success (refine hK _ _ ?_)); clear hK)); refine hK _ _ ?_; clear hK))
    refine r1 ?_
    exact Sub.refl _
  have hs' : ¬ (s.length : Int) > 3000 := by omega
  have g := script_c s (by omega)
  cases hf : scriptF s with
  | inl p =>
    obtain ⟨l, c, e⟩ := p
    have he := scriptF_inl hf
    rw [hf] at g
    simp only [scriptV] at g
    repeat (first | refine wKB ?_ | refine awp_seq_k (fun K hK => ?_) | refine areg_text mixed tyok (by decide +kernel) ?_ | refine qal tyok (fun bx => ?_) | refine qbox (fun bx => ?_) | refine qboxV (fun bx => ?_) | refine TR.pcall rfl rfl rfl rfl True.intro rfl rfl (g) ?_ | refine TR.pcall rfl rfl rfl rfl True.intro rfl rfl (known22_c) ?_ | refine pco rfl rfl rfl rfl rfl rfl rfl rfl (fun _ => g) ?_ | refine pco rfl rfl rfl rfl rfl rfl rfl rfl (fun _ => known22_c) ?_ | ((repeat ((fail_if_success (refine hK _ _ ?_)); clear hK)); refine hK _ _ ?_; clear hK))
    refine r1 ?_
    exact Sub.refl _
  | inr r =>
    rw [hf] at g
    simp only [scriptV] at g
    obtain ⟨i1, i2, i3⟩ := scriptF_inr hf
    obtain ⟨b1, b2⟩ := scriptF_bd hf
    obtain ⟨q1, q2, q3, q4, _⟩ := lookF_id i3
    rw [List.length_map] at q1
    have gp := pointsR_c r (by omega) (fun x hx => by have := b2 x hx; omega) i3
    have ens : (lookF (r.map StR.up)).ns = namesF (r.map StR.up) := by rw [q2]
    rw [ens] at gp
    have q1' : ¬ (r.length : Int) < 3 := by omega
    have el : ((r.length : Int) - 1).toNat = r.length - 1 := by omega
    have k0 := (place_k (wf_at i3 (i := 0) (by omega)).1).1 rfl
    have k0a : (r.getD ((0 : Int)).toNat default).k = 1 := k0.1
    have k0b : ((r.getD ((0 : Int)).toNat default).args.length : Int) = 4 := by
      have h2 : ((r.getD 0 default).args.map TokR.up).length = 4 := k0.2
      rw [List.length_map] at h2
      exact congrArg Int.ofNat h2
    have k1 : (r.getD ((1 : Int)).toNat default).k = 2 := (place_k (wf_at i3 (i := 1) (by omega)).1).2.1 rfl
    have kl : (r.getD ((r.length : Int) - 1).toNat default).k = 5 := by
      rw [el]
      exact (place_k (wf_at i3 (i := r.length - 1) (by omega)).1).2.2.1 (by omega) (by omega)
    have hn2 : namesF ((r.take 2).map StR.up) = [] := by
      rw [names_succ (i := 1) (by omega), names_succ (i := 0) (by omega)]
      have e0 : namesOf (r.getD 0 default).up = [] := by
        unfold namesOf
        rw [if_neg (show ¬ (r.getD 0 default).up.k = 3 by rw [show (r.getD 0 default).up.k = 1 from k0.1]; decide), if_neg (show ¬ (r.getD 0 default).up.k = 4 by rw [show (r.getD 0 default).up.k = 1 from k0.1]; decide)]
      have e1 : namesOf (r.getD 1 default).up = [] := by
        unfold namesOf
        rw [if_neg (show ¬ (r.getD 1 default).up.k = 3 by rw [show (r.getD 1 default).up.k = 2 from k1]; decide), if_neg (show ¬ (r.getD 1 default).up.k = 4 by rw [show (r.getD 1 default).up.k = 2 from k1]; decide)]
      rw [e0, e1]
      rfl
    repeat (first | refine wKB ?_ | refine awp_seq_k (fun K hK => ?_) | refine areg_text mixed tyok (by decide +kernel) ?_ | refine qal tyok (fun bx => ?_) | refine qbox (fun bx => ?_) | refine qboxV (fun bx => ?_) | refine TR.pcall rfl rfl rfl rfl True.intro rfl rfl (g) ?_ | refine pco rfl rfl rfl rfl rfl rfl rfl rfl (fun _ => g) ?_ | ((repeat ((fail_if_success (refine hK _ _ ?_)); clear hK)); refine hK _ _ ?_; clear hK))
    refine awp_dropF (G := [_]) (H := []) ?_
    refine awp_tok0 1 9 ?_
    refine awp_loop0 (ι := { y : Nat × List (List UInt8) × Option Addr × Nat // 2 ≤ y.1 ∧ y.1 ≤ r.length ∧ y.2.1 = namesF ((r.take y.1).map StR.up) })
      (fun y => [(3, stmtsV r), (6, sl txtE 1 y.1.2.1 (.own y.1.2.2.1 y.1.2.2.2)), (7, .int .i64 y.1.1)])
      (fun y => [.tok y.1.2.2.1 y.1.2.2.2 y.1.2.1.length 1 9]) (fun y => r.length - y.1.1) ⟨(2, [], none, 0), Nat.le_refl _, by simp only; omega, hn2.symm⟩ (by (repeat (first | exact True.intro | refine ⟨⟨_, rfl, Sub.refl _⟩, ?_⟩ | refine ⟨⟨_, rfl, Sub.nilso _ _⟩, ?_⟩ | refine ⟨⟨_, rfl, sl_tail _ _ _ _ _⟩, ?_⟩ | refine ⟨⟨_, rfl, Sub.of_eq (by first | rfl | (congr 1; first | omega | (simp only; omega)) | (simp; done) | (simp; omega))⟩, ?_⟩ | refine ⟨⟨_, rfl, Sub.view _ _ _ _⟩, ?_⟩))) (by (first | exact ⟨0, rfl⟩ | exact ⟨1, rfl⟩ | exact ⟨2, rfl⟩ | exact ⟨3, rfl⟩ | exact ⟨4, rfl⟩)) ?_
    rintro ⟨⟨i, ns, a, cap⟩, h2, hi, hns⟩
    simp only at h2 hi hns ⊢
    by_cases hlt : i < r.length
    · have hlt' : (i : Int) < r.length := by omega
      obtain ⟨wp, wg⟩ := wf_at i3 hlt
      have pk := place_k wp
      have hsc := names_succ hlt
      have hl0 := names_len q4 i
      have hl1 := names_len q4 (i + 1)
      rw [← hns] at wg hsc hl0
      rw [hsc, List.length_append] at hl1
      have hxa := b2 (r.getD i default) (by rw [getD_at hlt]; exact List.getElem_mem hlt)
      by_cases h3 : (r.getD i default).k = 3
      · have k3 : (r.getD ((i : Int)).toNat default).k = 3 := h3
        have eno : namesOf (r.getD i default).up = (r.getD i default).args.map TokR.w := by
          unfold namesOf
          rw [if_pos (show (r.getD i default).up.k = 3 from h3)]
          show ((r.getD i default).args.map TokR.up).map (·.w) = _
          rw [List.map_map]
          rfl
        rw [eno, List.length_map] at hl1
        rw [eno] at hsc
        repeat (first | refine wKB ?_ | refine awp_seq_k (fun K hK => ?_) | refine areg_text mixed tyok (by decide +kernel) ?_ | refine qal tyok (fun bx => ?_) | refine qbox (fun bx => ?_) | refine qboxV (fun bx => ?_) | ((repeat ((fail_if_success (refine hK _ _ ?_)); clear hK)); refine hK _ _ ?_; clear hK))
        refine awp_loop0 (ι := { z : Nat × List (List UInt8) × Option Addr × Nat // z.1 ≤ (r.getD i default).args.length ∧ z.2.1 = ns ++ ((r.getD i default).args.take z.1).map TokR.w })
          (fun z => [(3, stmtsV r), (6, sl txtE 1 z.1.2.1 (.own z.1.2.2.1 z.1.2.2.2)), (7, .int .i64 i), (79, toksV (r.getD i default).args), (80, .int .i64 (r.getD i default).args.length), (81, .int .i64 z.1.1)])
          (fun z => [.tok z.1.2.2.1 z.1.2.2.2 z.1.2.1.length 1 9]) (fun z => (r.getD i default).args.length - z.1.1) ⟨(0, ns, a, cap), Nat.zero_le _, by simp⟩ (by (repeat (first | exact True.intro | refine ⟨⟨_, rfl, Sub.refl _⟩, ?_⟩ | refine ⟨⟨_, rfl, Sub.nilso _ _⟩, ?_⟩ | refine ⟨⟨_, rfl, sl_tail _ _ _ _ _⟩, ?_⟩ | refine ⟨⟨_, rfl, Sub.of_eq (by first | rfl | (congr 1; first | omega | (simp only; omega)) | (simp; done) | (simp; omega))⟩, ?_⟩ | refine ⟨⟨_, rfl, Sub.view _ _ _ _⟩, ?_⟩))) (by (first | exact ⟨0, rfl⟩ | exact ⟨1, rfl⟩ | exact ⟨2, rfl⟩ | exact ⟨3, rfl⟩ | exact ⟨4, rfl⟩)) ?_
        rintro ⟨⟨k, ms, a1, c1⟩, hk, hms⟩
        simp only at hk hms ⊢
        have hml : ms.length = ns.length + k := by rw [hms, List.length_append, List.length_map, List.length_take]; omega
        by_cases hkl : k < (r.getD i default).args.length
        · have hkl' : (k : Int) < (r.getD i default).args.length := by omega
          have hstep : ms ++ [((r.getD i default).args.getD k default).w] = ns ++ ((r.getD i default).args.take (k + 1)).map TokR.w := by
            rw [hms, List.take_succ_eq_append_getElem hkl, List.map_append, getD_at hkl, List.append_assoc]
            rfl
          ((repeat (first | refine wKB ?_ | refine awp_seq_k (fun K hK => ?_) | refine areg_text mixed tyok (by decide +kernel) ?_ | ((repeat ((fail_if_success (refine hK _ _ ?_)); clear hK)); refine hK _ _ ?_; clear hK))); ((first | refine qal tyok (fun b9 => ?_) | refine qbox (fun b9 => ?_) | refine qboxV (fun b9 => ?_))))
          (((repeat (first | refine wT ?_ | refine qal tyok (fun bx => ?_) | refine qbox (fun bx => ?_) | refine qboxV (fun bx => ?_)))); repeat (first | (with_reducible refine pQ_normal ?_) | (with_reducible refine thenQ_normal ?_) | (with_reducible refine blockQ_normal ?_) | (with_reducible refine thenQ_exit ?_) | (with_reducible refine blockQ_hit ?_) | refine blockQ_miss rfl ?_ | (with_reducible refine thenQ_ret ?_) | (with_reducible refine blockQ_ret ?_) | (with_reducible refine pQ_panic ?_) | (with_reducible refine thenQ_panic ?_) | (with_reducible refine blockQ_panic ?_)); ((repeat ((fail_if_success (refine hK _ _ ?_)); clear hK)); refine hK _ _ ?_; clear hK))
          refine awp_boxSub [] (v' := .agg (tokE ((r.getD i default).args.getD k default))) (Sub.of_eq rfl) ?_
          repeat (first | refine wKB ?_ | refine awp_seq_k (fun K hK => ?_) | refine areg_text mixed tyok (by decide +kernel) ?_ | refine qal tyok (fun bx => ?_) | refine qbox (fun bx => ?_) | refine qboxV (fun bx => ?_) | ((repeat ((fail_if_success (refine hK _ _ ?_)); clear hK)); refine hK _ _ ?_; clear hK))
          refine qapp tyok txtE ms _ (SubL.refl _) ?_ fun ad cp => ?_
          · simp only
            omega
          repeat (first | refine wKB ?_ | refine awp_seq_k (fun K hK => ?_) | refine areg_text mixed tyok (by decide +kernel) ?_ | refine qal tyok (fun bx => ?_) | refine qbox (fun bx => ?_) | refine qboxV (fun bx => ?_) | ((repeat ((fail_if_success (refine hK _ _ ?_)); clear hK)); refine hK _ _ ?_; clear hK))
          exact ⟨⟨(k + 1, _, ad, cp), hkl, hstep⟩, (by (repeat (first | exact True.intro | refine ⟨⟨_, rfl, Sub.refl _⟩, ?_⟩ | refine ⟨⟨_, rfl, Sub.nilso _ _⟩, ?_⟩ | refine ⟨⟨_, rfl, sl_tail _ _ _ _ _⟩, ?_⟩ | refine ⟨⟨_, rfl, Sub.of_eq (by first | rfl | (congr 1; first | omega | (simp only; omega)) | (simp; done) | (simp; omega))⟩, ?_⟩ | refine ⟨⟨_, rfl, Sub.view _ _ _ _⟩, ?_⟩))), (by (first | exact ⟨0, rfl⟩ | exact ⟨1, rfl⟩ | exact ⟨2, rfl⟩ | exact ⟨3, rfl⟩ | exact ⟨4, rfl⟩)), by simp only; omega⟩
        · have hkl' : ¬ (k : Int) < (r.getD i default).args.length := by omega
          obtain rfl : k = (r.getD i default).args.length := by omega
          rw [List.take_length, ← hsc] at hms
          repeat (first | refine wKB ?_ | refine awp_seq_k (fun K hK => ?_) | refine areg_text mixed tyok (by decide +kernel) ?_ | refine qal tyok (fun bx => ?_) | refine qbox (fun bx => ?_) | refine qboxV (fun bx => ?_) | ((repeat ((fail_if_success (refine hK _ _ ?_)); clear hK)); refine hK _ _ ?_; clear hK))
          exact ⟨⟨(i + 1, ms, a1, c1), by simp only; omega, hlt, hms⟩, (by (repeat (first | exact True.intro | refine ⟨⟨_, rfl, Sub.refl _⟩, ?_⟩ | refine ⟨⟨_, rfl, Sub.nilso _ _⟩, ?_⟩ | refine ⟨⟨_, rfl, sl_tail _ _ _ _ _⟩, ?_⟩ | refine ⟨⟨_, rfl, Sub.of_eq (by first | rfl | (congr 1; first | omega | (simp only; omega)) | (simp; done) | (simp; omega))⟩, ?_⟩ | refine ⟨⟨_, rfl, Sub.view _ _ _ _⟩, ?_⟩))), (by (first | exact ⟨0, rfl⟩ | exact ⟨1, rfl⟩ | exact ⟨2, rfl⟩ | exact ⟨3, rfl⟩ | exact ⟨4, rfl⟩)), by simp only; omega⟩
      · have k3 : ¬ (r.getD ((i : Int)).toNat default).k = 3 := h3
        have k45 : (r.getD i default).k = 4 ∨ (r.getD i default).k = 5 := by
          by_cases hl : i + 1 = r.length
          · exact .inr (pk.2.2.1 h2 hl)
          · exact .inl ((pk.2.2.2 h2 hl).resolve_left h3)
        have hth : ∀ t ∈ (r.getD i default).args, t.k = 3 ∨ (t.k = 1 ∧ ns.contains t.w = true) := fun t ht => stmtG_args wg k45 t.up (List.mem_map_of_mem ht)
        repeat (first | refine wKB ?_ | refine awp_seq_k (fun K hK => ?_) | refine areg_text mixed tyok (by decide +kernel) ?_ | refine qal tyok (fun bx => ?_) | refine qbox (fun bx => ?_) | refine qboxV (fun bx => ?_) | ((repeat ((fail_if_success (refine hK _ _ ?_)); clear hK)); refine hK _ _ ?_; clear hK))
        refine awp_loop0 (ι := { k : Nat // k ≤ (r.getD i default).args.length })
          (fun k => [(3, stmtsV r), (6, sl txtE 1 ns (.own a cap)), (7, .int .i64 i), (95, toksV (r.getD i default).args), (96, .int .i64 (r.getD i default).args.length), (97, .int .i64 k.1)])
          (fun _ => [.tok a cap ns.length 1 9]) (fun k => (r.getD i default).args.length - k.1) ⟨0, Nat.zero_le _⟩ (by (repeat (first | exact True.intro | refine ⟨⟨_, rfl, Sub.refl _⟩, ?_⟩ | refine ⟨⟨_, rfl, Sub.nilso _ _⟩, ?_⟩ | refine ⟨⟨_, rfl, sl_tail _ _ _ _ _⟩, ?_⟩ | refine ⟨⟨_, rfl, Sub.of_eq (by first | rfl | (congr 1; first | omega | (simp only; omega)) | (simp; done) | (simp; omega))⟩, ?_⟩ | refine ⟨⟨_, rfl, Sub.view _ _ _ _⟩, ?_⟩))) (by (first | exact ⟨0, rfl⟩ | exact ⟨1, rfl⟩ | exact ⟨2, rfl⟩ | exact ⟨3, rfl⟩ | exact ⟨4, rfl⟩)) ?_
        rintro ⟨k, hk⟩
        simp only at hk ⊢
        by_cases hkl : k < (r.getD i default).args.length
        · have hkl' : (k : Int) < (r.getD i default).args.length := by omega
          have hT := thB_all (hth ((r.getD i default).args.getD k default) (by rw [getD_at hkl]; exact List.getElem_mem hkl))
          ((repeat (first | refine wKB ?_ | refine awp_seq_k (fun K hK => ?_) | refine areg_text mixed tyok (by decide +kernel) ?_ | ((repeat ((fail_if_success (refine hK _ _ ?_)); clear hK)); refine hK _ _ ?_; clear hK))); ((first | refine qal tyok (fun b11 => ?_) | refine qbox (fun b11 => ?_) | refine qboxV (fun b11 => ?_))))
          (((repeat (first | refine wT ?_ | refine qal tyok (fun bx => ?_) | refine qbox (fun bx => ?_) | refine qboxV (fun bx => ?_)))); repeat (first | (with_reducible refine pQ_normal ?_) | (with_reducible refine thenQ_normal ?_) | (with_reducible refine blockQ_normal ?_) | (with_reducible refine thenQ_exit ?_) | (with_reducible refine blockQ_hit ?_) | refine blockQ_miss rfl ?_ | (with_reducible refine thenQ_ret ?_) | (with_reducible refine blockQ_ret ?_) | (with_reducible refine pQ_panic ?_) | (with_reducible refine thenQ_panic ?_) | (with_reducible refine blockQ_panic ?_)); ((repeat ((fail_if_success (refine hK _ _ ?_)); clear hK)); refine hK _ _ ?_; clear hK))
          refine awp_boxSub [] (v' := .agg (tokE ((r.getD i default).args.getD k default))) (Sub.of_eq rfl) ?_
          generalize (r.getD i default).args.getD k default = t at hT ⊢
          repeat (first | refine wKB ?_ | refine awp_seq_k (fun K hK => ?_) | refine areg_text mixed tyok (by decide +kernel) ?_ | refine qal tyok (fun bx => ?_) | refine qbox (fun bx => ?_) | refine qboxV (fun bx => ?_) | ((repeat ((fail_if_success (refine hK _ _ ?_)); clear hK)); refine hK _ _ ?_; clear hK))
          refine awp_loop0 (ι := { j : Nat // j ≤ ns.length })
            (fun j => [(12, .bool (thB t ns j.1)), (3, stmtsV r), (6, sl txtE 1 ns (.own a cap)), (7, .int .i64 i), (11, .ptr b11 0), (95, toksV (r.getD i default).args), (96, .int .i64 (r.getD i default).args.length), (97, .int .i64 k), (104, sl txtE 1 ns (.own a cap)), (105, .int .i64 ns.length), (106, .int .i64 j.1)])
            (fun _ => [.box b11 44 (.agg (tokE t)), .tok a cap ns.length 1 9]) (fun j => ns.length - j.1) ⟨0, Nat.zero_le _⟩ ⟨⟨_, rfl, Sub.of_eq (congrArg AV.bool (thB_zero t ns).symm)⟩, (by (repeat (first | exact True.intro | refine ⟨⟨_, rfl, Sub.refl _⟩, ?_⟩ | refine ⟨⟨_, rfl, Sub.nilso _ _⟩, ?_⟩ | refine ⟨⟨_, rfl, sl_tail _ _ _ _ _⟩, ?_⟩ | refine ⟨⟨_, rfl, Sub.of_eq (by first | rfl | (congr 1; first | omega | (simp only; omega)) | (simp; done) | (simp; omega))⟩, ?_⟩ | refine ⟨⟨_, rfl, Sub.view _ _ _ _⟩, ?_⟩)))⟩ (by (first | exact ⟨0, rfl⟩ | exact ⟨1, rfl⟩ | exact ⟨2, rfl⟩ | exact ⟨3, rfl⟩ | exact ⟨4, rfl⟩)) ?_
          rintro ⟨j, hj⟩
          simp only at hj ⊢
          by_cases hjl : j < ns.length
          · have hjl' : (j : Int) < ns.length := by omega
            repeat (first | refine wKB ?_ | refine awp_seq_k (fun K hK => ?_) | refine areg_text mixed tyok (by decide +kernel) ?_ | refine qal tyok (fun bx => ?_) | refine qbox (fun bx => ?_) | refine qboxV (fun bx => ?_) | ((repeat ((fail_if_success (refine hK _ _ ?_)); clear hK)); refine hK _ _ ?_; clear hK))
            exact ⟨⟨j + 1, hjl⟩, ⟨⟨_, rfl, Sub.of_eq (congrArg AV.bool (thB_succ hjl).symm)⟩, (by (repeat (first | exact True.intro | refine ⟨⟨_, rfl, Sub.refl _⟩, ?_⟩ | refine ⟨⟨_, rfl, Sub.nilso _ _⟩, ?_⟩ | refine ⟨⟨_, rfl, sl_tail _ _ _ _ _⟩, ?_⟩ | refine ⟨⟨_, rfl, Sub.of_eq (by first | rfl | (congr 1; first | omega | (simp only; omega)) | (simp; done) | (simp; omega))⟩, ?_⟩ | refine ⟨⟨_, rfl, Sub.view _ _ _ _⟩, ?_⟩)))⟩, (by (first | exact ⟨0, rfl⟩ | exact ⟨1, rfl⟩ | exact ⟨2, rfl⟩ | exact ⟨3, rfl⟩ | exact ⟨4, rfl⟩)), by simp only; omega⟩
          · have hjl' : ¬ (j : Int) < ns.length := by omega
            obtain rfl : j = ns.length := by omega
            repeat (first | refine wKB ?_ | refine awp_seq_k (fun K hK => ?_) | refine areg_text mixed tyok (by decide +kernel) ?_ | refine qal tyok (fun bx => ?_) | refine qbox (fun bx => ?_) | refine qboxV (fun bx => ?_) | ((repeat ((fail_if_success (refine hK _ _ ?_)); clear hK)); refine hK _ _ ?_; clear hK))
            refine awp_cond rfl (fun hb => absurd hb (by rw [hT]; decide)) (fun _ => ?_)
            repeat (first | refine wKB ?_ | refine awp_seq_k (fun K hK => ?_) | refine areg_text mixed tyok (by decide +kernel) ?_ | refine qal tyok (fun bx => ?_) | refine qbox (fun bx => ?_) | refine qboxV (fun bx => ?_) | ((repeat ((fail_if_success (refine hK _ _ ?_)); clear hK)); refine hK _ _ ?_; clear hK))
            exact ⟨⟨k + 1, hkl⟩, (by (repeat (first | exact True.intro | refine ⟨⟨_, rfl, Sub.refl _⟩, ?_⟩ | refine ⟨⟨_, rfl, Sub.nilso _ _⟩, ?_⟩ | refine ⟨⟨_, rfl, sl_tail _ _ _ _ _⟩, ?_⟩ | refine ⟨⟨_, rfl, Sub.of_eq (by first | rfl | (congr 1; first | omega | (simp only; omega)) | (simp; done) | (simp; omega))⟩, ?_⟩ | refine ⟨⟨_, rfl, Sub.view _ _ _ _⟩, ?_⟩))), (by (first | exact ⟨0, rfl⟩ | exact ⟨1, rfl⟩ | exact ⟨2, rfl⟩ | exact ⟨3, rfl⟩ | exact ⟨4, rfl⟩)), by simp only; omega⟩
        · have hkl' : ¬ (k : Int) < (r.getD i default).args.length := by omega
          rcases k45 with h4 | h5
          · have k4 : (r.getD ((i : Int)).toNat default).k = 4 := h4
            have hne : ¬ i + 1 = r.length := fun e => by
              have : (r.getD i default).k = 5 := pk.2.2.1 h2 e
              omega
            have eno : namesOf (r.getD i default).up = [(r.getD i default).new.w] := by
              unfold namesOf
              rw [if_neg (show ¬ (r.getD i default).up.k = 3 from h3), if_pos (show (r.getD i default).up.k = 4 from h4)]
              rfl
            rw [eno] at hsc
            repeat (first | refine wKB ?_ | refine awp_seq_k (fun K hK => ?_) | refine areg_text mixed tyok (by decide +kernel) ?_ | refine qal tyok (fun bx => ?_) | refine qbox (fun bx => ?_) | refine qboxV (fun bx => ?_) | ((repeat ((fail_if_success (refine hK _ _ ?_)); clear hK)); refine hK _ _ ?_; clear hK))
            refine qapp tyok txtE ns (r.getD i default).new.w (SubL.refl _) ?_ fun ad cp => ?_
            · simp only
              omega
            repeat (first | refine wKB ?_ | refine awp_seq_k (fun K hK => ?_) | refine areg_text mixed tyok (by decide +kernel) ?_ | refine qal tyok (fun bx => ?_) | refine qbox (fun bx => ?_) | refine qboxV (fun bx => ?_) | ((repeat ((fail_if_success (refine hK _ _ ?_)); clear hK)); refine hK _ _ ?_; clear hK))
            exact ⟨⟨(i + 1, _, ad, cp), by simp only; omega, hlt, hsc.symm⟩, (by (repeat (first | exact True.intro | refine ⟨⟨_, rfl, Sub.refl _⟩, ?_⟩ | refine ⟨⟨_, rfl, Sub.nilso _ _⟩, ?_⟩ | refine ⟨⟨_, rfl, sl_tail _ _ _ _ _⟩, ?_⟩ | refine ⟨⟨_, rfl, Sub.of_eq (by first | rfl | (congr 1; first | omega | (simp only; omega)) | (simp; done) | (simp; omega))⟩, ?_⟩ | refine ⟨⟨_, rfl, Sub.view _ _ _ _⟩, ?_⟩))), (by (first | exact ⟨0, rfl⟩ | exact ⟨1, rfl⟩ | exact ⟨2, rfl⟩ | exact ⟨3, rfl⟩ | exact ⟨4, rfl⟩)), by simp only; omega⟩
          · have k5 : (r.getD ((i : Int)).toNat default).k = 5 := h5
            have hl : i + 1 = r.length := by
              by_cases e : i + 1 = r.length
              · exact e
              · have : (r.getD i default).k = 3 ∨ (r.getD i default).k = 4 := pk.2.2.2 h2 e
                omega
            have eno : namesOf (r.getD i default).up = [] := by
              unfold namesOf
              rw [if_neg (show ¬ (r.getD i default).up.k = 3 from h3), if_neg (show ¬ (r.getD i default).up.k = 4 by rw [show (r.getD i default).up.k = 5 from h5]; decide)]
            rw [eno, List.append_nil] at hsc
            repeat (first | refine wKB ?_ | refine awp_seq_k (fun K hK => ?_) | refine areg_text mixed tyok (by decide +kernel) ?_ | refine qal tyok (fun bx => ?_) | refine qbox (fun bx => ?_) | refine qboxV (fun bx => ?_) | ((repeat ((fail_if_success (refine hK _ _ ?_)); clear hK)); refine hK _ _ ?_; clear hK))
            exact ⟨⟨(i + 1, ns, a, cap), by simp only; omega, hlt, hsc.symm⟩, (by (repeat (first | exact True.intro | refine ⟨⟨_, rfl, Sub.refl _⟩, ?_⟩ | refine ⟨⟨_, rfl, Sub.nilso _ _⟩, ?_⟩ | refine ⟨⟨_, rfl, sl_tail _ _ _ _ _⟩, ?_⟩ | refine ⟨⟨_, rfl, Sub.of_eq (by first | rfl | (congr 1; first | omega | (simp only; omega)) | (simp; done) | (simp; omega))⟩, ?_⟩ | refine ⟨⟨_, rfl, Sub.view _ _ _ _⟩, ?_⟩))), (by (first | exact ⟨0, rfl⟩ | exact ⟨1, rfl⟩ | exact ⟨2, rfl⟩ | exact ⟨3, rfl⟩ | exact ⟨4, rfl⟩)), by simp only; omega⟩
    · have hge : ¬ (i : Int) < r.length := by omega
      obtain rfl : i = r.length := by omega
      rw [List.take_length] at hns
      subst hns
      repeat (first | refine wKB ?_ | refine awp_seq_k (fun K hK => ?_) | refine areg_text mixed tyok (by decide +kernel) ?_ | refine qal tyok (fun bx => ?_) | refine qbox (fun bx => ?_) | refine qboxV (fun bx => ?_) | refine TR.pcall rfl rfl rfl rfl True.intro rfl rfl (gp) ?_ | refine TR.pcall rfl rfl rfl rfl True.intro rfl rfl (PCalls.sub (names22_c _ (by omega)) (.cons (Sub.refl _) (.cons (Sub.view _ _ _ _) .nil))) ?_ | refine TR.pcall rfl rfl rfl rfl True.intro rfl rfl (known22_c) ?_ | refine pco rfl rfl rfl rfl rfl rfl rfl rfl (fun _ => gp) ?_ | refine pco rfl rfl rfl rfl rfl rfl rfl rfl (fun _ => PCalls.sub (names22_c _ (by omega)) (.cons (Sub.refl _) (.cons (Sub.view _ _ _ _) .nil))) ?_ | refine pco rfl rfl rfl rfl rfl rfl rfl rfl (fun _ => known22_c) ?_ | ((repeat ((fail_if_success (refine hK _ _ ?_)); clear hK)); refine hK _ _ ?_; clear hK))
      refine r1 ?_
      exact Sub.refl _

end Go.Proofs.YtjinaakebjfbiaaGreatDoor
