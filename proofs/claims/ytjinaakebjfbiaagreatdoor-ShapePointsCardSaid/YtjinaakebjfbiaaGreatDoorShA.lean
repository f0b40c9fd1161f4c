/-
  ShapeKeeps returns true.
-/
import Derived.Test.YtjinaakebjfbiaaGreatDoorShK
namespace Go.Proofs.YtjinaakebjfbiaaGreatDoor
open Go.Ab

theorem sub_take {α : Type} [Inhabited α] (f : α → List AV) (sz : Nat) (xs : List α) (h : Int) (hh : h.toNat ≤ xs.length) (o : Go.Ab.Own) : Sub (.slice sz h.toNat (fun i => f (xs.getD i default)) o) (sl f sz (xs.take h.toNat) o) := by
  unfold sl
  rw [List.length_take, Nat.min_eq_left hh]
  refine Sub.el fun i hi => ?_
  have : (xs.take h.toNat).getD i default = xs.getD i default := by simp [List.getD, hi]
  rw [this]
theorem sub_drop1 {α : Type} [Inhabited α] (f : α → List AV) (sz : Nat) (xs : List α) (o : Go.Ab.Own) : Sub (.slice sz (xs.length - (1 : Int).toNat) (fun i => f (xs.getD ((1 : Int).toNat + i) default)) o) (sl f sz (xs.drop 1) o) := by
  unfold sl
  rw [List.length_drop]
  refine Sub.el fun i _ => ?_
  have e : (xs.drop 1).getD i default = xs.getD ((1 : Int).toNat + i) default := by
    rw [show (1 : Int).toNat + i = i + 1 by omega]
    simp [List.getD]
  rw [e]

theorem scriptF_inl {s : List UInt8} {l c e : Int} (h : scriptF s = .inl (l, c, e)) : e ≠ 0 := by
  unfold scriptF at h
  split at h
  · cases h; decide
  split at h
  · cases h; decide
  · split at h
    · cases h
    · rename_i he
      cases h
      exact he

theorem nodup_at {ns : List (List UInt8)} (h : ns.Nodup) {i k : Nat} (hi : i < ns.length) (hk : k < i) : ns.getD i default ≠ ns.getD k default := by
  rw [getD_at hi, getD_at (by omega)]
  exact fun e => List.pairwise_iff_getElem.1 h k i (by omega) hi hk e.symm

theorem bare_sub (x : StR) : SubL [.int .u8 x.k, .int .u8 x.new.k, .str x.new.w, .int .i64 x.new.n, .int .i64 x.new.ln, .int .i64 x.new.co, .int .u8 x.word.k, .str x.word.w, .int .i64 x.word.n, .int .i64 x.word.ln, .int .i64 x.word.co, toksV x.args, .int .i64 0, .int .i64 0, .int .i64 0, .int .i64 0] (stmtEI x.up.bare) :=
  .cons (.refl _) (.cons (.refl _) (.cons (.refl _) (.cons (.refl _) (.cons (.refl _) (.cons (.refl _) (.cons (.refl _) (.cons (.refl _) (.cons (.refl _) (.cons (.refl _) (.cons (.refl _) (.cons (toks_up _) (SubL.refl _))))))))))))

theorem up_len {r : List StR} {n : Nat} (h : ∀ x ∈ r, x.args.length ≤ n) : ∀ x ∈ r.map StR.up, x.args.length ≤ n := by
  intro x hx
  obtain ⟨y, hy, rfl⟩ := List.mem_map.1 hx
  show (y.args.map TokR.up).length ≤ _
  rw [List.length_map]
  exact h y hy

theorem cbShA : Callable Tryz.prog 10 := fun _ _ => by kernel_rfl
set_option maxHeartbeats 6400000 in
set_option maxRecDepth 100000 in
theorem shapeKeeps_c (s : List UInt8) : PCalls Tryz.prog 10 [.str s] (.bool true) := by
  refine pcalls_of_awp tyok cbShA Tryz.func10 rfl rfl ?_
  by_cases hs : s.length > 3000
  · have hs' : (s.length : Int) > 3000 := by omega
    repeat (first | refine wKB ?_ | refine awp_seq_k (fun K hK => ?_) | refine areg_text mixed tyok (by decide +kernel) ?_ | refine qal tyok (fun bx => ?_) | refine qbox (fun bx => ?_) | refine qboxV (fun bx => ?_) | refine TR.pcall rfl rfl rfl rfl True.intro rfl rfl (known22_c) ?_ | refine pco rfl rfl rfl rfl rfl rfl rfl rfl (fun _ => known22_c) ?_ | ((repeat ((fail_if_success (refine hK _ _ ?_)); clear hK)); refine hK _ _ ?_; clear hK))
    refine r1 ?_
    exact Sub.refl _
  have hs' : ¬ (s.length : Int) > 3000 := by omega
  have g := script_c s (by omega)
  cases hf : scriptF s with
  | inl p =>
    obtain ⟨l, c, e⟩ := p
    have he := scriptF_inl hf
    rw [hf] at g
    simp only [scriptV] at g
    have hz : (([] : List StR).length : Int) = 0 := rfl
    repeat (first | refine wKB ?_ | refine awp_seq_k (fun K hK => ?_) | refine areg_text mixed tyok (by decide +kernel) ?_ | refine qal tyok (fun bx => ?_) | refine qbox (fun bx => ?_) | refine qboxV (fun bx => ?_) | refine TR.pcall rfl rfl rfl rfl True.intro rfl rfl (g) ?_ | refine TR.pcall rfl rfl rfl rfl True.intro rfl rfl (known22_c) ?_ | refine pco rfl rfl rfl rfl rfl rfl rfl rfl (fun _ => g) ?_ | refine pco rfl rfl rfl rfl rfl rfl rfl rfl (fun _ => known22_c) ?_ | ((repeat ((fail_if_success (refine hK _ _ ?_)); clear hK)); refine hK _ _ ?_; clear hK))
    refine r1 ?_
    exact Sub.refl _
  | inr r =>
    rw [hf] at g
    simp only [scriptV] at g
    obtain ⟨i1, i2, i3⟩ := scriptF_inr hf
    obtain ⟨b1, b2⟩ := scriptF_bd hf
    obtain ⟨q1, q2, q3, q4, _⟩ := lookF_id i3
    rw [List.length_map] at q1
    have gp := pointsR_c r (by omega) (fun x hx => by have := b2 x hx; omega) i3
    have ens : (lookF (r.map StR.up)).ns = namesF (r.map StR.up) := by rw [q2]
    rw [ens] at gp
    generalize namesF (r.map StR.up) = ns at gp q3 q4
    have q1' : ¬ (r.length : Int) < 3 := by omega
    have q4' : ¬ (ns.length : Int) > 40 := by omega
    repeat (first | refine wKB ?_ | refine awp_seq_k (fun K hK => ?_) | refine areg_text mixed tyok (by decide +kernel) ?_ | refine qal tyok (fun bx => ?_) | refine qbox (fun bx => ?_) | refine qboxV (fun bx => ?_) | refine TR.pcall rfl rfl rfl rfl True.intro rfl rfl (g) ?_ | refine TR.pcall rfl rfl rfl rfl True.intro rfl rfl (gp) ?_ | refine pco rfl rfl rfl rfl rfl rfl rfl rfl (fun _ => g) ?_ | refine pco rfl rfl rfl rfl rfl rfl rfl rfl (fun _ => gp) ?_ | ((repeat ((fail_if_success (refine hK _ _ ?_)); clear hK)); refine hK _ _ ?_; clear hK))
    refine awp_loop0 (ι := { i : Nat // i ≤ ns.length }) (fun i => [(3, stmtsV r), (6, sl txtE 1 ns .view), (39, .int .i64 ns.length), (40, .int .i64 i.1)]) (fun _ => []) (fun i => ns.length - i.1) ⟨0, Nat.zero_le _⟩ (by (repeat (first | exact True.intro | refine ⟨⟨_, rfl, Sub.refl _⟩, ?_⟩ | refine ⟨⟨_, rfl, Sub.nilso _ _⟩, ?_⟩ | refine ⟨⟨_, rfl, sl_tail _ _ _ _ _⟩, ?_⟩ | refine ⟨⟨_, rfl, Sub.of_eq (by first | rfl | (congr 1; first | omega | (simp only; omega)) | (simp; done) | (simp; omega))⟩, ?_⟩ | refine ⟨⟨_, rfl, Sub.view _ _ _ _⟩, ?_⟩))) (by (first | exact ⟨0, rfl⟩ | exact ⟨1, rfl⟩ | exact ⟨2, rfl⟩ | exact ⟨3, rfl⟩ | exact ⟨4, rfl⟩)) ?_
    rintro ⟨i, hi⟩
    simp only at hi ⊢
    by_cases hlt : i < ns.length
    · have hlt' : (i : Int) < ns.length := by omega
      repeat (first | refine wKB ?_ | refine awp_seq_k (fun K hK => ?_) | refine areg_text mixed tyok (by decide +kernel) ?_ | refine qal tyok (fun bx => ?_) | refine qbox (fun bx => ?_) | refine qboxV (fun bx => ?_) | ((repeat ((fail_if_success (refine hK _ _ ?_)); clear hK)); refine hK _ _ ?_; clear hK))
      refine awp_loop0 (ι := { k : Nat // k ≤ i }) (fun k => [(7, .int .i64 i), (43, .int .i64 i), (44, .int .i64 k.1), (3, stmtsV r), (6, sl txtE 1 ns .view), (39, .int .i64 ns.length), (40, .int .i64 i)]) (fun _ => []) (fun k => i - k.1) ⟨0, Nat.zero_le _⟩ (by (repeat (first | exact True.intro | refine ⟨⟨_, rfl, Sub.refl _⟩, ?_⟩ | refine ⟨⟨_, rfl, Sub.nilso _ _⟩, ?_⟩ | refine ⟨⟨_, rfl, sl_tail _ _ _ _ _⟩, ?_⟩ | refine ⟨⟨_, rfl, Sub.of_eq (by first | rfl | (congr 1; first | omega | (simp only; omega)) | (simp; done) | (simp; omega))⟩, ?_⟩ | refine ⟨⟨_, rfl, Sub.view _ _ _ _⟩, ?_⟩))) (by (first | exact ⟨0, rfl⟩ | exact ⟨1, rfl⟩ | exact ⟨2, rfl⟩ | exact ⟨3, rfl⟩ | exact ⟨4, rfl⟩)) ?_
      rintro ⟨k, hk⟩
      simp only at hk ⊢
      by_cases hkl : k < i
      · have hkl' : (k : Int) < (i : Int) := by omega
        have hkn : (k : Int) < ns.length := by omega
        have hne := nodup_at q3 hlt hkl
        repeat (first | refine wKB ?_ | refine awp_seq_k (fun K hK => ?_) | refine areg_text mixed tyok (by decide +kernel) ?_ | refine qal tyok (fun bx => ?_) | refine qbox (fun bx => ?_) | refine qboxV (fun bx => ?_) | ((repeat ((fail_if_success (refine hK _ _ ?_)); clear hK)); refine hK _ _ ?_; clear hK))
        refine awp_cond rfl (fun hb => absurd (beq_iff_eq.1 hb) hne) (fun _ => ?_)
        repeat (first | refine wKB ?_ | refine awp_seq_k (fun K hK => ?_) | refine areg_text mixed tyok (by decide +kernel) ?_ | refine qal tyok (fun bx => ?_) | refine qbox (fun bx => ?_) | refine qboxV (fun bx => ?_) | ((repeat ((fail_if_success (refine hK _ _ ?_)); clear hK)); refine hK _ _ ?_; clear hK))
        exact ⟨⟨k + 1, hkl⟩, (by (repeat (first | exact True.intro | refine ⟨⟨_, rfl, Sub.refl _⟩, ?_⟩ | refine ⟨⟨_, rfl, Sub.nilso _ _⟩, ?_⟩ | refine ⟨⟨_, rfl, sl_tail _ _ _ _ _⟩, ?_⟩ | refine ⟨⟨_, rfl, Sub.of_eq (by first | rfl | (congr 1; first | omega | (simp only; omega)) | (simp; done) | (simp; omega))⟩, ?_⟩ | refine ⟨⟨_, rfl, Sub.view _ _ _ _⟩, ?_⟩))), (by (first | exact ⟨0, rfl⟩ | exact ⟨1, rfl⟩ | exact ⟨2, rfl⟩ | exact ⟨3, rfl⟩ | exact ⟨4, rfl⟩)), by simp only; omega⟩
      · have hkl' : ¬ (k : Int) < (i : Int) := by omega
        repeat (first | refine wKB ?_ | refine awp_seq_k (fun K hK => ?_) | refine areg_text mixed tyok (by decide +kernel) ?_ | refine qal tyok (fun bx => ?_) | refine qbox (fun bx => ?_) | refine qboxV (fun bx => ?_) | ((repeat ((fail_if_success (refine hK _ _ ?_)); clear hK)); refine hK _ _ ?_; clear hK))
        exact ⟨⟨i + 1, hlt⟩, (by (repeat (first | exact True.intro | refine ⟨⟨_, rfl, Sub.refl _⟩, ?_⟩ | refine ⟨⟨_, rfl, Sub.nilso _ _⟩, ?_⟩ | refine ⟨⟨_, rfl, sl_tail _ _ _ _ _⟩, ?_⟩ | refine ⟨⟨_, rfl, Sub.of_eq (by first | rfl | (congr 1; first | omega | (simp only; omega)) | (simp; done) | (simp; omega))⟩, ?_⟩ | refine ⟨⟨_, rfl, Sub.view _ _ _ _⟩, ?_⟩))), (by (first | exact ⟨0, rfl⟩ | exact ⟨1, rfl⟩ | exact ⟨2, rfl⟩ | exact ⟨3, rfl⟩ | exact ⟨4, rfl⟩)), by simp only; omega⟩
    · have hge : ¬ (i : Int) < ns.length := by omega
      repeat (first | refine wKB ?_ | refine awp_seq_k (fun K hK => ?_) | refine areg_text mixed tyok (by decide +kernel) ?_ | refine qal tyok (fun bx => ?_) | refine qbox (fun bx => ?_) | refine qboxV (fun bx => ?_) | ((repeat ((fail_if_success (refine hK _ _ ?_)); clear hK)); refine hK _ _ ?_; clear hK))
      refine awp_tok0 16 47 ?_
      refine awp_loop0 (ι := { y : Nat × List StI × Option Addr × Nat // y.1 ≤ r.length ∧ y.2.1 = (r.take y.1).map fun x => x.up.bare })
        (fun y => [(3, stmtsV r), (9, sl stmtEI 16 y.1.2.1 (.own y.1.2.2.1 y.1.2.2.2)), (66, stmtsV r), (67, .int .i64 r.length), (68, .int .i64 y.1.1)])
        (fun y => [.tok y.1.2.2.1 y.1.2.2.2 y.1.2.1.length 16 47]) (fun y => r.length - y.1.1) ⟨(0, [], none, 0), Nat.zero_le _, rfl⟩ (by (repeat (first | exact True.intro | refine ⟨⟨_, rfl, Sub.refl _⟩, ?_⟩ | refine ⟨⟨_, rfl, Sub.nilso _ _⟩, ?_⟩ | refine ⟨⟨_, rfl, sl_tail _ _ _ _ _⟩, ?_⟩ | refine ⟨⟨_, rfl, Sub.of_eq (by first | rfl | (congr 1; first | omega | (simp only; omega)) | (simp; done) | (simp; omega))⟩, ?_⟩ | refine ⟨⟨_, rfl, Sub.view _ _ _ _⟩, ?_⟩))) (by (first | exact ⟨0, rfl⟩ | exact ⟨1, rfl⟩ | exact ⟨2, rfl⟩ | exact ⟨3, rfl⟩ | exact ⟨4, rfl⟩)) ?_
      rintro ⟨⟨j, xs, a, cap⟩, hj, hxs⟩
      simp only at hj hxs ⊢
      have hxl : xs.length = j := by rw [hxs, List.length_map, List.length_take]; omega
      by_cases hjl : j < r.length
      · have hjl' : (j : Int) < r.length := by omega
        have hstep : xs ++ [(r.getD j default).up.bare] = (r.take (j + 1)).map fun x => x.up.bare := by
          rw [hxs, List.take_succ_eq_append_getElem hjl, List.map_append, getD_at hjl]
          rfl
        ((repeat (first | refine wKB ?_ | refine awp_seq_k (fun K hK => ?_) | refine areg_text mixed tyok (by decide +kernel) ?_ | ((repeat ((fail_if_success (refine hK _ _ ?_)); clear hK)); refine hK _ _ ?_; clear hK))); ((first | refine qal tyok (fun b11 => ?_) | refine qbox (fun b11 => ?_) | refine qboxV (fun b11 => ?_))))
        (((repeat (first | refine wT ?_ | refine qal tyok (fun bx => ?_) | refine qbox (fun bx => ?_) | refine qboxV (fun bx => ?_)))); repeat (first | (with_reducible refine pQ_normal ?_) | (with_reducible refine thenQ_normal ?_) | (with_reducible refine blockQ_normal ?_) | (with_reducible refine thenQ_exit ?_) | (with_reducible refine blockQ_hit ?_) | refine blockQ_miss rfl ?_ | (with_reducible refine thenQ_ret ?_) | (with_reducible refine blockQ_ret ?_) | (with_reducible refine pQ_panic ?_) | (with_reducible refine thenQ_panic ?_) | (with_reducible refine blockQ_panic ?_)); ((repeat ((fail_if_success (refine hK _ _ ?_)); clear hK)); refine hK _ _ ?_; clear hK))
        refine awp_boxSub [] (v' := .agg (stmtE (r.getD j default))) (Sub.of_eq rfl) ?_
        generalize r.getD j default = x at hstep ⊢
        (refine awp_seq_k (fun K hK => ?_); refine awp_region tyok ?_; ((repeat (first | refine wT ?_ | refine qal tyok (fun bx => ?_) | refine qbox (fun bx => ?_) | refine qboxV (fun bx => ?_)))); repeat (first | (with_reducible refine pQ_normal ?_) | (with_reducible refine thenQ_normal ?_) | (with_reducible refine blockQ_normal ?_) | (with_reducible refine thenQ_exit ?_) | (with_reducible refine blockQ_hit ?_) | refine blockQ_miss rfl ?_ | (with_reducible refine thenQ_ret ?_) | (with_reducible refine blockQ_ret ?_) | (with_reducible refine pQ_panic ?_) | (with_reducible refine thenQ_panic ?_) | (with_reducible refine blockQ_panic ?_)); ((repeat ((fail_if_success (refine hK _ _ ?_)); clear hK)); refine hK _ _ ?_; clear hK))
        refine awp_boxSub [] (v' := .agg (stmtEI x.up.bare)) (subAgg (bare_sub x)) ?_
        repeat (first | refine wKB ?_ | refine awp_seq_k (fun K hK => ?_) | refine areg_text mixed tyok (by decide +kernel) ?_ | refine qal tyok (fun bx => ?_) | refine qbox (fun bx => ?_) | refine qboxV (fun bx => ?_) | ((repeat ((fail_if_success (refine hK _ _ ?_)); clear hK)); refine hK _ _ ?_; clear hK))
        refine qapp tyok stmtEI xs x.up.bare (SubL.refl _) ?_ fun ad cp => ?_
        · simp only
          omega
        repeat (first | refine wKB ?_ | refine awp_seq_k (fun K hK => ?_) | refine areg_text mixed tyok (by decide +kernel) ?_ | refine qal tyok (fun bx => ?_) | refine qbox (fun bx => ?_) | refine qboxV (fun bx => ?_) | ((repeat ((fail_if_success (refine hK _ _ ?_)); clear hK)); refine hK _ _ ?_; clear hK))
        exact ⟨⟨(j + 1, _, ad, cp), hjl, hstep⟩, (by (repeat (first | exact True.intro | refine ⟨⟨_, rfl, Sub.refl _⟩, ?_⟩ | refine ⟨⟨_, rfl, Sub.nilso _ _⟩, ?_⟩ | refine ⟨⟨_, rfl, sl_tail _ _ _ _ _⟩, ?_⟩ | refine ⟨⟨_, rfl, Sub.of_eq (by first | rfl | (congr 1; first | omega | (simp only; omega)) | (simp; done) | (simp; omega))⟩, ?_⟩ | refine ⟨⟨_, rfl, Sub.view _ _ _ _⟩, ?_⟩))), (by (first | exact ⟨0, rfl⟩ | exact ⟨1, rfl⟩ | exact ⟨2, rfl⟩ | exact ⟨3, rfl⟩ | exact ⟨4, rfl⟩)), by simp only; omega⟩
      · have hjl' : ¬ (j : Int) < r.length := by omega
        obtain rfl : j = r.length := by omega
        rw [List.take_length] at hxs
        have hbare : xs = (r.map StR.up).map StI.bare := by rw [hxs, List.map_map]; rfl
        have hb0 := bare_ok i3
        rw [← hbare] at hb0
        have gb := check_c xs (by omega) (fun x hx => by
          rw [hbare] at hx
          obtain ⟨y, hy, rfl⟩ := List.mem_map.1 hx
          have := up_len b2 y hy
          show y.args.length ≤ _
          omega)
        have c1 := init_no i3
        have c2 := tail_no i3
        rw [List.length_map, ← List.map_take] at c1
        rw [← List.map_drop] at c2
        have e1 : ((r.length : Int) - 1).toNat = r.length - 1 := by omega
        have g1 := checkR_c (r.take ((r.length : Int) - 1).toNat) (by rw [List.length_take]; omega) (fun x hx => by have := b2 x (List.mem_of_mem_take hx); omega)
        have g2 := checkR_c (r.drop 1) (by rw [List.length_drop]; omega) (fun x hx => by have := b2 x (List.mem_of_mem_drop hx); omega)
        rw [e1] at g1
        generalize hA : lookF ((r.take (r.length - 1)).map StR.up) = A at c1 g1
        generalize hB : lookF ((r.drop 1).map StR.up) = B at c2 g2
        rw [← e1] at g1
        repeat (first | refine wKB ?_ | refine awp_seq_k (fun K hK => ?_) | refine areg_text mixed tyok (by decide +kernel) ?_ | refine qal tyok (fun bx => ?_) | refine qbox (fun bx => ?_) | refine qboxV (fun bx => ?_) | refine TR.pcall rfl rfl rfl rfl True.intro rfl rfl (PCalls.sub gb (.cons (Sub.view _ _ _ _) .nil)) ?_ | refine TR.pcall rfl rfl rfl rfl True.intro rfl rfl (PCalls.sub g1 (.cons (sub_take _ _ _ _ (by omega) _) .nil)) ?_ | refine TR.pcall rfl rfl rfl rfl True.intro rfl rfl (PCalls.sub g2 (.cons (sub_drop1 _ _ _ _) .nil)) ?_ | refine TR.pcall rfl rfl rfl rfl True.intro rfl rfl (known22_c) ?_ | refine pco rfl rfl rfl rfl rfl rfl rfl rfl (fun _ => PCalls.sub gb (.cons (Sub.view _ _ _ _) .nil)) ?_ | refine pco rfl rfl rfl rfl rfl rfl rfl rfl (fun _ => PCalls.sub g1 (.cons (sub_take _ _ _ _ (by omega) _) .nil)) ?_ | refine pco rfl rfl rfl rfl rfl rfl rfl rfl (fun _ => PCalls.sub g2 (.cons (sub_drop1 _ _ _ _) .nil)) ?_ | refine pco rfl rfl rfl rfl rfl rfl rfl rfl (fun _ => known22_c) ?_ | ((repeat ((fail_if_success (refine hK _ _ ?_)); clear hK)); refine hK _ _ ?_; clear hK))
        refine r1 ?_
        exact Sub.refl _

end Go.Proofs.YtjinaakebjfbiaaGreatDoor
