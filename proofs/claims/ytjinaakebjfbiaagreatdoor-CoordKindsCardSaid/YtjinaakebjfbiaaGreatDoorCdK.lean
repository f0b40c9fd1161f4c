/-
  CoordKinds returns true.
-/
import Derived.Test.YtjinaakebjfbiaaGreatDoorCd2
import Derived.Test.YtjinaakebjfbiaaGreatDoorCdP
namespace Go.Proofs.YtjinaakebjfbiaaGreatDoor
open Go.Ab

theorem script_inl {s : List UInt8} {p : Int × Int × Int} (h : scriptF s = .inl p) : p.2.2 ≠ 0 := by
  unfold scriptF at h
  split at h
  · cases h; simp
  split at h
  · cases h; simp
  split at h
  · cases h
  · rename_i he
    cases h
    exact he

theorem cbNxt : Callable Tryz.prog 22 := fun _ _ => by kernel_rfl
set_option maxHeartbeats 1600000 in
set_option maxRecDepth 100000 in
theorem next_par (bp bd : Nat) (a b : Int) (ha : 0 ≤ a ∧ a ≤ 1000000) :
    ACalls Tryz.prog 22 [.bool true, .ptr bp 0, .ptr bd 0] [.box bp 3 (.int .i64 a), .box bd 3 (.int .i64 b)] (fun r H' => r = .ret (.int .i64 (a + 1)) ∧ H' = [.box bp 3 (.int .i64 (a + 1)), .box bd 3 (.int .i64 b)]) := by
  refine acalls_of_awp tyok cbNxt Tryz.func22 rfl rfl ?_
  repeat (first | refine wKB ?_ | refine awp_seq_k (fun K hK => ?_) | refine areg_text mixed tyok (by decide +kernel) ?_ | refine qal tyok (fun bx => ?_) | refine qbox (fun bx => ?_) | refine qboxV (fun bx => ?_) | ((repeat ((fail_if_success (refine hK _ _ ?_)); clear hK)); refine hK _ _ ?_; clear hK))
  exact fnQ_ret 0 rfl (.tmp rfl .nil) (Sub.refl _) ⟨rfl, rfl⟩
set_option maxHeartbeats 1600000 in
set_option maxRecDepth 100000 in
theorem next_dep (bp bd : Nat) (a b : Int) (hb : 0 ≤ b ∧ b ≤ 1000000) :
    ACalls Tryz.prog 22 [.bool false, .ptr bp 0, .ptr bd 0] [.box bp 3 (.int .i64 a), .box bd 3 (.int .i64 b)] (fun r H' => r = .ret (.int .i64 (b + 1)) ∧ H' = [.box bp 3 (.int .i64 a), .box bd 3 (.int .i64 (b + 1))]) := by
  refine acalls_of_awp tyok cbNxt Tryz.func22 rfl rfl ?_
  repeat (first | refine wKB ?_ | refine awp_seq_k (fun K hK => ?_) | refine areg_text mixed tyok (by decide +kernel) ?_ | refine qal tyok (fun bx => ?_) | refine qbox (fun bx => ?_) | refine qboxV (fun bx => ?_) | ((repeat ((fail_if_success (refine hK _ _ ?_)); clear hK)); refine hK _ _ ?_; clear hK))
  exact fnQ_ret 0 rfl (.tmp rfl .nil) (Sub.refl _) ⟨rfl, rfl⟩

theorem rep_cut {n : Int} {z c : Nat} (h : z < c) : List.replicate c n = List.replicate z n ++ n :: List.replicate (c - z - 1) n := by
  obtain ⟨k, rfl⟩ : ∃ k, c = z + (k + 1) := ⟨c - z - 1, by omega⟩
  rw [show z + (k + 1) - z - 1 = k by omega, ← List.replicate_succ, List.replicate_append_replicate]

theorem cbCdK : Callable Tryz.prog 4 := fun _ _ => by kernel_rfl
set_option maxHeartbeats 6400000 in
set_option maxRecDepth 100000 in
theorem coordKinds_c (s : List UInt8) : PCalls Tryz.prog 4 [.str s] (.bool true) := by
  refine pcalls_of_awp tyok cbCdK Tryz.func4 rfl rfl ?_
  by_cases hs : s.length > 3000
  · have hs' : (s.length : Int) > 3000 := by omega
    repeat (first | refine wKB ?_ | refine awp_seq_k (fun K hK => ?_) | refine areg_text mixed tyok (by decide +kernel) ?_ | refine qal tyok (fun bx => ?_) | refine qbox (fun bx => ?_) | refine qboxV (fun bx => ?_) | refine TR.pcall rfl rfl rfl rfl True.intro rfl rfl (known25_c) ?_ | refine pco rfl rfl rfl rfl rfl rfl rfl rfl (fun _ => known25_c) ?_ | ((repeat ((fail_if_success (refine hK _ _ ?_)); clear hK)); refine hK _ _ ?_; clear hK))
    refine r1 ?_
    exact Sub.refl _
  have hs' : ¬ (s.length : Int) > 3000 := by omega
  have g1 := script22_c s (by omega)
  cases hss : scriptF s with
  | inl p =>
    obtain ⟨p1, p2, p3⟩ := p
    have hp : p3 ≠ 0 := script_inl hss
    rw [hss] at g1
    simp only [scriptV] at g1
    repeat (first | refine wKB ?_ | refine awp_seq_k (fun K hK => ?_) | refine areg_text mixed tyok (by decide +kernel) ?_ | refine qal tyok (fun bx => ?_) | refine qbox (fun bx => ?_) | refine qboxV (fun bx => ?_) | refine TR.pcall rfl rfl rfl rfl True.intro rfl rfl (known25_c) ?_ | refine TR.pcall rfl rfl rfl rfl True.intro rfl rfl (g1) ?_ | refine pco rfl rfl rfl rfl rfl rfl rfl rfl (fun _ => known25_c) ?_ | refine pco rfl rfl rfl rfl rfl rfl rfl rfl (fun _ => g1) ?_ | ((repeat ((fail_if_success (refine hK _ _ ?_)); clear hK)); refine hK _ _ ?_; clear hK))
    refine r1 ?_
    exact Sub.refl _
  | inr r =>
  rw [hss] at g1
  simp only [scriptV] at g1
  obtain ⟨i1, i2, i3⟩ := scriptF_inr hss
  obtain ⟨b1, b2⟩ := scriptF_bd hss
  have hA : ∀ x ∈ r.map StR.up, x.args.length ≤ 10000000000000000 := by
    intro x hx
    obtain ⟨y, hy, rfl⟩ := List.mem_map.1 hx
    have := b2 y hy
    show (y.args.map TokR.up).length ≤ _
    rw [List.length_map]
    omega
  have gv := PCalls.sub (of_view (r.map StR.up) (by rw [List.length_map]; omega) hA i3) (.cons (stmts_up r) .nil)
  unfold layV at gv
  have hsu := stmts_up r
  have hrl : (r.map StR.up).length = r.length := List.length_map ..
  generalize hl : r.map StR.up = l at *
  obtain ⟨n3, _, _, h40, _⟩ := lookF_id i3
  have hfew := few_of i3
  have hfs := fun x (hx : x ∈ l) => few_stmt i3 hx
  have hml := manyF_len l
  have hcl := cel2_len (manyF l) 0 (parN (manyF l))
  have hcp := pairsC_len _ _ hcl
  have hget := cel2_get (manyF l) 0 (parN (manyF l))
  have hPb := parN_bd (manyF l)
  have hDb := depN_bd (manyF l)
  generalize hcs : pairsC (cel2 (manyF l) 0 (parN (manyF l))) = cs at gv hcp hget
  generalize hP : parN (manyF l) = P at gv hget hPb
  generalize hV : depN (manyF l) = D at gv hDb
  generalize hns : namesF l = ns at gv hml h40
  have hle : (cs.length : Int) = ns.length := by omega
  ((repeat (first | refine wKB ?_ | refine awp_seq_k (fun K hK => ?_) | refine TR.pcall rfl rfl rfl rfl True.intro rfl rfl (g1) ?_ | refine TR.pcall rfl rfl rfl rfl True.intro rfl rfl (gv) ?_ | refine pco rfl rfl rfl rfl rfl rfl rfl rfl (fun _ => g1) ?_ | refine pco rfl rfl rfl rfl rfl rfl rfl rfl (fun _ => gv) ?_ | ((repeat ((fail_if_success (refine hK _ _ ?_)); clear hK)); refine hK _ _ ?_; clear hK))); ((first | refine qal tyok (fun b4 => ?_) | refine qbox (fun b4 => ?_) | refine qboxV (fun b4 => ?_))); (repeat (first | refine wKB ?_ | refine awp_seq_k (fun K hK => ?_) | refine TR.pcall rfl rfl rfl rfl True.intro rfl rfl (g1) ?_ | refine TR.pcall rfl rfl rfl rfl True.intro rfl rfl (gv) ?_ | refine pco rfl rfl rfl rfl rfl rfl rfl rfl (fun _ => g1) ?_ | refine pco rfl rfl rfl rfl rfl rfl rfl rfl (fun _ => gv) ?_ | ((repeat ((fail_if_success (refine hK _ _ ?_)); clear hK)); refine hK _ _ ?_; clear hK))); ((first | refine qal tyok (fun b6 => ?_) | refine qbox (fun b6 => ?_) | refine qboxV (fun b6 => ?_))); (repeat (first | refine wKB ?_ | refine awp_seq_k (fun K hK => ?_) | refine qal tyok (fun bx => ?_) | refine qbox (fun bx => ?_) | refine qboxV (fun bx => ?_) | refine TR.pcall rfl rfl rfl rfl True.intro rfl rfl (g1) ?_ | refine TR.pcall rfl rfl rfl rfl True.intro rfl rfl (gv) ?_ | refine pco rfl rfl rfl rfl rfl rfl rfl rfl (fun _ => g1) ?_ | refine pco rfl rfl rfl rfl rfl rfl rfl rfl (fun _ => gv) ?_ | ((repeat ((fail_if_success (refine hK _ _ ?_)); clear hK)); refine hK _ _ ?_; clear hK))))
  refine awp_freeze [] (s := 6) rfl rfl ?_
  refine awp_dropF (G := [_]) ?_
  refine (have hr : ∀ b8 b9 T' H', Weak T' [(3, stmtsI l), (6, .rptr [sl txtE 1 ns .view, sl cooE 2 cs .view, .int .i64 P, .int .i64 (P + D)]), (7, .int .i64 0), (8, .ptr b8 0), (9, .ptr b9 0)] →
    List.Perm H' [.box b8 3 (.int .i64 0), .box b9 3 (.int .i64 P)] → K T' H' := fun b8 b9 => cutKP hK ?_; ?_)
  rotate_left
  · clear hK
    refine areg_allocs mixed tyok [0, 1] [2, 3] [4, 5, 6] (by kernel_rfl) (by kernel_rfl) ?_
    repeat (first | refine wK ?_ | refine awp_seq_k (fun K hK => ?_) | refine areg_text mixed tyok (by decide +kernel) ?_ | refine qal tyok (fun bx => ?_) | refine qbox (fun bx => ?_) | refine qboxV (fun bx => ?_) | ((repeat ((fail_if_success (refine hK _ _ ?_)); clear hK)); refine hK _ _ ?_; clear hK))
    intro a ha
    have ha' : a ∈ ([2, 3] : List Nat) := ha
    simp only [List.mem_cons, List.mem_nil_iff, or_false] at ha'
    rcases ha' with rfl | rfl
    · refine one_alloc tyok rfl rfl rfl rfl rfl fun b8 => ?_
      intro a ha
      have ha' : a ∈ ([3] : List Nat) := ha
      simp only [List.mem_cons, List.mem_nil_iff, or_false] at ha'
      subst ha'
      refine one_alloc tyok rfl rfl rfl rfl rfl fun b9 => ?_
      refine allO_zero ?_
      repeat (first | refine wK ?_ | refine awp_seq_k (fun K hK => ?_) | refine areg_text mixed tyok (by decide +kernel) ?_ | refine qal tyok (fun bx => ?_) | refine qbox (fun bx => ?_) | refine qboxV (fun bx => ?_) | ((repeat ((fail_if_success (refine hK _ _ ?_)); clear hK)); refine hK _ _ ?_; clear hK))
      refine hr b8 b9 _ _ ?_ ?_
      · refine ⟨⟨_, rfl, hsu⟩, ?_⟩
        (repeat (first | exact True.intro | refine ⟨⟨_, rfl, Sub.refl _⟩, ?_⟩ | refine ⟨⟨_, rfl, Sub.nilso _ _⟩, ?_⟩ | refine ⟨⟨_, rfl, sl_tail _ _ _ _ _⟩, ?_⟩ | refine ⟨⟨_, rfl, Sub.of_eq (by first | rfl | (congr 1; first | omega | (simp only; omega)) | (simp; done) | (simp; omega))⟩, ?_⟩ | refine ⟨⟨_, rfl, Sub.view _ _ _ _⟩, ?_⟩))
      · first | exact List.Perm.refl _ | exact List.Perm.swap _ _ _
    · refine one_alloc tyok rfl rfl rfl rfl rfl fun b9 => ?_
      intro a ha
      have ha' : a ∈ ([2] : List Nat) := ha
      simp only [List.mem_cons, List.mem_nil_iff, or_false] at ha'
      subst ha'
      refine one_alloc tyok rfl rfl rfl rfl rfl fun b8 => ?_
      refine allO_zero ?_
      repeat (first | refine wK ?_ | refine awp_seq_k (fun K hK => ?_) | refine areg_text mixed tyok (by decide +kernel) ?_ | refine qal tyok (fun bx => ?_) | refine qbox (fun bx => ?_) | refine qboxV (fun bx => ?_) | ((repeat ((fail_if_success (refine hK _ _ ?_)); clear hK)); refine hK _ _ ?_; clear hK))
      refine hr b8 b9 _ _ ?_ ?_
      · refine ⟨⟨_, rfl, hsu⟩, ?_⟩
        (repeat (first | exact True.intro | refine ⟨⟨_, rfl, Sub.refl _⟩, ?_⟩ | refine ⟨⟨_, rfl, Sub.nilso _ _⟩, ?_⟩ | refine ⟨⟨_, rfl, sl_tail _ _ _ _ _⟩, ?_⟩ | refine ⟨⟨_, rfl, Sub.of_eq (by first | rfl | (congr 1; first | omega | (simp only; omega)) | (simp; done) | (simp; omega))⟩, ?_⟩ | refine ⟨⟨_, rfl, Sub.view _ _ _ _⟩, ?_⟩))
      · first | exact List.Perm.refl _ | exact List.Perm.swap _ _ _
  clear hK
  generalize hms : manyF l = ms at *
  have hn2 : 2 * (ms.length : Int) ≤ 80 := by omega
  repeat (first | refine wKB ?_ | refine awp_seq_k (fun K hK => ?_) | refine areg_text mixed tyok (by decide +kernel) ?_ | refine qal tyok (fun bx => ?_) | refine qbox (fun bx => ?_) | refine qboxV (fun bx => ?_) | ((repeat ((fail_if_success (refine hK _ _ ?_)); clear hK)); refine hK _ _ ?_; clear hK))
  refine awp_loop0 (ι := { i : Nat // i ≤ l.length })
    (fun i => [(6, .rptr [sl txtE 1 ns .view, sl cooE 2 cs .view, .int .i64 P, .int .i64 (P + D)]), (7, .int .i64 ((manyF (l.take i.1)).length : Nat)), (8, .ptr b8 0), (9, .ptr b9 0), (10, .func (.func 22) [] [.ptr b8 0, .ptr b9 0]), (49, stmtsI l), (50, .int .i64 l.length), (51, .int .i64 i.1)])
    (fun i => [.box b8 3 (.int .i64 (parN (manyF (l.take i.1)))), .box b9 3 (.int .i64 (P + depN (manyF (l.take i.1))))]) (fun i => l.length - i.1) ⟨0, Nat.zero_le _⟩ (by (repeat (first | exact True.intro | refine ⟨⟨_, rfl, Sub.refl _⟩, ?_⟩ | refine ⟨⟨_, rfl, Sub.nilso _ _⟩, ?_⟩ | refine ⟨⟨_, rfl, sl_tail _ _ _ _ _⟩, ?_⟩ | refine ⟨⟨_, rfl, Sub.of_eq (by first | rfl | (congr 1; first | omega | (simp only; omega)) | (simp; done) | (simp; omega))⟩, ?_⟩ | refine ⟨⟨_, rfl, Sub.view _ _ _ _⟩, ?_⟩))) ⟨0, ?_⟩ ?_
  · have e1 : parN (manyF (l.take 0)) = 0 := rfl
    have e2 : P + depN (manyF (l.take 0)) = P := by
      rw [show depN (manyF (l.take 0)) = 0 from rfl]
      omega
    simp only
    rw [e1, e2]
    rfl
  rintro ⟨i, hi⟩
  simp only at hi ⊢
  by_cases hlt : i < l.length
  · have hlt' : (i : Int) < l.length := by omega
    have hx : l.getD i default ∈ l := by rw [getD_at hlt]; exact List.getElem_mem hlt
    have hst := manyF_take hlt
    rw [manyOf_rep] at hst
    have hpre := manyF_pre l (i + 1)
    rw [hms] at hpre
    have happ : ms = manyF (l.take (i + 1)) ++ manyF (l.drop (i + 1)) := by
      rw [← hms]
      unfold manyF
      rw [← List.flatMap_append, List.take_append_drop]
    obtain ⟨hx4, hx5⟩ := hfs _ hx
    have hxa := hA _ hx
    ((repeat (first | refine wKB ?_ | refine awp_seq_k (fun K hK => ?_) | refine areg_text mixed tyok (by decide +kernel) ?_ | ((repeat ((fail_if_success (refine hK _ _ ?_)); clear hK)); refine hK _ _ ?_; clear hK))); ((first | refine qal tyok (fun b12 => ?_) | refine qbox (fun b12 => ?_) | refine qboxV (fun b12 => ?_))))
    (((repeat (first | refine wT ?_ | refine qal tyok (fun bx => ?_) | refine qbox (fun bx => ?_) | refine qboxV (fun bx => ?_)))); repeat (first | (with_reducible refine pQ_normal ?_) | (with_reducible refine thenQ_normal ?_) | (with_reducible refine blockQ_normal ?_) | (with_reducible refine thenQ_exit ?_) | (with_reducible refine blockQ_hit ?_) | refine blockQ_miss rfl ?_ | (with_reducible refine thenQ_ret ?_) | (with_reducible refine blockQ_ret ?_) | (with_reducible refine pQ_panic ?_) | (with_reducible refine thenQ_panic ?_) | (with_reducible refine blockQ_panic ?_)); ((repeat ((fail_if_success (refine hK _ _ ?_)); clear hK)); refine hK _ _ ?_; clear hK))
    refine awp_boxSub [] (v' := .agg (stmtEI (l.getD i default))) (Sub.of_eq rfl) ?_
    refine awp_freeze [] (s := 12) rfl rfl ?_
    generalize l.getD i default = x at hst hx4 hx5 hxa ⊢
    generalize manyF (l.take i) = A at hst ⊢
    have hAn : A.length + cntM x ≤ 40 := by
      rw [hst, List.length_append, List.length_replicate] at hpre
      omega
    (refine awp_seq_k (fun K hK => ?_); refine awp_region tyok ?_; ((repeat (first | refine wT ?_ | refine qal tyok (fun bx => ?_) | refine qbox (fun bx => ?_) | refine qboxV (fun bx => ?_)))); repeat (first | (with_reducible refine pQ_normal ?_) | (with_reducible refine thenQ_normal ?_) | (with_reducible refine blockQ_normal ?_) | (with_reducible refine thenQ_exit ?_) | (with_reducible refine blockQ_hit ?_) | refine blockQ_miss rfl ?_ | (with_reducible refine thenQ_ret ?_) | (with_reducible refine blockQ_ret ?_) | (with_reducible refine pQ_panic ?_) | (with_reducible refine thenQ_panic ?_) | (with_reducible refine blockQ_panic ?_)); ((repeat ((fail_if_success (refine hK _ _ ?_)); clear hK)); refine hK _ _ ?_; clear hK))
    refine awp_seq_k (fun K hK => ?_)
    refine (have hr := cutK (Wk := [(12, .rptr (stmtEI x)), (13, .int .i64 ((if x.k = 3 then x.args.length else 0 : Nat) : Int)), (14, .int .i64 2), (6, .rptr [sl txtE 1 ns .view, sl cooE 2 cs .view, .int .i64 P, .int .i64 (P + D)]), (7, .int .i64 (A.length : Nat)), (8, .ptr b8 0), (9, .ptr b9 0), (10, .func (.func 22) [] [.ptr b8 0, .ptr b9 0]), (49, stmtsI l), (50, .int .i64 l.length), (51, .int .i64 i)]) (H0 := [.box b8 3 (.int .i64 (parN A)), .box b9 3 (.int .i64 (P + depN A))]) hK ?_; ?_)
    rotate_left
    · clear hK
      by_cases k3 : x.k = 3
      · rw [if_pos k3] at hr
        repeat (first | refine wKB ?_ | refine awp_seq_k (fun K hK => ?_) | refine areg_text mixed tyok (by decide +kernel) ?_ | refine qal tyok (fun bx => ?_) | refine qbox (fun bx => ?_) | refine qboxV (fun bx => ?_) | ((repeat ((fail_if_success (refine hK _ _ ?_)); clear hK)); refine hK _ _ ?_; clear hK))
        exact hr _ (by (repeat (first | exact True.intro | refine ⟨⟨_, rfl, Sub.refl _⟩, ?_⟩ | refine ⟨⟨_, rfl, Sub.nilso _ _⟩, ?_⟩ | refine ⟨⟨_, rfl, sl_tail _ _ _ _ _⟩, ?_⟩ | refine ⟨⟨_, rfl, Sub.of_eq (by first | rfl | (congr 1; first | omega | (simp only; omega)) | (simp; done) | (simp; omega))⟩, ?_⟩ | refine ⟨⟨_, rfl, Sub.view _ _ _ _⟩, ?_⟩)))
      · rw [if_neg k3] at hr
        repeat (first | refine wKB ?_ | refine awp_seq_k (fun K hK => ?_) | refine areg_text mixed tyok (by decide +kernel) ?_ | refine qal tyok (fun bx => ?_) | refine qbox (fun bx => ?_) | refine qboxV (fun bx => ?_) | ((repeat ((fail_if_success (refine hK _ _ ?_)); clear hK)); refine hK _ _ ?_; clear hK))
        exact hr _ (by (repeat (first | exact True.intro | refine ⟨⟨_, rfl, Sub.refl _⟩, ?_⟩ | refine ⟨⟨_, rfl, Sub.nilso _ _⟩, ?_⟩ | refine ⟨⟨_, rfl, sl_tail _ _ _ _ _⟩, ?_⟩ | refine ⟨⟨_, rfl, Sub.of_eq (by first | rfl | (congr 1; first | omega | (simp only; omega)) | (simp; done) | (simp; omega))⟩, ?_⟩ | refine ⟨⟨_, rfl, Sub.view _ _ _ _⟩, ?_⟩)))
    clear hK
    refine awp_seq_k (fun K hK => ?_)
    refine (have hr := cutK (Wk := [(13, .int .i64 (cntM x : Nat)), (14, .int .i64 (freeM x)), (6, .rptr [sl txtE 1 ns .view, sl cooE 2 cs .view, .int .i64 P, .int .i64 (P + D)]), (7, .int .i64 (A.length : Nat)), (8, .ptr b8 0), (9, .ptr b9 0), (10, .func (.func 22) [] [.ptr b8 0, .ptr b9 0]), (49, stmtsI l), (50, .int .i64 l.length), (51, .int .i64 i)]) (H0 := [.box b8 3 (.int .i64 (parN A)), .box b9 3 (.int .i64 (P + depN A))]) hK ?_; ?_)
    rotate_left
    · clear hK
      by_cases k4 : x.k = 4
      · have g := construction_c x.word.w
        have hso : (conF x.word.w).isSome = true := by
          have := hx4 k4
          cases hc : conF x.word.w with
          | none => rw [hc] at this; cases this
          | some f => rfl
        rw [figV_eq, hso] at g
        have e1 : cntM x = 1 := by unfold cntM; rw [if_neg (by omega), if_pos k4]
        have e2 : freeM x = 2 - ((fig0 (conF x.word.w)).eqs.length : Int) := by unfold freeM; rw [if_pos k4]
        rw [e1, e2] at hr
        rw [e2] at hx5
        ((repeat (first | refine wKB ?_ | refine awp_seq_k (fun K hK => ?_) | refine areg_text mixed tyok (by decide +kernel) ?_ | refine TR.pcall rfl rfl rfl rfl True.intro rfl rfl (g) ?_ | refine pco rfl rfl rfl rfl rfl rfl rfl rfl (fun _ => g) ?_ | ((repeat ((fail_if_success (refine hK _ _ ?_)); clear hK)); refine hK _ _ ?_; clear hK))); ((first | refine qal tyok (fun b15 => ?_) | refine qbox (fun b15 => ?_) | refine qboxV (fun b15 => ?_))))
        (((repeat (first | refine wT ?_ | refine qal tyok (fun bx => ?_) | refine qbox (fun bx => ?_) | refine qboxV (fun bx => ?_)))); repeat (first | (with_reducible refine pQ_normal ?_) | (with_reducible refine thenQ_normal ?_) | (with_reducible refine blockQ_normal ?_) | (with_reducible refine thenQ_exit ?_) | (with_reducible refine blockQ_hit ?_) | refine blockQ_miss rfl ?_ | (with_reducible refine thenQ_ret ?_) | (with_reducible refine blockQ_ret ?_) | (with_reducible refine pQ_panic ?_) | (with_reducible refine thenQ_panic ?_) | (with_reducible refine blockQ_panic ?_)); ((repeat ((fail_if_success (refine hK _ _ ?_)); clear hK)); refine hK _ _ ?_; clear hK))
        refine awp_freeze [] (s := 15) rfl rfl ?_
        repeat (first | refine wKB ?_ | refine awp_seq_k (fun K hK => ?_) | refine areg_text mixed tyok (by decide +kernel) ?_ | refine qal tyok (fun bx => ?_) | refine qbox (fun bx => ?_) | refine qboxV (fun bx => ?_) | ((repeat ((fail_if_success (refine hK _ _ ?_)); clear hK)); refine hK _ _ ?_; clear hK))
        exact hr _ (by (repeat (first | exact True.intro | refine ⟨⟨_, rfl, Sub.refl _⟩, ?_⟩ | refine ⟨⟨_, rfl, Sub.nilso _ _⟩, ?_⟩ | refine ⟨⟨_, rfl, sl_tail _ _ _ _ _⟩, ?_⟩ | refine ⟨⟨_, rfl, Sub.of_eq (by first | rfl | (congr 1; first | omega | (simp only; omega)) | (simp; done) | (simp; omega))⟩, ?_⟩ | refine ⟨⟨_, rfl, Sub.view _ _ _ _⟩, ?_⟩)))
      · have e1 : cntM x = if x.k = 3 then x.args.length else 0 := by unfold cntM; rw [if_neg k4]
        have e2 : freeM x = 2 := by unfold freeM; rw [if_neg k4]
        rw [e1, e2] at hr
        repeat (first | refine wKB ?_ | refine awp_seq_k (fun K hK => ?_) | refine areg_text mixed tyok (by decide +kernel) ?_ | refine qal tyok (fun bx => ?_) | refine qbox (fun bx => ?_) | refine qboxV (fun bx => ?_) | ((repeat ((fail_if_success (refine hK _ _ ?_)); clear hK)); refine hK _ _ ?_; clear hK))
        exact hr _ (by (repeat (first | exact True.intro | refine ⟨⟨_, rfl, Sub.refl _⟩, ?_⟩ | refine ⟨⟨_, rfl, Sub.nilso _ _⟩, ?_⟩ | refine ⟨⟨_, rfl, sl_tail _ _ _ _ _⟩, ?_⟩ | refine ⟨⟨_, rfl, Sub.of_eq (by first | rfl | (congr 1; first | omega | (simp only; omega)) | (simp; done) | (simp; omega))⟩, ?_⟩ | refine ⟨⟨_, rfl, Sub.view _ _ _ _⟩, ?_⟩)))
    clear hK
    repeat (first | refine wKB ?_ | refine awp_seq_k (fun K hK => ?_) | refine areg_text mixed tyok (by decide +kernel) ?_ | refine qal tyok (fun bx => ?_) | refine qbox (fun bx => ?_) | refine qboxV (fun bx => ?_) | ((repeat ((fail_if_success (refine hK _ _ ?_)); clear hK)); refine hK _ _ ?_; clear hK))
    refine awp_loop0 (ι := { z : Nat // z ≤ cntM x })
      (fun z => [(6, .rptr [sl txtE 1 ns .view, sl cooE 2 cs .view, .int .i64 P, .int .i64 (P + D)]), (7, .int .i64 (A.length + z.1 : Nat)), (8, .ptr b8 0), (9, .ptr b9 0), (10, .func (.func 22) [] [.ptr b8 0, .ptr b9 0]), (14, .int .i64 (freeM x)), (49, stmtsI l), (50, .int .i64 l.length), (51, .int .i64 i), (77, .int .i64 (cntM x : Nat)), (78, .int .i64 z.1)])
      (fun z => [.box b8 3 (.int .i64 (parN (A ++ List.replicate z.1 (2 - freeM x)))), .box b9 3 (.int .i64 (P + depN (A ++ List.replicate z.1 (2 - freeM x))))]) (fun z => cntM x - z.1) ⟨0, Nat.zero_le _⟩ (by (repeat (first | exact True.intro | refine ⟨⟨_, rfl, Sub.refl _⟩, ?_⟩ | refine ⟨⟨_, rfl, Sub.nilso _ _⟩, ?_⟩ | refine ⟨⟨_, rfl, sl_tail _ _ _ _ _⟩, ?_⟩ | refine ⟨⟨_, rfl, Sub.of_eq (by first | rfl | (congr 1; first | omega | (simp only; omega)) | (simp; done) | (simp; omega))⟩, ?_⟩ | refine ⟨⟨_, rfl, Sub.view _ _ _ _⟩, ?_⟩))) ⟨0, ?_⟩ ?_
    · simp only [List.replicate_zero, List.append_nil]
      rfl
    rintro ⟨z, hz⟩
    simp only at hz ⊢
    by_cases hzl : z < cntM x
    · have hzl' : (z : Int) < ((cntM x : Nat) : Int) := by omega
      have hsp : ms = A ++ List.replicate z (2 - freeM x) ++ (2 - freeM x) :: (List.replicate (cntM x - z - 1) (2 - freeM x) ++ manyF (l.drop (i + 1))) := by
        rw [happ, hst]
        have e := rep_cut (n := 2 - freeM x) hzl
        rw [e]
        simp
      have hlz : (A ++ List.replicate z (2 - freeM x)).length = A.length + z := by rw [List.length_append, List.length_replicate]
      have hat : A.length + z < ms.length := by
        rw [hsp, List.length_append, hlz, List.length_cons]
        omega
      have htkz : ms.take (A.length + z) = A ++ List.replicate z (2 - freeM x) := by
        rw [hsp, ← hlz]
        exact List.take_left ..
      have hgn : ms.getD (A.length + z) 0 = 2 - freeM x := by
        rw [List.getD_eq_getElem?_getD, hsp, List.getElem?_append_right (by omega), hlz, Nat.sub_self]
        rfl
      have hc := hget (A.length + z) (by omega)
      rw [hgn, htkz] at hc
      have hnx : List.replicate (z + 1) (2 - freeM x) = List.replicate z (2 - freeM x) ++ [2 - freeM x] := List.replicate_succ' ..
      have hp1 : parN (A ++ List.replicate (z + 1) (2 - freeM x)) = parN (A ++ List.replicate z (2 - freeM x)) + parA (2 - freeM x) := by
        rw [hnx, ← List.append_assoc, parN_snoc]
      have hd1 : depN (A ++ List.replicate (z + 1) (2 - freeM x)) = depN (A ++ List.replicate z (2 - freeM x)) + depA (2 - freeM x) := by
        rw [hnx, ← List.append_assoc, depN_snoc]
      have hpb := parN_bd (A ++ List.replicate z (2 - freeM x))
      have hdb := depN_bd (A ++ List.replicate z (2 - freeM x))
      rw [hlz] at hpb hdb
      generalize parN (A ++ List.replicate z (2 - freeM x)) = p at hc hp1 hpb ⊢
      generalize depN (A ++ List.replicate z (2 - freeM x)) = d at hc hd1 hdb ⊢
      have hcx : (cs.getD (((A.length + z : Nat) : Int)).toNat default) = cs.getD (A.length + z) default := rfl
      have hil : ((A.length + z : Nat) : Int) < cs.length := by omega
      rcases hx5 with h5 | h5 | h5
      · have hf : freeM x = 2 := by omega
        rw [h5] at hc
        have hX : (cs.getD (((A.length + z : Nat) : Int)).toNat default).1 = p + 1 := by
          rw [hcx, hc]
          show 0 + p + 1 = _
          omega
        have hY : (cs.getD (((A.length + z : Nat) : Int)).toNat default).2 = p + 1 + 1 := by
          rw [hcx, hc]
          show 0 + p + 2 = _
          omega
        have c1 := next_par b8 b9 p (P + d) (by omega)
        have c2 := next_par b8 b9 (p + 1) (P + d) (by omega)
        repeat (first | refine wKB ?_ | refine awp_seq_k (fun K hK => ?_) | refine areg_text mixed tyok (by decide +kernel) ?_ | refine qal tyok (fun bx => ?_) | refine qbox (fun bx => ?_) | refine qboxV (fun bx => ?_) | ((repeat ((fail_if_success (refine hK _ _ ?_)); clear hK)); refine hK _ _ ?_; clear hK))
        refine qcallH (G := []) c1 ?_
        repeat (first | refine wKB ?_ | refine awp_seq_k (fun K hK => ?_) | refine areg_text mixed tyok (by decide +kernel) ?_ | refine qal tyok (fun bx => ?_) | refine qbox (fun bx => ?_) | refine qboxV (fun bx => ?_) | ((repeat ((fail_if_success (refine hK _ _ ?_)); clear hK)); refine hK _ _ ?_; clear hK))
        refine qcallH (G := []) c2 ?_
        repeat (first | refine wKB ?_ | refine awp_seq_k (fun K hK => ?_) | refine areg_text mixed tyok (by decide +kernel) ?_ | refine qal tyok (fun bx => ?_) | refine qbox (fun bx => ?_) | refine qboxV (fun bx => ?_) | ((repeat ((fail_if_success (refine hK _ _ ?_)); clear hK)); refine hK _ _ ?_; clear hK))
        refine ⟨⟨z + 1, hzl⟩, (by (repeat (first | exact True.intro | refine ⟨⟨_, rfl, Sub.refl _⟩, ?_⟩ | refine ⟨⟨_, rfl, Sub.nilso _ _⟩, ?_⟩ | refine ⟨⟨_, rfl, sl_tail _ _ _ _ _⟩, ?_⟩ | refine ⟨⟨_, rfl, Sub.of_eq (by first | rfl | (congr 1; first | omega | (simp only; omega)) | (simp; done) | (simp; omega))⟩, ?_⟩ | refine ⟨⟨_, rfl, Sub.view _ _ _ _⟩, ?_⟩))), ⟨0, ?_⟩, by simp only; omega⟩
        simp only
        rw [hp1, hd1, h5, show parA 0 = 2 from rfl, show depA 0 = 0 from rfl, show P + (d + 0) = P + d by omega, show p + 2 = p + 1 + 1 by omega]
        rfl
      · have hf : freeM x = 1 := by omega
        rw [h5] at hc
        have hX : (cs.getD (((A.length + z : Nat) : Int)).toNat default).1 = p + 1 := by
          rw [hcx, hc]
          show 0 + p + 1 = _
          omega
        have hY : (cs.getD (((A.length + z : Nat) : Int)).toNat default).2 = P + d + 1 := by
          rw [hcx, hc]
          rfl
        have c1 := next_par b8 b9 p (P + d) (by omega)
        have c2 := next_dep b8 b9 (p + 1) (P + d) (by omega)
        repeat (first | refine wKB ?_ | refine awp_seq_k (fun K hK => ?_) | refine areg_text mixed tyok (by decide +kernel) ?_ | refine qal tyok (fun bx => ?_) | refine qbox (fun bx => ?_) | refine qboxV (fun bx => ?_) | ((repeat ((fail_if_success (refine hK _ _ ?_)); clear hK)); refine hK _ _ ?_; clear hK))
        refine qcallH (G := []) c1 ?_
        repeat (first | refine wKB ?_ | refine awp_seq_k (fun K hK => ?_) | refine areg_text mixed tyok (by decide +kernel) ?_ | refine qal tyok (fun bx => ?_) | refine qbox (fun bx => ?_) | refine qboxV (fun bx => ?_) | ((repeat ((fail_if_success (refine hK _ _ ?_)); clear hK)); refine hK _ _ ?_; clear hK))
        refine qcallH (G := []) c2 ?_
        repeat (first | refine wKB ?_ | refine awp_seq_k (fun K hK => ?_) | refine areg_text mixed tyok (by decide +kernel) ?_ | refine qal tyok (fun bx => ?_) | refine qbox (fun bx => ?_) | refine qboxV (fun bx => ?_) | ((repeat ((fail_if_success (refine hK _ _ ?_)); clear hK)); refine hK _ _ ?_; clear hK))
        refine ⟨⟨z + 1, hzl⟩, (by (repeat (first | exact True.intro | refine ⟨⟨_, rfl, Sub.refl _⟩, ?_⟩ | refine ⟨⟨_, rfl, Sub.nilso _ _⟩, ?_⟩ | refine ⟨⟨_, rfl, sl_tail _ _ _ _ _⟩, ?_⟩ | refine ⟨⟨_, rfl, Sub.of_eq (by first | rfl | (congr 1; first | omega | (simp only; omega)) | (simp; done) | (simp; omega))⟩, ?_⟩ | refine ⟨⟨_, rfl, Sub.view _ _ _ _⟩, ?_⟩))), ⟨0, ?_⟩, by simp only; omega⟩
        simp only
        rw [hp1, hd1, h5, show parA 1 = 1 from rfl, show depA 1 = 1 from rfl, show P + (d + 1) = P + d + 1 by omega]
        rfl
      · have hf : freeM x = 0 := by omega
        rw [h5] at hc
        have hX : (cs.getD (((A.length + z : Nat) : Int)).toNat default).1 = P + d + 1 := by
          rw [hcx, hc]
          rfl
        have hY : (cs.getD (((A.length + z : Nat) : Int)).toNat default).2 = P + d + 1 + 1 := by
          rw [hcx, hc]
          show P + d + 2 = _
          omega
        have c1 := next_dep b8 b9 p (P + d) (by omega)
        have c2 := next_dep b8 b9 p (P + d + 1) (by omega)
        repeat (first | refine wKB ?_ | refine awp_seq_k (fun K hK => ?_) | refine areg_text mixed tyok (by decide +kernel) ?_ | refine qal tyok (fun bx => ?_) | refine qbox (fun bx => ?_) | refine qboxV (fun bx => ?_) | ((repeat ((fail_if_success (refine hK _ _ ?_)); clear hK)); refine hK _ _ ?_; clear hK))
        refine qcallH (G := []) c1 ?_
        repeat (first | refine wKB ?_ | refine awp_seq_k (fun K hK => ?_) | refine areg_text mixed tyok (by decide +kernel) ?_ | refine qal tyok (fun bx => ?_) | refine qbox (fun bx => ?_) | refine qboxV (fun bx => ?_) | ((repeat ((fail_if_success (refine hK _ _ ?_)); clear hK)); refine hK _ _ ?_; clear hK))
        refine qcallH (G := []) c2 ?_
        repeat (first | refine wKB ?_ | refine awp_seq_k (fun K hK => ?_) | refine areg_text mixed tyok (by decide +kernel) ?_ | refine qal tyok (fun bx => ?_) | refine qbox (fun bx => ?_) | refine qboxV (fun bx => ?_) | ((repeat ((fail_if_success (refine hK _ _ ?_)); clear hK)); refine hK _ _ ?_; clear hK))
        refine ⟨⟨z + 1, hzl⟩, (by (repeat (first | exact True.intro | refine ⟨⟨_, rfl, Sub.refl _⟩, ?_⟩ | refine ⟨⟨_, rfl, Sub.nilso _ _⟩, ?_⟩ | refine ⟨⟨_, rfl, sl_tail _ _ _ _ _⟩, ?_⟩ | refine ⟨⟨_, rfl, Sub.of_eq (by first | rfl | (congr 1; first | omega | (simp only; omega)) | (simp; done) | (simp; omega))⟩, ?_⟩ | refine ⟨⟨_, rfl, Sub.view _ _ _ _⟩, ?_⟩))), ⟨0, ?_⟩, by simp only; omega⟩
        simp only
        rw [hp1, hd1, h5, show parA 2 = 0 from rfl, show depA 2 = 2 from rfl, show P + (d + 2) = P + d + 1 + 1 by omega, show p + 0 = p by omega]
        rfl
    · have hzg : ¬ (z : Int) < ((cntM x : Nat) : Int) := by omega
      obtain rfl : z = cntM x := by omega
      have hln : A.length + cntM x = (manyF (l.take (i + 1))).length := by rw [hst, List.length_append, List.length_replicate]
      rw [← hst, hln]
      repeat (first | refine wKB ?_ | refine awp_seq_k (fun K hK => ?_) | refine areg_text mixed tyok (by decide +kernel) ?_ | refine qal tyok (fun bx => ?_) | refine qbox (fun bx => ?_) | refine qboxV (fun bx => ?_) | ((repeat ((fail_if_success (refine hK _ _ ?_)); clear hK)); refine hK _ _ ?_; clear hK))
      exact ⟨⟨i + 1, hlt⟩, (by (repeat (first | exact True.intro | refine ⟨⟨_, rfl, Sub.refl _⟩, ?_⟩ | refine ⟨⟨_, rfl, Sub.nilso _ _⟩, ?_⟩ | refine ⟨⟨_, rfl, sl_tail _ _ _ _ _⟩, ?_⟩ | refine ⟨⟨_, rfl, Sub.of_eq (by first | rfl | (congr 1; first | omega | (simp only; omega)) | (simp; done) | (simp; omega))⟩, ?_⟩ | refine ⟨⟨_, rfl, Sub.view _ _ _ _⟩, ?_⟩))), ⟨0, rfl⟩, by simp only; omega⟩
  · have hge : ¬ (i : Int) < l.length := by omega
    obtain rfl : i = l.length := by omega
    rw [List.take_length, hms, hP, hV]
    have hle2 : (ms.length : Int) = cs.length := by omega
    repeat (first | refine wKB ?_ | refine awp_seq_k (fun K hK => ?_) | refine areg_text mixed tyok (by decide +kernel) ?_ | refine qal tyok (fun bx => ?_) | refine qbox (fun bx => ?_) | refine qboxV (fun bx => ?_) | refine TR.pcall rfl rfl rfl rfl True.intro rfl rfl (known25_c) ?_ | refine pco rfl rfl rfl rfl rfl rfl rfl rfl (fun _ => known25_c) ?_ | ((repeat ((fail_if_success (refine hK _ _ ?_)); clear hK)); refine hK _ _ ?_; clear hK))
    refine fnQ_ret 2 rfl (.tmp rfl .nil) (Sub.refl _) ⟨rfl, rfl⟩

end Go.Proofs.YtjinaakebjfbiaaGreatDoor
