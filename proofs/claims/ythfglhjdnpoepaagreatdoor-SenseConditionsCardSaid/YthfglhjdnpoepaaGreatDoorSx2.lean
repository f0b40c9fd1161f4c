/-
  SenseConditions returns true for every input.
-/
import Derived.Test.YthfglhjdnpoepaaGreatDoorSx1
import Derived.Test.YthfglhjdnpoepaaGreatDoorNtM
import Derived.Test.YthfglhjdnpoepaaGreatDoorAb36
namespace Go.Proofs.YthfglhjdnpoepaaGreatDoor
open Go.Ab

theorem spf4 (a b c d : SpotR) : Sub (.slice 8 4 (chunk [spE a, spE b, spE c, spE d].flatten 8) .full) (spots [a, b, c, d]) :=
  (Sub.view _ _ _ _).trans (Sub.els fun i hi => match i, hi with
    | 0, _ => SubL.refl _
    | 1, _ => SubL.refl _
    | 2, _ => SubL.refl _
    | 3, _ => SubL.refl _)
theorem sign_not {q : Rat} (h : 0 ≤ q) : ¬ signQ q < 0 := by
  unfold signQ signZ
  have := Rat.num_nonneg.2 h
  split
  · decide
  · rw [if_neg (by omega)]
    decide
theorem sq_nonneg (x : Rat) : 0 ≤ x * x := by
  rcases Rat.le_total (a := 0) (b := x) with h | h
  · exact Rat.mul_nonneg h h
  · have h2 : 0 ≤ -x := by grind
    have := Rat.mul_nonneg h2 h2
    grind
theorem dot_nonneg (a b : Rat × Rat) : 0 ≤ dotQ a b a b := by
  unfold dotQ
  exact Rat.add_nonneg (sq_nonneg _) (sq_nonneg _)
theorem cross_turn (a b c d : Rat × Rat) : crossQ c d a b = 0 - crossQ a b c d := by
  unfold crossQ
  generalize wx a b = u
  generalize wy a b = v
  generalize wx c d = s
  generalize wy c d = t
  grind
theorem dot_turn (a b c d : Rat × Rat) : dotQ c d a b = dotQ a b c d := by
  unfold dotQ
  generalize wx a b = u
  generalize wy a b = v
  generalize wx c d = s
  generalize wy c d = t
  grind
theorem lagrange (a b c d : Rat × Rat) : crossQ a b c d * crossQ a b c d + dotQ a b c d * dotQ a b c d = dotQ a b a b * dotQ c d c d := by
  unfold crossQ dotQ
  generalize wx a b = u
  generalize wy a b = v
  generalize wx c d = s
  generalize wy c d = t
  grind

theorem cond_unl (P : Nat → Rat × Rat) : condQ [117, 110, 108, 105, 107, 101] 2 P = (some (dotQ (P 0) (P 1) (P 0) (P 1)), 0) := by
  unfold condQ
  rw [if_pos rfl, if_pos rfl]
theorem cond_apa (P : Nat → Rat × Rat) : condQ [97, 112, 97, 114, 116] 3 P = (some (crossQ (P 0) (P 1) (P 0) (P 2)), 0) := by
  unfold condQ
  rw [if_neg (by decide), if_pos rfl, if_pos rfl]
theorem cond_crs (P : Nat → Rat × Rat) : condQ [99, 114, 111, 115, 115] 4 P = (some (crossQ (P 0) (P 1) (P 2) (P 3)), 0) := by
  unfold condQ
  rw [if_neg (by decide), if_neg (by decide), if_pos rfl, if_pos rfl]
theorem cond_dot (P : Nat → Rat × Rat) : condQ [100, 111, 116] 4 P = (some (dotQ (P 0) (P 1) (P 2) (P 3)), 0) := by
  unfold condQ
  rw [if_neg (by decide), if_neg (by decide), if_neg (by decide), if_pos rfl, if_pos rfl]

theorem scond_unl {a b : SpotR} (ha : SpotOk 3 a) (hb : SpotOk 3 b) : PCalls Tryz.prog 15 [.str [117, 110, 108, 105, 107, 101], spots [a, b]] (.tuple [.agg (ratEs (ratC (dotQ a.p b.p a.p b.p))), .int .i64 0]) := by
  have h := scond_c 3 [117, 110, 108, 105, 107, 101] [a, b] (by decide) (by decide) (fun s hs => by
    simp only [List.mem_cons, List.mem_nil_iff, or_false] at hs
    rcases hs with rfl | rfl <;> assumption) (by simp)
  rw [show ([a, b] : List SpotR).length = 2 from rfl, cond_unl] at h
  exact h
theorem scond_apa {a b c : SpotR} (ha : SpotOk 3 a) (hb : SpotOk 3 b) (hc : SpotOk 3 c) : PCalls Tryz.prog 15 [.str [97, 112, 97, 114, 116], spots [a, b, c]] (.tuple [.agg (ratEs (ratC (crossQ a.p b.p a.p c.p))), .int .i64 0]) := by
  have h := scond_c 3 [97, 112, 97, 114, 116] [a, b, c] (by decide) (by decide) (fun s hs => by
    simp only [List.mem_cons, List.mem_nil_iff, or_false] at hs
    rcases hs with rfl | rfl | rfl <;> assumption) (by simp)
  rw [show ([a, b, c] : List SpotR).length = 3 from rfl, cond_apa] at h
  exact h
theorem scond_crs {a b c d : SpotR} (ha : SpotOk 3 a) (hb : SpotOk 3 b) (hc : SpotOk 3 c) (hd : SpotOk 3 d) : PCalls Tryz.prog 15 [.str [99, 114, 111, 115, 115], spots [a, b, c, d]] (.tuple [.agg (ratEs (ratC (crossQ a.p b.p c.p d.p))), .int .i64 0]) := by
  have h := scond_c 3 [99, 114, 111, 115, 115] [a, b, c, d] (by decide) (by decide) (fun s hs => by
    simp only [List.mem_cons, List.mem_nil_iff, or_false] at hs
    rcases hs with rfl | rfl | rfl | rfl <;> assumption) (by simp)
  rw [show ([a, b, c, d] : List SpotR).length = 4 from rfl, cond_crs] at h
  exact h
theorem scond_dot {a b c d : SpotR} (ha : SpotOk 3 a) (hb : SpotOk 3 b) (hc : SpotOk 3 c) (hd : SpotOk 3 d) : PCalls Tryz.prog 15 [.str [100, 111, 116], spots [a, b, c, d]] (.tuple [.agg (ratEs (ratC (dotQ a.p b.p c.p d.p))), .int .i64 0]) := by
  have h := scond_c 3 [100, 111, 116] [a, b, c, d] (by decide) (by decide) (fun s hs => by
    simp only [List.mem_cons, List.mem_nil_iff, or_false] at hs
    rcases hs with rfl | rfl | rfl | rfl <;> assumption) (by simp)
  rw [show ([a, b, c, d] : List SpotR).length = 4 from rfl, cond_dot] at h
  exact h

theorem cbLcond : Callable Tryz.prog 4 := fun _ _ => by kernel_rfl
set_option maxHeartbeats 12800000 in
set_option maxRecDepth 100000 in
theorem senseConditions_w (m : Nat) (a b c d : SpotR) (ha : SpotOk m a) (hb : SpotOk m b) (hc : SpotOk m c) (hd : SpotOk m d) : PCalls Tryz.prog 4 [.agg (spE a), .agg (spE b), .agg (spE c), .agg (spE d)] (.bool true) := by
  refine pcalls_of_awp tyok cbLcond Tryz.func4 rfl rfl ?_
  have gg := lgreat_c [a, b, c, d] (by simp)
  have gk := lknown_c
  (refine awp_seq_k (fun K hK => ?_); refine awp_region tyok ?_; ((repeat (first | refine wT ?_ | refine qal tyok (fun bx => ?_) | refine qbox (fun bx => ?_) | refine qboxV (fun bx => ?_)))); repeat (first | (with_reducible refine pQ_normal ?_) | (with_reducible refine thenQ_normal ?_) | (with_reducible refine blockQ_normal ?_) | (with_reducible refine thenQ_exit ?_) | (with_reducible refine blockQ_hit ?_) | refine blockQ_miss rfl ?_ | (with_reducible refine thenQ_ret ?_) | (with_reducible refine blockQ_ret ?_) | (with_reducible refine pQ_panic ?_) | (with_reducible refine thenQ_panic ?_) | (with_reducible refine blockQ_panic ?_)); ((repeat ((fail_if_success (refine hK _ _ ?_)); clear hK)); refine hK _ _ ?_; clear hK))
  refine awp_seq_k (fun K hK => ?_)
  refine awp_region tyok ?_
  refine qld ?_
  refine qld ?_
  refine qld ?_
  refine qld ?_
  refine qbsA tyok [spE a, spE b, spE c, spE d] ?_
  (((repeat (first | refine wT ?_ | refine qal tyok (fun bx => ?_) | refine qbox (fun bx => ?_) | refine qboxV (fun bx => ?_)))); repeat (first | (with_reducible refine pQ_normal ?_) | (with_reducible refine thenQ_normal ?_) | (with_reducible refine blockQ_normal ?_) | (with_reducible refine thenQ_exit ?_) | (with_reducible refine blockQ_hit ?_) | refine blockQ_miss rfl ?_ | (with_reducible refine thenQ_ret ?_) | (with_reducible refine blockQ_ret ?_) | (with_reducible refine pQ_panic ?_) | (with_reducible refine thenQ_panic ?_) | (with_reducible refine blockQ_panic ?_)); ((repeat ((fail_if_success (refine hK _ _ ?_)); clear hK)); refine hK _ _ ?_; clear hK))
  refine awp_freeze [] (s := 7) rfl rfl ?_
  refine awp_freeze [] (s := 6) rfl rfl ?_
  refine awp_freeze [] (s := 5) rfl rfl ?_
  refine awp_freeze [] (s := 4) rfl rfl ?_
  refine awp_weak (T' := [(4, .rptr (spE a)), (5, .rptr (spE b)), (6, .rptr (spE c)), (7, .rptr (spE d)), (9, spots [a, b, c, d])]) ⟨⟨_, rfl, Sub.refl _⟩, ⟨_, rfl, Sub.refl _⟩, ⟨_, rfl, Sub.refl _⟩, ⟨_, rfl, Sub.refl _⟩, ⟨_, rfl, spf4 a b c d⟩, True.intro⟩ ?_
  cases hg : greatB [a, b, c, d] with
  | true =>
    rw [hg] at gg
    repeat (first | refine wKB ?_ | refine awp_seq_k (fun K hK => ?_) | refine areg_text mixed tyok (by decide +kernel) ?_ | refine qal tyok (fun bx => ?_) | refine qbox (fun bx => ?_) | refine qboxV (fun bx => ?_) | refine TR.pcall rfl rfl rfl rfl True.intro rfl rfl (gg) ?_ | refine TR.pcall rfl rfl rfl rfl True.intro rfl rfl (gk) ?_ | refine pco rfl rfl rfl rfl rfl rfl rfl rfl (fun _ => gg) ?_ | refine pco rfl rfl rfl rfl rfl rfl rfl rfl (fun _ => gk) ?_ | ((repeat ((fail_if_success (refine hK _ _ ?_)); clear hK)); refine hK _ _ ?_; clear hK))
    refine r1 ?_
    exact Sub.refl _
  | false =>
  rw [hg] at gg
  have hall : SpotsOk 3 [a, b, c, d] := (greatB_no hg (k := m) (fun s hs => by
    simp only [List.mem_cons, List.mem_nil_iff, or_false] at hs
    rcases hs with rfl | rfl | rfl | rfl <;> assumption)).1
  have oa : SpotOk 3 a := hall a (by simp)
  have ob : SpotOk 3 b := hall b (by simp)
  have oc : SpotOk 3 c := hall c (by simp)
  have od : SpotOk 3 d := hall d (by simp)
  have pa := oa.p
  have pb := ob.p
  have pc := oc.p
  have pd := od.p
  have c1 := scond_crs oa ob oc od
  have c2 := PCalls.sub (scond_crs oc od oa ob) (vs := [.str [99, 114, 111, 115, 115], .slice 8 4 (chunk [spE c, spE d, spE a, spE b].flatten 8) .full]) (.cons (Sub.refl _) (.cons (spf4 _ _ _ _) .nil))
  have c3 := scond_dot oa ob oc od
  have c4 := PCalls.sub (scond_dot oc od oa ob) (vs := [.str [100, 111, 116], .slice 8 4 (chunk [spE c, spE d, spE a, spE b].flatten 8) .full]) (.cons (Sub.refl _) (.cons (spf4 _ _ _ _) .nil))
  have hX := pa.cross pb pc pd
  have hY := pc.cross pd pa pb
  have hD := pa.dot pb pc pd
  have hV := pc.dot pd pa pb
  have hp := pa.dot pb pa pb
  have hq := pc.dot pd pc pd
  have eY := cross_turn a.p b.p c.p d.p
  have eV := dot_turn a.p b.p c.p d.p
  have eL := lagrange a.p b.p c.p d.p
  have np := sign_not (dot_nonneg a.p b.p)
  -- the third part's calls
  have c5 := PCalls.sub (scond_unl oa ob) (vs := [.str [117, 110, 108, 105, 107, 101], .slice 8 2 (fun i => spE ([a, b, c, d].getD i default)) .view]) (.cons (Sub.refl _) (.cons (sl_take spE 8 [a, b, c, d] (h := 2) (by simp)) .nil))
  have c6 := PCalls.sub (scond_unl oc od) (vs := [.str [117, 110, 108, 105, 107, 101], .slice 8 (4 - 2) (fun i => spE ([a, b, c, d].getD (2 + i) default)) .view]) (.cons (Sub.refl _) (.cons (sl_drop spE 8 [a, b, c, d] 2) .nil))
  have c7 := PCalls.sub (scond_dot oa ob oa ob) (vs := [.str [100, 111, 116], .slice 8 4 (chunk [spE a, spE b, spE a, spE b].flatten 8) .full]) (.cons (Sub.refl _) (.cons (spf4 _ _ _ _) .nil))
  have c8 := PCalls.sub (scond_apa oa ob oc) (vs := [.str [97, 112, 97, 114, 116], .slice 8 3 (fun i => spE ([a, b, c, d].getD i default)) .view]) (.cons (Sub.refl _) (.cons (sl_take spE 8 [a, b, c, d] (h := 3) (by simp)) .nil))
  have c9 := PCalls.sub (scond_crs oa ob oa oc) (vs := [.str [99, 114, 111, 115, 115], .slice 8 4 (chunk [spE a, spE b, spE a, spE c].flatten 8) .full]) (.cons (Sub.refl _) (.cons (spf4 _ _ _ _) .nil))
  have hW := pa.cross pb pa pc
  have same : ∀ (k : Nat) (q : Rat), QOk k q → k ≤ 1000 → PCalls Tryz.prog 18 [.agg (ratEs (ratC q)), .agg (ratEs (ratC q))] (.bool true) := fun k q h1 h2 => by
    have := qSame_c (ratC q) (ratC q) ((ratC_ok h1).mono (by omega)) ((ratC_ok h1).mono (by omega))
    rw [sameR_C, decide_eq_true rfl] at this
    exact this
  have ofC : ∀ (k : Nat) (q : Rat), QOk k q → k ≤ 1000 → PCalls Tryz.prog 20 [.agg (ratEs (ratC q))] (.agg (qE (qrC q))) := fun k q h1 h2 => by
    have := qOf_c (ratC q) ((ratC_ok h1).mono (by omega))
    rw [ofQ_C] at this
    exact this
  have rat : ∀ (k : Nat) (q : Rat), QOk k q → k ≤ 1000 → PCalls Tryz.prog 19 [.agg (qE (qrC q))] (.agg (ratEs (ratC q))) := fun k q h1 h2 => by
    have := qRat_c k (qrC q) (by omega) (qrC_ok h1)
    rw [qrC_q] at this
    exact this
  rw [eY] at c2 hY
  rw [eV] at c4 hV
  generalize crossQ a.p b.p c.p d.p = X at *
  generalize dotQ a.p b.p c.p d.p = D at *
  generalize dotQ a.p b.p a.p b.p = p at *
  generalize dotQ c.p d.p c.p d.p = q at *
  generalize crossQ a.p b.p a.p c.p = w at *
  have k0 := qSmall_c 0 1 (by decide) (by decide) (by decide) (by decide)
  have k1 := qSub_c 29 (qrC 0) (qrC X) (by decide) (qrC_ok ((small_qok (n := 0) (by decide)).mono (by decide))) (qrC_ok hX)
  rw [qrC_q, qrC_q] at k1
  have k2 := rat _ _ hY (by decide)
  have k3 := same _ _ hY (by decide)
  have k4 := same _ _ hD (by decide)
  have f1 := ofC _ _ hX (by decide)
  have f2 := ofC _ _ hD (by decide)
  have f3 := ofC _ _ hp (by decide)
  have f4 := ofC _ _ hq (by decide)
  have k5 := same _ _ hp (by decide)
  have k6 := qSign_c p
  have k7 := same _ _ hW (by decide)
  have m1 := qMul_c 29 (qrC X) (qrC X) (by decide) (qrC_ok hX) (qrC_ok hX)
  have m2 := qMul_c 29 (qrC D) (qrC D) (by decide) (qrC_ok hD) (qrC_ok hD)
  have m3 := qAdd_c (29 + 29) (qrC (X * X)) (qrC (D * D)) (by decide) (qrC_ok (hX.mul hX)) (qrC_ok (hD.mul hD))
  have m4 := qMul_c 29 (qrC p) (qrC q) (by decide) (qrC_ok hp) (qrC_ok hq)
  rw [qrC_q] at m1 m2
  rw [qrC_q, qrC_q] at m3 m4
  rw [eL] at m3
  have m5 := rat _ _ (hp.mul hq) (by decide)
  have m6 := same _ _ (hp.mul hq) (by decide)
  ((repeat (first | refine wKB ?_ | refine awp_seq_k (fun K hK => ?_) | refine areg_text mixed tyok (by decide +kernel) ?_ | refine TR.pcall rfl rfl rfl rfl True.intro rfl rfl (gg) ?_ | refine TR.pcall rfl rfl rfl rfl True.intro rfl rfl (c1) ?_ | refine pco rfl rfl rfl rfl rfl rfl rfl rfl (fun _ => gg) ?_ | refine pco rfl rfl rfl rfl rfl rfl rfl rfl (fun _ => c1) ?_ | ((repeat ((fail_if_success (refine hK _ _ ?_)); clear hK)); refine hK _ _ ?_; clear hK))); ((first | refine qal tyok (fun b10 => ?_) | refine qbox (fun b10 => ?_) | refine qboxV (fun b10 => ?_))))
  (((repeat (first | refine wT ?_ | refine qal tyok (fun bx => ?_) | refine qbox (fun bx => ?_) | refine qboxV (fun bx => ?_)))); repeat (first | (with_reducible refine pQ_normal ?_) | (with_reducible refine thenQ_normal ?_) | (with_reducible refine blockQ_normal ?_) | (with_reducible refine thenQ_exit ?_) | (with_reducible refine blockQ_hit ?_) | refine blockQ_miss rfl ?_ | (with_reducible refine thenQ_ret ?_) | (with_reducible refine blockQ_ret ?_) | (with_reducible refine pQ_panic ?_) | (with_reducible refine thenQ_panic ?_) | (with_reducible refine blockQ_panic ?_)); ((repeat ((fail_if_success (refine hK _ _ ?_)); clear hK)); refine hK _ _ ?_; clear hK))
  refine awp_seq_k (fun K hK => ?_)
  refine awp_region tyok ?_
  refine qp ?_
  refine qp ?_
  refine qp ?_
  refine qp ?_
  refine qbsA tyok [spE c, spE d, spE a, spE b] ?_
  ((repeat (first | refine wT ?_ | refine TR.pcall rfl rfl rfl rfl True.intro rfl rfl (c2) ?_ | refine pco rfl rfl rfl rfl rfl rfl rfl rfl (fun _ => c2) ?_)); ((first | refine qal tyok (fun b12 => ?_) | refine qbox (fun b12 => ?_) | refine qboxV (fun b12 => ?_))); (repeat (first | refine wT ?_ | refine qal tyok (fun bx => ?_) | refine qbox (fun bx => ?_) | refine qboxV (fun bx => ?_) | refine TR.pcall rfl rfl rfl rfl True.intro rfl rfl (c2) ?_ | refine pco rfl rfl rfl rfl rfl rfl rfl rfl (fun _ => c2) ?_)))
  (((repeat (first | refine wT ?_ | refine qal tyok (fun bx => ?_) | refine qbox (fun bx => ?_) | refine qboxV (fun bx => ?_)))); repeat (first | (with_reducible refine pQ_normal ?_) | (with_reducible refine thenQ_normal ?_) | (with_reducible refine blockQ_normal ?_) | (with_reducible refine thenQ_exit ?_) | (with_reducible refine blockQ_hit ?_) | refine blockQ_miss rfl ?_ | (with_reducible refine thenQ_ret ?_) | (with_reducible refine blockQ_ret ?_) | (with_reducible refine pQ_panic ?_) | (with_reducible refine thenQ_panic ?_) | (with_reducible refine blockQ_panic ?_)); ((repeat ((fail_if_success (refine hK _ _ ?_)); clear hK)); refine hK _ _ ?_; clear hK))
  ((repeat (first | refine wKB ?_ | refine awp_seq_k (fun K hK => ?_) | refine areg_text mixed tyok (by decide +kernel) ?_ | refine TR.pcall rfl rfl rfl rfl True.intro rfl rfl (c3) ?_ | refine pco rfl rfl rfl rfl rfl rfl rfl rfl (fun _ => c3) ?_ | ((repeat ((fail_if_success (refine hK _ _ ?_)); clear hK)); refine hK _ _ ?_; clear hK))); ((first | refine qal tyok (fun b14 => ?_) | refine qbox (fun b14 => ?_) | refine qboxV (fun b14 => ?_))))
  (((repeat (first | refine wT ?_ | refine qal tyok (fun bx => ?_) | refine qbox (fun bx => ?_) | refine qboxV (fun bx => ?_)))); repeat (first | (with_reducible refine pQ_normal ?_) | (with_reducible refine thenQ_normal ?_) | (with_reducible refine blockQ_normal ?_) | (with_reducible refine thenQ_exit ?_) | (with_reducible refine blockQ_hit ?_) | refine blockQ_miss rfl ?_ | (with_reducible refine thenQ_ret ?_) | (with_reducible refine blockQ_ret ?_) | (with_reducible refine pQ_panic ?_) | (with_reducible refine thenQ_panic ?_) | (with_reducible refine blockQ_panic ?_)); ((repeat ((fail_if_success (refine hK _ _ ?_)); clear hK)); refine hK _ _ ?_; clear hK))
  refine awp_seq_k (fun K hK => ?_)
  refine awp_region tyok ?_
  refine qp ?_
  refine qp ?_
  refine qp ?_
  refine qp ?_
  refine qbsA tyok [spE c, spE d, spE a, spE b] ?_
  ((repeat (first | refine wT ?_ | refine TR.pcall rfl rfl rfl rfl True.intro rfl rfl (c4) ?_ | refine pco rfl rfl rfl rfl rfl rfl rfl rfl (fun _ => c4) ?_)); ((first | refine qal tyok (fun b16 => ?_) | refine qbox (fun b16 => ?_) | refine qboxV (fun b16 => ?_))); (repeat (first | refine wT ?_ | refine qal tyok (fun bx => ?_) | refine qbox (fun bx => ?_) | refine qboxV (fun bx => ?_) | refine TR.pcall rfl rfl rfl rfl True.intro rfl rfl (c4) ?_ | refine pco rfl rfl rfl rfl rfl rfl rfl rfl (fun _ => c4) ?_)))
  (((repeat (first | refine wT ?_ | refine qal tyok (fun bx => ?_) | refine qbox (fun bx => ?_) | refine qboxV (fun bx => ?_)))); repeat (first | (with_reducible refine pQ_normal ?_) | (with_reducible refine thenQ_normal ?_) | (with_reducible refine blockQ_normal ?_) | (with_reducible refine thenQ_exit ?_) | (with_reducible refine blockQ_hit ?_) | refine blockQ_miss rfl ?_ | (with_reducible refine thenQ_ret ?_) | (with_reducible refine blockQ_ret ?_) | (with_reducible refine pQ_panic ?_) | (with_reducible refine thenQ_panic ?_) | (with_reducible refine blockQ_panic ?_)); ((repeat ((fail_if_success (refine hK _ _ ?_)); clear hK)); refine hK _ _ ?_; clear hK))
  repeat (first | refine wKB ?_ | refine awp_seq_k (fun K hK => ?_) | refine qal tyok (fun bx => ?_) | refine qbox (fun bx => ?_) | refine qboxV (fun bx => ?_) | ((repeat ((fail_if_success (refine hK _ _ ?_)); clear hK)); refine hK _ _ ?_; clear hK))
  refine awp_boxSub [] (v' := .agg (ratEs (ratC D))) (Sub.of_eq rfl) ?_
  refine awp_freeze [] (s := 16) rfl rfl ?_
  refine awp_boxSub [] (v' := .agg (ratEs (ratC D))) (Sub.of_eq rfl) ?_
  refine awp_freeze [] (s := 14) rfl rfl ?_
  refine awp_boxSub [] (v' := .agg (ratEs (ratC (0 - X)))) (Sub.of_eq rfl) ?_
  refine awp_freeze [] (s := 12) rfl rfl ?_
  refine awp_boxSub [] (v' := .agg (ratEs (ratC X))) (Sub.of_eq rfl) ?_
  refine awp_freeze [] (s := 10) rfl rfl ?_
  refine awp_weak (T' := [(4, .rptr (spE a)), (5, .rptr (spE b)), (6, .rptr (spE c)), (7, .rptr (spE d)), (9, spots [a, b, c, d]), (10, .rptr (ratEs (ratC X))), (12, .rptr (ratEs (ratC (0 - X)))), (14, .rptr (ratEs (ratC D))), (16, .rptr (ratEs (ratC D)))]) (by (repeat (first | exact True.intro | refine ⟨⟨_, rfl, Sub.refl _⟩, ?_⟩ | refine ⟨⟨_, rfl, Sub.nilso _ _⟩, ?_⟩ | refine ⟨⟨_, rfl, sl_tail _ _ _ _ _⟩, ?_⟩ | refine ⟨⟨_, rfl, Sub.of_eq (by first | rfl | (congr 1; first | omega | (simp only; omega)) | (simp; done) | (simp; omega))⟩, ?_⟩ | refine ⟨⟨_, rfl, Sub.view _ _ _ _⟩, ?_⟩))) ?_
  refine (have hr : ∀ b18 b19 T' H', Weak T' [(4, .rptr (spE a)), (5, .rptr (spE b)), (6, .rptr (spE c)), (7, .rptr (spE d)), (9, spots [a, b, c, d]), (10, .rptr (ratEs (ratC X))), (12, .rptr (ratEs (ratC (0 - X)))), (14, .rptr (ratEs (ratC D))), (16, .rptr (ratEs (ratC D))), (18, .ptr b18 0), (19, .ptr b19 0)] →
    List.Perm H' [.box b18 44 (.agg (qE (qrC X))), .box b19 44 (.agg (qE (qrC D)))] → K T' H' := fun b18 b19 => cutKP hK ?_; ?_)
  rotate_left
  · clear hK
    refine areg_softAllocs mixed tyok [1, 3] [] [0, 1, 2, 3] [4, 5] [6, 7] (by kernel_rfl) (by kernel_rfl) ?_
    repeat (first | refine wK ?_ | refine awp_seq_k (fun K hK => ?_) | refine areg_text mixed tyok (by decide +kernel) ?_ | refine qal tyok (fun bx => ?_) | refine qbox (fun bx => ?_) | refine qboxV (fun bx => ?_) | refine TR.pcall rfl rfl rfl rfl True.intro rfl rfl (f1) ?_ | refine TR.pcall rfl rfl rfl rfl True.intro rfl rfl (f2) ?_ | refine pco rfl rfl rfl rfl rfl rfl rfl rfl (fun _ => f1) ?_ | refine pco rfl rfl rfl rfl rfl rfl rfl rfl (fun _ => f2) ?_ | ((repeat ((fail_if_success (refine hK _ _ ?_)); clear hK)); refine hK _ _ ?_; clear hK))
    intro x hx
    have hx' : x ∈ ([4, 5] : List Nat) := hx
    simp only [List.mem_cons, List.mem_nil_iff, or_false] at hx'
    rcases hx' with rfl | rfl
    · refine one_alloc tyok rfl rfl rfl rfl rfl fun b18 => ?_
      intro x hx
      have hx' : x ∈ ([5] : List Nat) := hx
      simp only [List.mem_cons, List.mem_nil_iff, or_false] at hx'
      subst hx'
      refine one_alloc tyok rfl rfl rfl rfl rfl fun b19 => ?_
      refine allO_zero ?_
      repeat (first | refine wK ?_ | refine awp_seq_k (fun K hK => ?_) | refine areg_text mixed tyok (by decide +kernel) ?_ | refine qal tyok (fun bx => ?_) | refine qbox (fun bx => ?_) | refine qboxV (fun bx => ?_) | ((repeat ((fail_if_success (refine hK _ _ ?_)); clear hK)); refine hK _ _ ?_; clear hK))
      refine hr b18 b19 _ _ (by (repeat (first | exact True.intro | refine ⟨⟨_, rfl, Sub.refl _⟩, ?_⟩ | refine ⟨⟨_, rfl, Sub.nilso _ _⟩, ?_⟩ | refine ⟨⟨_, rfl, sl_tail _ _ _ _ _⟩, ?_⟩ | refine ⟨⟨_, rfl, Sub.of_eq (by first | rfl | (congr 1; first | omega | (simp only; omega)) | (simp; done) | (simp; omega))⟩, ?_⟩ | refine ⟨⟨_, rfl, Sub.view _ _ _ _⟩, ?_⟩))) ?_
      first | exact List.Perm.refl _ | exact List.Perm.swap _ _ _
    · refine one_alloc tyok rfl rfl rfl rfl rfl fun b19 => ?_
      intro x hx
      have hx' : x ∈ ([4] : List Nat) := hx
      simp only [List.mem_cons, List.mem_nil_iff, or_false] at hx'
      subst hx'
      refine one_alloc tyok rfl rfl rfl rfl rfl fun b18 => ?_
      refine allO_zero ?_
      repeat (first | refine wK ?_ | refine awp_seq_k (fun K hK => ?_) | refine areg_text mixed tyok (by decide +kernel) ?_ | refine qal tyok (fun bx => ?_) | refine qbox (fun bx => ?_) | refine qboxV (fun bx => ?_) | ((repeat ((fail_if_success (refine hK _ _ ?_)); clear hK)); refine hK _ _ ?_; clear hK))
      refine hr b18 b19 _ _ (by (repeat (first | exact True.intro | refine ⟨⟨_, rfl, Sub.refl _⟩, ?_⟩ | refine ⟨⟨_, rfl, Sub.nilso _ _⟩, ?_⟩ | refine ⟨⟨_, rfl, sl_tail _ _ _ _ _⟩, ?_⟩ | refine ⟨⟨_, rfl, Sub.of_eq (by first | rfl | (congr 1; first | omega | (simp only; omega)) | (simp; done) | (simp; omega))⟩, ?_⟩ | refine ⟨⟨_, rfl, Sub.view _ _ _ _⟩, ?_⟩))) ?_
      first | exact List.Perm.refl _ | exact List.Perm.swap _ _ _
  clear hK
  refine awp_freeze [] (s := 18) rfl rfl ?_
  refine awp_freeze [] (s := 19) rfl rfl ?_
  repeat (first | refine wKB ?_ | refine awp_seq_k (fun K hK => ?_) | refine qal tyok (fun bx => ?_) | refine qbox (fun bx => ?_) | refine qboxV (fun bx => ?_) | ((repeat ((fail_if_success (refine hK _ _ ?_)); clear hK)); refine hK _ _ ?_; clear hK))
  refine areg_soft mixed tyok [1, 3, 4, 5, 10] [] (List.range 13) (by decide +kernel) ?_
  ((repeat (first | refine wKB ?_ | refine awp_seq_k (fun K hK => ?_) | refine areg_text mixed tyok (by decide +kernel) ?_ | refine TR.pcall rfl rfl rfl rfl True.intro rfl rfl (k0) ?_ | refine TR.pcall rfl rfl rfl rfl True.intro rfl rfl (k1) ?_ | refine TR.pcall rfl rfl rfl rfl True.intro rfl rfl (k2) ?_ | refine TR.pcall rfl rfl rfl rfl True.intro rfl rfl (k3) ?_ | refine TR.pcall rfl rfl rfl rfl True.intro rfl rfl (k4) ?_ | refine TR.pcall rfl rfl rfl rfl True.intro rfl rfl (c5) ?_ | refine pco rfl rfl rfl rfl rfl rfl rfl rfl (fun _ => k0) ?_ | refine pco rfl rfl rfl rfl rfl rfl rfl rfl (fun _ => k1) ?_ | refine pco rfl rfl rfl rfl rfl rfl rfl rfl (fun _ => k2) ?_ | refine pco rfl rfl rfl rfl rfl rfl rfl rfl (fun _ => k3) ?_ | refine pco rfl rfl rfl rfl rfl rfl rfl rfl (fun _ => k4) ?_ | refine pco rfl rfl rfl rfl rfl rfl rfl rfl (fun _ => c5) ?_ | ((repeat ((fail_if_success (refine hK _ _ ?_)); clear hK)); refine hK _ _ ?_; clear hK))); ((first | refine qal tyok (fun b20 => ?_) | refine qbox (fun b20 => ?_) | refine qboxV (fun b20 => ?_))))
  (((repeat (first | refine wT ?_ | refine qal tyok (fun bx => ?_) | refine qbox (fun bx => ?_) | refine qboxV (fun bx => ?_)))); repeat (first | (with_reducible refine pQ_normal ?_) | (with_reducible refine thenQ_normal ?_) | (with_reducible refine blockQ_normal ?_) | (with_reducible refine thenQ_exit ?_) | (with_reducible refine blockQ_hit ?_) | refine blockQ_miss rfl ?_ | (with_reducible refine thenQ_ret ?_) | (with_reducible refine blockQ_ret ?_) | (with_reducible refine pQ_panic ?_) | (with_reducible refine thenQ_panic ?_) | (with_reducible refine blockQ_panic ?_)); ((repeat ((fail_if_success (refine hK _ _ ?_)); clear hK)); refine hK _ _ ?_; clear hK))
  ((repeat (first | refine wKB ?_ | refine awp_seq_k (fun K hK => ?_) | refine areg_text mixed tyok (by decide +kernel) ?_ | refine TR.pcall rfl rfl rfl rfl True.intro rfl rfl (c6) ?_ | refine pco rfl rfl rfl rfl rfl rfl rfl rfl (fun _ => c6) ?_ | ((repeat ((fail_if_success (refine hK _ _ ?_)); clear hK)); refine hK _ _ ?_; clear hK))); ((first | refine qal tyok (fun b21 => ?_) | refine qbox (fun b21 => ?_) | refine qboxV (fun b21 => ?_))))
  (((repeat (first | refine wT ?_ | refine qal tyok (fun bx => ?_) | refine qbox (fun bx => ?_) | refine qboxV (fun bx => ?_)))); repeat (first | (with_reducible refine pQ_normal ?_) | (with_reducible refine thenQ_normal ?_) | (with_reducible refine blockQ_normal ?_) | (with_reducible refine thenQ_exit ?_) | (with_reducible refine blockQ_hit ?_) | refine blockQ_miss rfl ?_ | (with_reducible refine thenQ_ret ?_) | (with_reducible refine blockQ_ret ?_) | (with_reducible refine pQ_panic ?_) | (with_reducible refine thenQ_panic ?_) | (with_reducible refine blockQ_panic ?_)); ((repeat ((fail_if_success (refine hK _ _ ?_)); clear hK)); refine hK _ _ ?_; clear hK))
  refine awp_seq_k (fun K hK => ?_)
  refine awp_region tyok ?_
  refine qp ?_
  refine qp ?_
  refine qp ?_
  refine qp ?_
  refine qbsA tyok [spE a, spE b, spE a, spE b] ?_
  ((repeat (first | refine wT ?_ | refine TR.pcall rfl rfl rfl rfl True.intro rfl rfl (c7) ?_ | refine pco rfl rfl rfl rfl rfl rfl rfl rfl (fun _ => c7) ?_)); ((first | refine qal tyok (fun b22 => ?_) | refine qbox (fun b22 => ?_) | refine qboxV (fun b22 => ?_))); (repeat (first | refine wT ?_ | refine qal tyok (fun bx => ?_) | refine qbox (fun bx => ?_) | refine qboxV (fun bx => ?_) | refine TR.pcall rfl rfl rfl rfl True.intro rfl rfl (c7) ?_ | refine pco rfl rfl rfl rfl rfl rfl rfl rfl (fun _ => c7) ?_)))
  (((repeat (first | refine wT ?_ | refine qal tyok (fun bx => ?_) | refine qbox (fun bx => ?_) | refine qboxV (fun bx => ?_)))); repeat (first | (with_reducible refine pQ_normal ?_) | (with_reducible refine thenQ_normal ?_) | (with_reducible refine blockQ_normal ?_) | (with_reducible refine thenQ_exit ?_) | (with_reducible refine blockQ_hit ?_) | refine blockQ_miss rfl ?_ | (with_reducible refine thenQ_ret ?_) | (with_reducible refine blockQ_ret ?_) | (with_reducible refine pQ_panic ?_) | (with_reducible refine thenQ_panic ?_) | (with_reducible refine blockQ_panic ?_)); ((repeat ((fail_if_success (refine hK _ _ ?_)); clear hK)); refine hK _ _ ?_; clear hK))
  ((repeat (first | refine wKB ?_ | refine awp_seq_k (fun K hK => ?_) | refine areg_text mixed tyok (by decide +kernel) ?_ | refine TR.pcall rfl rfl rfl rfl True.intro rfl rfl (k5) ?_ | refine TR.pcall rfl rfl rfl rfl True.intro rfl rfl (f3) ?_ | refine TR.pcall rfl rfl rfl rfl True.intro rfl rfl (k6) ?_ | refine TR.pcall rfl rfl rfl rfl True.intro rfl rfl (c8) ?_ | refine pco rfl rfl rfl rfl rfl rfl rfl rfl (fun _ => k5) ?_ | refine pco rfl rfl rfl rfl rfl rfl rfl rfl (fun _ => f3) ?_ | refine pco rfl rfl rfl rfl rfl rfl rfl rfl (fun _ => k6) ?_ | refine pco rfl rfl rfl rfl rfl rfl rfl rfl (fun _ => c8) ?_ | ((repeat ((fail_if_success (refine hK _ _ ?_)); clear hK)); refine hK _ _ ?_; clear hK))); ((first | refine qal tyok (fun b23 => ?_) | refine qbox (fun b23 => ?_) | refine qboxV (fun b23 => ?_))))
  (((repeat (first | refine wT ?_ | refine qal tyok (fun bx => ?_) | refine qbox (fun bx => ?_) | refine qboxV (fun bx => ?_)))); repeat (first | (with_reducible refine pQ_normal ?_) | (with_reducible refine thenQ_normal ?_) | (with_reducible refine blockQ_normal ?_) | (with_reducible refine thenQ_exit ?_) | (with_reducible refine blockQ_hit ?_) | refine blockQ_miss rfl ?_ | (with_reducible refine thenQ_ret ?_) | (with_reducible refine blockQ_ret ?_) | (with_reducible refine pQ_panic ?_) | (with_reducible refine thenQ_panic ?_) | (with_reducible refine blockQ_panic ?_)); ((repeat ((fail_if_success (refine hK _ _ ?_)); clear hK)); refine hK _ _ ?_; clear hK))
  refine awp_seq_k (fun K hK => ?_)
  refine awp_region tyok ?_
  refine qp ?_
  refine qp ?_
  refine qp ?_
  refine qp ?_
  refine qbsA tyok [spE a, spE b, spE a, spE c] ?_
  ((repeat (first | refine wT ?_ | refine TR.pcall rfl rfl rfl rfl True.intro rfl rfl (c9) ?_ | refine pco rfl rfl rfl rfl rfl rfl rfl rfl (fun _ => c9) ?_)); ((first | refine qal tyok (fun b24 => ?_) | refine qbox (fun b24 => ?_) | refine qboxV (fun b24 => ?_))); (repeat (first | refine wT ?_ | refine qal tyok (fun bx => ?_) | refine qbox (fun bx => ?_) | refine qboxV (fun bx => ?_) | refine TR.pcall rfl rfl rfl rfl True.intro rfl rfl (c9) ?_ | refine pco rfl rfl rfl rfl rfl rfl rfl rfl (fun _ => c9) ?_)))
  (((repeat (first | refine wT ?_ | refine qal tyok (fun bx => ?_) | refine qbox (fun bx => ?_) | refine qboxV (fun bx => ?_)))); repeat (first | (with_reducible refine pQ_normal ?_) | (with_reducible refine thenQ_normal ?_) | (with_reducible refine blockQ_normal ?_) | (with_reducible refine thenQ_exit ?_) | (with_reducible refine blockQ_hit ?_) | refine blockQ_miss rfl ?_ | (with_reducible refine thenQ_ret ?_) | (with_reducible refine blockQ_ret ?_) | (with_reducible refine pQ_panic ?_) | (with_reducible refine thenQ_panic ?_) | (with_reducible refine blockQ_panic ?_)); ((repeat ((fail_if_success (refine hK _ _ ?_)); clear hK)); refine hK _ _ ?_; clear hK))
  refine awp_boxSub [] (v' := .agg (ratEs (ratC w))) (Sub.of_eq rfl) ?_
  refine awp_freeze [] (s := 24) rfl rfl ?_
  refine awp_boxSub [] (v' := .agg (ratEs (ratC w))) (Sub.of_eq rfl) ?_
  refine awp_freeze [] (s := 23) rfl rfl ?_
  refine awp_boxSub [] (v' := .agg (ratEs (ratC p))) (Sub.of_eq rfl) ?_
  refine awp_freeze [] (s := 22) rfl rfl ?_
  refine awp_boxSub [] (v' := .agg (ratEs (ratC q))) (Sub.of_eq rfl) ?_
  refine awp_freeze [] (s := 21) rfl rfl ?_
  refine awp_boxSub [] (v' := .agg (ratEs (ratC p))) (Sub.of_eq rfl) ?_
  refine awp_freeze [] (s := 20) rfl rfl ?_
  refine awp_weak (T' := [(11, .int .i64 0), (13, .int .i64 0), (18, .rptr (qE (qrC X))), (19, .rptr (qE (qrC D))), (20, .rptr (ratEs (ratC p))), (21, .rptr (ratEs (ratC q))), (23, .rptr (ratEs (ratC w))), (24, .rptr (ratEs (ratC w)))]) (by (repeat (first | exact True.intro | refine ⟨⟨_, rfl, Sub.refl _⟩, ?_⟩ | refine ⟨⟨_, rfl, Sub.nilso _ _⟩, ?_⟩ | refine ⟨⟨_, rfl, sl_tail _ _ _ _ _⟩, ?_⟩ | refine ⟨⟨_, rfl, Sub.of_eq (by first | rfl | (congr 1; first | omega | (simp only; omega)) | (simp; done) | (simp; omega))⟩, ?_⟩ | refine ⟨⟨_, rfl, Sub.view _ _ _ _⟩, ?_⟩))) ?_
  repeat (first | refine wKB ?_ | refine awp_seq_k (fun K hK => ?_) | refine qal tyok (fun bx => ?_) | refine qbox (fun bx => ?_) | refine qboxV (fun bx => ?_) | ((repeat ((fail_if_success (refine hK _ _ ?_)); clear hK)); refine hK _ _ ?_; clear hK))
  refine areg_soft mixed tyok [2, 5, 6] [(7, [])] (List.range 9) (by decide +kernel) ?_
  ((repeat (first | refine wKB ?_ | refine awp_seq_k (fun K hK => ?_) | refine TR.pcall rfl rfl rfl rfl True.intro rfl rfl (m1) ?_ | refine TR.pcall rfl rfl rfl rfl True.intro rfl rfl (m2) ?_ | refine TR.pcall rfl rfl rfl rfl True.intro rfl rfl (m3) ?_ | refine pco rfl rfl rfl rfl rfl rfl rfl rfl (fun _ => m1) ?_ | refine pco rfl rfl rfl rfl rfl rfl rfl rfl (fun _ => m2) ?_ | refine pco rfl rfl rfl rfl rfl rfl rfl rfl (fun _ => m3) ?_ | ((repeat ((fail_if_success (refine hK _ _ ?_)); clear hK)); refine hK _ _ ?_; clear hK))); ((first | refine qal tyok (fun b25 => ?_) | refine qbox (fun b25 => ?_) | refine qboxV (fun b25 => ?_))); (repeat (first | refine wKB ?_ | refine awp_seq_k (fun K hK => ?_) | refine qal tyok (fun bx => ?_) | refine qbox (fun bx => ?_) | refine qboxV (fun bx => ?_) | refine TR.pcall rfl rfl rfl rfl True.intro rfl rfl (m1) ?_ | refine TR.pcall rfl rfl rfl rfl True.intro rfl rfl (m2) ?_ | refine TR.pcall rfl rfl rfl rfl True.intro rfl rfl (m3) ?_ | refine pco rfl rfl rfl rfl rfl rfl rfl rfl (fun _ => m1) ?_ | refine pco rfl rfl rfl rfl rfl rfl rfl rfl (fun _ => m2) ?_ | refine pco rfl rfl rfl rfl rfl rfl rfl rfl (fun _ => m3) ?_ | ((repeat ((fail_if_success (refine hK _ _ ?_)); clear hK)); refine hK _ _ ?_; clear hK))))
  refine awp_boxSub [] (v' := .agg (qE (qrC (p * q)))) (Sub.of_eq rfl) ?_
  refine awp_freeze [] (s := 25) rfl rfl ?_
  refine areg_soft mixed tyok [9, 13, 15, 17, 18, 19, 20, 23] [] (List.range 26) (by decide +kernel) ?_
  repeat (first | refine wKB ?_ | refine awp_seq_k (fun K hK => ?_) | refine areg_text mixed tyok (by decide +kernel) ?_ | refine qal tyok (fun bx => ?_) | refine qbox (fun bx => ?_) | refine qboxV (fun bx => ?_) | refine TR.pcall rfl rfl rfl rfl True.intro rfl rfl (k7) ?_ | refine TR.pcall rfl rfl rfl rfl True.intro rfl rfl (m5) ?_ | refine TR.pcall rfl rfl rfl rfl True.intro rfl rfl (f3) ?_ | refine TR.pcall rfl rfl rfl rfl True.intro rfl rfl (f4) ?_ | refine TR.pcall rfl rfl rfl rfl True.intro rfl rfl (m4) ?_ | refine TR.pcall rfl rfl rfl rfl True.intro rfl rfl (m6) ?_ | refine TR.pcall rfl rfl rfl rfl True.intro rfl rfl (gk) ?_ | refine pco rfl rfl rfl rfl rfl rfl rfl rfl (fun _ => k7) ?_ | refine pco rfl rfl rfl rfl rfl rfl rfl rfl (fun _ => m5) ?_ | refine pco rfl rfl rfl rfl rfl rfl rfl rfl (fun _ => f3) ?_ | refine pco rfl rfl rfl rfl rfl rfl rfl rfl (fun _ => f4) ?_ | refine pco rfl rfl rfl rfl rfl rfl rfl rfl (fun _ => m4) ?_ | refine pco rfl rfl rfl rfl rfl rfl rfl rfl (fun _ => m6) ?_ | refine pco rfl rfl rfl rfl rfl rfl rfl rfl (fun _ => gk) ?_ | ((repeat ((fail_if_success (refine hK _ _ ?_)); clear hK)); refine hK _ _ ?_; clear hK))
  refine r1 ?_
  exact Sub.refl _

theorem senseConditions_c (a b c d : SpotR) (ha : SpotOk reachBytes a) (hb : SpotOk reachBytes b) (hc : SpotOk reachBytes c) (hd : SpotOk reachBytes d) : PCalls Tryz.prog 4 [.agg (spE a), .agg (spE b), .agg (spE c), .agg (spE d)] (.bool true) := senseConditions_w _ a b c d ha hb hc hd

end Go.Proofs.YthfglhjdnpoepaaGreatDoor
