/-
  Layer 25: coord.Of, Name, Find.
-/
import Derived.Test.YtjinaakebjfbiaaGreatDoorCd0
import Derived.Test.YtjinaakebjfbiaaGreatDoorAb30
import Derived.Test.YtjinaakebjfbiaaGreatDoorCa
namespace Go.Proofs.YtjinaakebjfbiaaGreatDoor
open Go.Ab

def cnE (n : Int) : List AV := [.int .i64 n]

theorem manyF_take {l : List StI} {i : Nat} (h : i < l.length) : manyF (l.take (i + 1)) = manyF (l.take i) ++ manyOf (l.getD i default) := by
  unfold manyF
  rw [List.take_succ_eq_append_getElem h, List.flatMap_append, getD_at h]
  simp
theorem manyF_pre (l : List StI) (i : Nat) : (manyF (l.take i)).length ≤ (manyF l).length := by
  have e : manyF l = manyF (l.take i) ++ manyF (l.drop i) := by
    unfold manyF
    rw [← List.flatMap_append, List.take_append_drop]
  rw [e, List.length_append]
  omega

theorem cbEqn : Callable Tryz.prog 41 := fun _ _ => by kernel_rfl
set_option maxHeartbeats 3200000 in
set_option maxRecDepth 100000 in
theorem coordEqs_c (l : List StI) (hl : l.length ≤ 10000000000000000) (hA : ∀ x ∈ l, x.args.length ≤ 10000000000000000) (hn : (manyF l).length ≤ 1000000) : PCalls Tryz.prog 41 [stmtsI l] (sl cnE 1 (manyF l) .view) := by
  refine pcalls_of_awp tyok cbEqn Tryz.func41 rfl rfl ?_
  repeat (first | refine wK ?_ | refine awp_seq_k (fun K hK => ?_) | refine areg_text mixed tyok (by decide +kernel) ?_ | refine qal tyok (fun bx => ?_) | refine qbox (fun bx => ?_) | refine qboxV (fun bx => ?_) | ((repeat ((fail_if_success (refine hK _ _ ?_)); clear hK)); refine hK _ _ ?_; clear hK))
  refine awp_tok0 1 3 ?_
  refine awp_loop0 (ι := { y : Nat × List Int × Option Addr × Nat // y.1 ≤ l.length ∧ y.2.1 = manyF (l.take y.1) })
    (fun y => [(2, sl cnE 1 y.1.2.1 (.own y.1.2.2.1 y.1.2.2.2)), (7, stmtsI l), (8, .int .i64 l.length), (9, .int .i64 y.1.1)])
    (fun y => [.tok y.1.2.2.1 y.1.2.2.2 y.1.2.1.length 1 3]) (fun y => l.length - y.1.1) ⟨(0, [], none, 0), Nat.zero_le _, rfl⟩ (by (repeat (first | exact True.intro | refine ⟨⟨_, rfl, Sub.refl _⟩, ?_⟩ | refine ⟨⟨_, rfl, Sub.nilso _ _⟩, ?_⟩ | refine ⟨⟨_, rfl, sl_tail _ _ _ _ _⟩, ?_⟩ | refine ⟨⟨_, rfl, Sub.of_eq (by first | rfl | (congr 1; first | omega | (simp only; omega)) | (simp; done) | (simp; omega))⟩, ?_⟩ | refine ⟨⟨_, rfl, Sub.view _ _ _ _⟩, ?_⟩))) (by (first | exact ⟨0, rfl⟩ | exact ⟨1, rfl⟩ | exact ⟨2, rfl⟩ | exact ⟨3, rfl⟩ | exact ⟨4, rfl⟩)) ?_
  rintro ⟨⟨i, xs, a, cap⟩, hi, hxs⟩
  simp only at hi hxs ⊢
  by_cases hlt : i < l.length
  · have hlt' : (i : Int) < l.length := by omega
    have hstep := manyF_take hlt
    have hb := manyF_pre l (i + 1)
    rw [hstep, List.length_append] at hb
    rw [← hxs] at hstep hb
    have hx := hA (l.getD i default) (by rw [getD_at hlt]; exact List.getElem_mem hlt)
    ((repeat (first | refine wKB ?_ | refine awp_seq_k (fun K hK => ?_) | refine areg_text mixed tyok (by decide +kernel) ?_ | ((repeat ((fail_if_success (refine hK _ _ ?_)); clear hK)); refine hK _ _ ?_; clear hK))); ((first | refine qal tyok (fun b4 => ?_) | refine qbox (fun b4 => ?_) | refine qboxV (fun b4 => ?_))))
    (((repeat (first | refine wT ?_ | refine qal tyok (fun bx => ?_) | refine qbox (fun bx => ?_) | refine qboxV (fun bx => ?_)))); repeat (first | (with_reducible refine pQ_normal ?_) | (with_reducible refine thenQ_normal ?_) | (with_reducible refine blockQ_normal ?_) | (with_reducible refine thenQ_exit ?_) | (with_reducible refine blockQ_hit ?_) | refine blockQ_miss rfl ?_ | (with_reducible refine thenQ_ret ?_) | (with_reducible refine blockQ_ret ?_) | (with_reducible refine pQ_panic ?_) | (with_reducible refine thenQ_panic ?_) | (with_reducible refine blockQ_panic ?_)); ((repeat ((fail_if_success (refine hK _ _ ?_)); clear hK)); refine hK _ _ ?_; clear hK))
    refine awp_boxSub [] (v' := .agg (stmtEI (l.getD i default))) (Sub.of_eq rfl) ?_
    generalize l.getD i default = x at hstep hb hx ⊢
    by_cases k3 : x.k = 3
    · have e : manyOf x = x.args.map (fun _ => (0 : Int)) := by unfold manyOf; rw [if_pos k3]
      rw [e] at hstep hb
      rw [List.length_map] at hb
      repeat (first | refine wKB ?_ | refine awp_seq_k (fun K hK => ?_) | refine areg_text mixed tyok (by decide +kernel) ?_ | refine qal tyok (fun bx => ?_) | refine qbox (fun bx => ?_) | refine qboxV (fun bx => ?_) | ((repeat ((fail_if_success (refine hK _ _ ?_)); clear hK)); refine hK _ _ ?_; clear hK))
      refine awp_loop0 (ι := { z : Nat × Option Addr × Nat // z.1 ≤ x.args.length })
        (fun z => [(2, sl cnE 1 (xs ++ List.replicate z.1.1 0) (.own z.1.2.1 z.1.2.2)), (7, stmtsI l), (8, .int .i64 l.length), (9, .int .i64 i), (19, .int .i64 x.args.length), (20, .int .i64 z.1.1)])
        (fun z => [.tok z.1.2.1 z.1.2.2 (xs ++ List.replicate z.1.1 (0 : Int)).length 1 3]) (fun z => x.args.length - z.1.1) ⟨(0, a, cap), Nat.zero_le _⟩ ?_ ?_ ?_
      · simp only [List.replicate_zero, List.append_nil]
        (repeat (first | exact True.intro | refine ⟨⟨_, rfl, Sub.refl _⟩, ?_⟩ | refine ⟨⟨_, rfl, Sub.nilso _ _⟩, ?_⟩ | refine ⟨⟨_, rfl, sl_tail _ _ _ _ _⟩, ?_⟩ | refine ⟨⟨_, rfl, Sub.of_eq (by first | rfl | (congr 1; first | omega | (simp only; omega)) | (simp; done) | (simp; omega))⟩, ?_⟩ | refine ⟨⟨_, rfl, Sub.view _ _ _ _⟩, ?_⟩))
      · simp only [List.replicate_zero, List.append_nil]
        exact ⟨1, rfl⟩
      rintro ⟨⟨k, a2, cap2⟩, hk⟩
      simp only at hk ⊢
      by_cases hkl : k < x.args.length
      · have hkl' : (k : Int) < x.args.length := by omega
        repeat (first | refine wKB ?_ | refine awp_seq_k (fun K hK => ?_) | refine areg_text mixed tyok (by decide +kernel) ?_ | refine qal tyok (fun bx => ?_) | refine qbox (fun bx => ?_) | refine qboxV (fun bx => ?_) | ((repeat ((fail_if_success (refine hK _ _ ?_)); clear hK)); refine hK _ _ ?_; clear hK))
        refine qapp tyok cnE (xs ++ List.replicate k 0) 0 (SubL.refl _) ?_ fun ad cp => ?_
        · simp only [List.length_append, List.length_replicate]
          omega
        have er : xs ++ List.replicate k 0 ++ [(0 : Int)] = xs ++ List.replicate (k + 1) 0 := by rw [List.append_assoc, ← List.replicate_succ']
        rw [er]
        repeat (first | refine wKB ?_ | refine awp_seq_k (fun K hK => ?_) | refine areg_text mixed tyok (by decide +kernel) ?_ | refine qal tyok (fun bx => ?_) | refine qbox (fun bx => ?_) | refine qboxV (fun bx => ?_) | ((repeat ((fail_if_success (refine hK _ _ ?_)); clear hK)); refine hK _ _ ?_; clear hK))
        exact ⟨⟨(k + 1, ad, cp), hkl⟩, (by (repeat (first | exact True.intro | refine ⟨⟨_, rfl, Sub.refl _⟩, ?_⟩ | refine ⟨⟨_, rfl, Sub.nilso _ _⟩, ?_⟩ | refine ⟨⟨_, rfl, sl_tail _ _ _ _ _⟩, ?_⟩ | refine ⟨⟨_, rfl, Sub.of_eq (by first | rfl | (congr 1; first | omega | (simp only; omega)) | (simp; done) | (simp; omega))⟩, ?_⟩ | refine ⟨⟨_, rfl, Sub.view _ _ _ _⟩, ?_⟩))), (by (first | exact ⟨0, rfl⟩ | exact ⟨1, rfl⟩ | exact ⟨2, rfl⟩ | exact ⟨3, rfl⟩ | exact ⟨4, rfl⟩)), by simp only; omega⟩
      · have hkg : ¬ (k : Int) < x.args.length := by omega
        obtain rfl : k = x.args.length := by omega
        have er : xs ++ List.replicate x.args.length (0 : Int) = manyF (l.take (i + 1)) := by
          rw [hstep, List.map_const']
        rw [er]
        repeat (first | refine wKB ?_ | refine awp_seq_k (fun K hK => ?_) | refine areg_text mixed tyok (by decide +kernel) ?_ | refine qal tyok (fun bx => ?_) | refine qbox (fun bx => ?_) | refine qboxV (fun bx => ?_) | ((repeat ((fail_if_success (refine hK _ _ ?_)); clear hK)); refine hK _ _ ?_; clear hK))
        exact ⟨⟨(i + 1, _, a2, cap2), hlt, rfl⟩, (by (repeat (first | exact True.intro | refine ⟨⟨_, rfl, Sub.refl _⟩, ?_⟩ | refine ⟨⟨_, rfl, Sub.nilso _ _⟩, ?_⟩ | refine ⟨⟨_, rfl, sl_tail _ _ _ _ _⟩, ?_⟩ | refine ⟨⟨_, rfl, Sub.of_eq (by first | rfl | (congr 1; first | omega | (simp only; omega)) | (simp; done) | (simp; omega))⟩, ?_⟩ | refine ⟨⟨_, rfl, Sub.view _ _ _ _⟩, ?_⟩))), (by (first | exact ⟨0, rfl⟩ | exact ⟨1, rfl⟩ | exact ⟨2, rfl⟩ | exact ⟨3, rfl⟩ | exact ⟨4, rfl⟩)), by simp only; omega⟩
    by_cases k4 : x.k = 4
    · have e : manyOf x = [((fig0 (conF x.word.w)).eqs.length : Int)] := by unfold manyOf; rw [if_neg k3, if_pos k4]
      rw [e] at hstep hb
      have g := construction_c x.word.w
      rw [figV_eq] at g
      ((repeat (first | refine wKB ?_ | refine awp_seq_k (fun K hK => ?_) | refine areg_text mixed tyok (by decide +kernel) ?_ | refine TR.pcall rfl rfl rfl rfl True.intro rfl rfl (g) ?_ | refine pco rfl rfl rfl rfl rfl rfl rfl rfl (fun _ => g) ?_ | ((repeat ((fail_if_success (refine hK _ _ ?_)); clear hK)); refine hK _ _ ?_; clear hK))); ((first | refine qal tyok (fun b5 => ?_) | refine qbox (fun b5 => ?_) | refine qboxV (fun b5 => ?_))); (repeat (first | refine wKB ?_ | refine awp_seq_k (fun K hK => ?_) | refine areg_text mixed tyok (by decide +kernel) ?_ | refine qal tyok (fun bx => ?_) | refine qbox (fun bx => ?_) | refine qboxV (fun bx => ?_) | refine TR.pcall rfl rfl rfl rfl True.intro rfl rfl (g) ?_ | refine pco rfl rfl rfl rfl rfl rfl rfl rfl (fun _ => g) ?_ | ((repeat ((fail_if_success (refine hK _ _ ?_)); clear hK)); refine hK _ _ ?_; clear hK))))
      refine qapp tyok cnE xs ((fig0 (conF x.word.w)).eqs.length : Int) (SubL.refl _) ?_ fun ad cp => ?_
      · simp only
        simp only [List.length_cons, List.length_nil] at hb
        omega
      rw [← hstep]
      repeat (first | refine wKB ?_ | refine awp_seq_k (fun K hK => ?_) | refine areg_text mixed tyok (by decide +kernel) ?_ | refine qal tyok (fun bx => ?_) | refine qbox (fun bx => ?_) | refine qboxV (fun bx => ?_) | ((repeat ((fail_if_success (refine hK _ _ ?_)); clear hK)); refine hK _ _ ?_; clear hK))
      exact ⟨⟨(i + 1, _, ad, cp), hlt, rfl⟩, (by (repeat (first | exact True.intro | refine ⟨⟨_, rfl, Sub.refl _⟩, ?_⟩ | refine ⟨⟨_, rfl, Sub.nilso _ _⟩, ?_⟩ | refine ⟨⟨_, rfl, sl_tail _ _ _ _ _⟩, ?_⟩ | refine ⟨⟨_, rfl, Sub.of_eq (by first | rfl | (congr 1; first | omega | (simp only; omega)) | (simp; done) | (simp; omega))⟩, ?_⟩ | refine ⟨⟨_, rfl, Sub.view _ _ _ _⟩, ?_⟩))), (by (first | exact ⟨0, rfl⟩ | exact ⟨1, rfl⟩ | exact ⟨2, rfl⟩ | exact ⟨3, rfl⟩ | exact ⟨4, rfl⟩)), by simp only; omega⟩
    · have e : manyOf x = [] := by unfold manyOf; rw [if_neg k3, if_neg k4]
      rw [e, List.append_nil] at hstep
      repeat (first | refine wKB ?_ | refine awp_seq_k (fun K hK => ?_) | refine areg_text mixed tyok (by decide +kernel) ?_ | refine qal tyok (fun bx => ?_) | refine qbox (fun bx => ?_) | refine qboxV (fun bx => ?_) | ((repeat ((fail_if_success (refine hK _ _ ?_)); clear hK)); refine hK _ _ ?_; clear hK))
      exact ⟨⟨(i + 1, xs, a, cap), hlt, hstep.symm⟩, (by (repeat (first | exact True.intro | refine ⟨⟨_, rfl, Sub.refl _⟩, ?_⟩ | refine ⟨⟨_, rfl, Sub.nilso _ _⟩, ?_⟩ | refine ⟨⟨_, rfl, sl_tail _ _ _ _ _⟩, ?_⟩ | refine ⟨⟨_, rfl, Sub.of_eq (by first | rfl | (congr 1; first | omega | (simp only; omega)) | (simp; done) | (simp; omega))⟩, ?_⟩ | refine ⟨⟨_, rfl, Sub.view _ _ _ _⟩, ?_⟩))), ⟨1, rfl⟩, by simp only; omega⟩
  · have hge : ¬ (i : Int) < l.length := by omega
    obtain rfl : i = l.length := by omega
    rw [List.take_length] at hxs
    subst hxs
    repeat (first | refine wKB ?_ | refine awp_seq_k (fun K hK => ?_) | refine areg_text mixed tyok (by decide +kernel) ?_ | refine qal tyok (fun bx => ?_) | refine qbox (fun bx => ?_) | refine qboxV (fun bx => ?_) | ((repeat ((fail_if_success (refine hK _ _ ?_)); clear hK)); refine hK _ _ ?_; clear hK))
    refine r1 ?_
    exact Sub.view _ _ _ _

/-- A layout that is made: its box, its array. -/
def cdH (bx g : Nat) (nv : AV) (n : Nat) (p v : Int) (xs : List Int) : AHeap := [.box bx 26 (.agg [nv, .mslice g 0 n n, .int .i64 p, .int .i64 v]), rowI g 34 xs]

theorem cbNum25 : Callable Tryz.prog 42 := fun _ _ => by kernel_rfl
set_option maxHeartbeats 1600000 in
set_option maxRecDepth 100000 in
theorem cdNum_c (bx g : Nat) (nv : AV) (n : Nat) (p v : Int) (xs : List Int) (j : Nat) (hj : j < xs.length) (hv : 0 ≤ v ∧ v ≤ 1000000000) :
    ACalls Tryz.prog 42 [.ptr g j, .ptr bx 0] (cdH bx g nv n p v xs) (fun r H' => r = .ret (.tuple []) ∧ H' = cdH bx g nv n p (v + 1) (xs.set j (v + 1))) := by
  refine acalls_of_awp tyok cbNum25 Tryz.func42 rfl rfl ?_
  have e := rowI_put (g := g) (t := 34) (v := v + 1) hj
  unfold cdH
  rw [← e]
  unfold rowI rowM
  repeat (first | refine wKB ?_ | refine awp_seq_k (fun K hK => ?_) | refine areg_text mixed tyok (by decide +kernel) ?_ | refine qal tyok (fun bx => ?_) | refine qbox (fun bx => ?_) | refine qboxV (fun bx => ?_) | ((repeat ((fail_if_success (refine hK _ _ ?_)); clear hK)); refine hK _ _ ?_; clear hK))
  exact fnQ_ret 0 rfl .nil (Sub.refl _) ⟨rfl, rfl⟩

theorem take_one {ms : List Int} {i : Nat} (h : i < ms.length) : ms.take (i + 1) = ms.take i ++ [ms.getD i default] := by
  rw [List.take_succ_eq_append_getElem h, getD_at h]

theorem drop_one {ms : List Int} {i : Nat} (h : i < ms.length) : ms.drop i = ms.getD i default :: ms.drop (i + 1) := by
  rw [List.drop_eq_getElem_cons h, getD_at h]

/-- The cells while the first pass goes on. -/
def mid1 (ms : List Int) (i : Nat) : List Int := cel1 (ms.take i) 0 ++ List.replicate ((ms.length - i) * 2) 0
theorem mid1_len {ms : List Int} {i : Nat} (h : i ≤ ms.length) : (mid1 ms i).length = ms.length * 2 := by
  unfold mid1
  rw [List.length_append, cel1_len, List.length_replicate, List.length_take]
  omega
theorem mid1_zero (ms : List Int) : mid1 ms 0 = List.replicate (ms.length * 2) 0 := by simp [mid1, cel1]
theorem mid1_at {ms : List Int} {i : Nat} (h : i < ms.length) : mid1 ms i = cel1 (ms.take i) 0 ++ 0 :: 0 :: List.replicate ((ms.length - (i + 1)) * 2) 0 := by
  unfold mid1
  rw [show (ms.length - i) * 2 = (ms.length - (i + 1)) * 2 + 1 + 1 by omega, List.replicate_succ, List.replicate_succ]
theorem mid1_next {ms : List Int} {i : Nat} (h : i < ms.length) : mid1 ms (i + 1) = cel1 (ms.take i) 0 ++ (if ms.getD i default < 2 then parN (ms.take i) + 1 else 0) :: (if ms.getD i default < 1 then parN (ms.take i) + 2 else 0) :: List.replicate ((ms.length - (i + 1)) * 2) 0 := by
  unfold mid1
  rw [take_one h, cel1_snoc]
  simp
theorem cel1_at {ms : List Int} {i : Nat} (h : i < ms.length) : (cel1 (ms.take i) 0).length = i * 2 := by
  rw [cel1_len, List.length_take]
  omega

/-- The cells while the second pass goes on. -/
def mid2 (ms : List Int) (i : Nat) : List Int := cel2 (ms.take i) 0 (parN ms) ++ cel1 (ms.drop i) (parN (ms.take i))
theorem mid2_len {ms : List Int} {i : Nat} (h : i ≤ ms.length) : (mid2 ms i).length = ms.length * 2 := by
  unfold mid2
  rw [List.length_append, cel2_len, cel1_len, List.length_take, List.length_drop]
  omega
theorem mid2_zero (ms : List Int) : mid2 ms 0 = mid1 ms ms.length := by simp [mid1, mid2, cel2, parN]
theorem mid2_at {ms : List Int} {i : Nat} (h : i < ms.length) : mid2 ms i = cel2 (ms.take i) 0 (parN ms) ++ (if ms.getD i default < 2 then parN (ms.take i) + 1 else 0) :: (if ms.getD i default < 1 then parN (ms.take i) + 2 else 0) :: cel1 (ms.drop (i + 1)) (parN (ms.take (i + 1))) := by
  unfold mid2
  rw [drop_one h, take_one h, parN_snoc]
  rfl
theorem mid2_next {ms : List Int} {i : Nat} (h : i < ms.length) : mid2 ms (i + 1) = cel2 (ms.take i) 0 (parN ms) ++ (if ms.getD i default < 2 then parN (ms.take i) + 1 else if ms.getD i default = 2 then parN ms + depN (ms.take i) + 1 else 0) ::
    (if ms.getD i default < 1 then parN (ms.take i) + 2 else parN ms + depN (ms.take i) + depA (ms.getD i default)) :: cel1 (ms.drop (i + 1)) (parN (ms.take (i + 1))) := by
  unfold mid2
  rw [take_one h, cel2_snoc]
  simp
theorem cel2_at {ms : List Int} {i : Nat} (h : i < ms.length) (p d : Int) : (cel2 (ms.take i) p d).length = i * 2 := by
  rw [cel2_len, List.length_take]
  omega
theorem mid2_end (ms : List Int) : mid2 ms ms.length = cel2 ms 0 (parN ms) := by simp [mid2, cel1]

theorem cbCdOf : Callable Tryz.prog 14 := fun _ _ => by kernel_rfl
set_option maxHeartbeats 1600000 in
set_option maxRecDepth 100000 in
theorem of_no (l : List StI) (hl : l.length ≤ 10000000000000000) (hA : ∀ x ∈ l, x.args.length ≤ 10000000000000000) (h : (lookF l).e ≠ 0) :
    PCalls Tryz.prog 14 [stmtsI l] (.tuple [.agg [sl txtE 1 [] .view, sl cooE 2 [] .view, .int .i64 0, .int .i64 0], .int .i64 (lookF l).e]) := by
  refine pcalls_of_awp tyok cbCdOf Tryz.func14 rfl rfl ?_
  have g := check_c l hl hA
  ((repeat (first | refine wKB ?_ | refine awp_seq_k (fun K hK => ?_) | refine areg_text mixed tyok (by decide +kernel) ?_ | refine TR.pcall rfl rfl rfl rfl True.intro rfl rfl (g) ?_ | refine pco rfl rfl rfl rfl rfl rfl rfl rfl (fun _ => g) ?_ | ((repeat ((fail_if_success (refine hK _ _ ?_)); clear hK)); refine hK _ _ ?_; clear hK))); ((first | refine qal tyok (fun b2 => ?_) | refine qbox (fun b2 => ?_) | refine qboxV (fun b2 => ?_))); (repeat (first | refine wKB ?_ | refine awp_seq_k (fun K hK => ?_) | refine areg_text mixed tyok (by decide +kernel) ?_ | refine TR.pcall rfl rfl rfl rfl True.intro rfl rfl (g) ?_ | refine pco rfl rfl rfl rfl rfl rfl rfl rfl (fun _ => g) ?_ | ((repeat ((fail_if_success (refine hK _ _ ?_)); clear hK)); refine hK _ _ ?_; clear hK))); ((first | refine qal tyok (fun b4 => ?_) | refine qbox (fun b4 => ?_) | refine qboxV (fun b4 => ?_))); (repeat (first | refine wKB ?_ | refine awp_seq_k (fun K hK => ?_) | refine areg_text mixed tyok (by decide +kernel) ?_ | refine qal tyok (fun bx => ?_) | refine qbox (fun bx => ?_) | refine qboxV (fun bx => ?_) | refine TR.pcall rfl rfl rfl rfl True.intro rfl rfl (g) ?_ | refine pco rfl rfl rfl rfl rfl rfl rfl rfl (fun _ => g) ?_ | ((repeat ((fail_if_success (refine hK _ _ ?_)); clear hK)); refine hK _ _ ?_; clear hK))))
  refine fnQ_ret 2 rfl (.cell rfl rfl (List.mem_of_getElem? (i := 1) rfl) rfl trivial (.tmp rfl .nil)) (Sub.tuple2 (subAgg (.cons (Sub.nilsv _ _) (.cons (Sub.nilsv _ _) (.cons (Sub.refl _) (.cons (Sub.refl _) .nil))))) (Sub.refl _)) ⟨rfl, rfl⟩

set_option maxHeartbeats 6400000 in
set_option maxRecDepth 100000 in
theorem of_c (l : List StI) (hl : l.length ≤ 10000000000000000) (hA : ∀ x ∈ l, x.args.length ≤ 10000000000000000) (h : (lookF l).e = 0) :
    ACalls Tryz.prog 14 [stmtsI l] [] fun r H' => ∃ g, r = .ret (.tuple [.agg [sl txtE 1 (namesF l) .view, .mslice g 0 (manyF l).length (manyF l).length, .int .i64 (parN (manyF l)), .int .i64 (parN (manyF l) + depN (manyF l))], .int .i64 0]) ∧ H' = [rowI g 34 (cel2 (manyF l) 0 (parN (manyF l)))] := by
  refine acalls_of_awp tyok cbCdOf Tryz.func14 rfl rfl ?_
  have g := check_c l hl hA
  obtain ⟨n3, hlk, _, h40, _⟩ := lookF_id h
  rw [h] at g
  have gp := shpoints_c l hl hA
  rw [if_pos h, hlk] at gp
  have hml : (manyF l).length ≤ 40 := by rw [manyF_len]; exact h40
  have ge := coordEqs_c l hl hA (by omega)
  generalize manyF l = ms at hml ge ⊢
  generalize namesF l = ns at gp ⊢
  ((repeat (first | refine wKB ?_ | refine awp_seq_k (fun K hK => ?_) | refine TR.pcall rfl rfl rfl rfl True.intro rfl rfl (g) ?_ | refine TR.pcall rfl rfl rfl rfl True.intro rfl rfl (ge) ?_ | refine pco rfl rfl rfl rfl rfl rfl rfl rfl (fun _ => g) ?_ | refine pco rfl rfl rfl rfl rfl rfl rfl rfl (fun _ => ge) ?_ | ((repeat ((fail_if_success (refine hK _ _ ?_)); clear hK)); refine hK _ _ ?_; clear hK))); ((first | refine qal tyok (fun b2 => ?_) | refine qbox (fun b2 => ?_) | refine qboxV (fun b2 => ?_))); (repeat (first | refine wKB ?_ | refine awp_seq_k (fun K hK => ?_) | refine TR.pcall rfl rfl rfl rfl True.intro rfl rfl (g) ?_ | refine TR.pcall rfl rfl rfl rfl True.intro rfl rfl (ge) ?_ | refine pco rfl rfl rfl rfl rfl rfl rfl rfl (fun _ => g) ?_ | refine pco rfl rfl rfl rfl rfl rfl rfl rfl (fun _ => ge) ?_ | ((repeat ((fail_if_success (refine hK _ _ ?_)); clear hK)); refine hK _ _ ?_; clear hK))); ((first | refine qal tyok (fun b4 => ?_) | refine qbox (fun b4 => ?_) | refine qboxV (fun b4 => ?_))); (repeat (first | refine wKB ?_ | refine awp_seq_k (fun K hK => ?_) | refine qal tyok (fun bx => ?_) | refine qbox (fun bx => ?_) | refine qboxV (fun bx => ?_) | refine TR.pcall rfl rfl rfl rfl True.intro rfl rfl (g) ?_ | refine TR.pcall rfl rfl rfl rfl True.intro rfl rfl (ge) ?_ | refine pco rfl rfl rfl rfl rfl rfl rfl rfl (fun _ => g) ?_ | refine pco rfl rfl rfl rfl rfl rfl rfl rfl (fun _ => ge) ?_ | ((repeat ((fail_if_success (refine hK _ _ ?_)); clear hK)); refine hK _ _ ?_; clear hK))))
  refine (have hr : ∀ b7 g7 T' H', Weak T' [(2, .ptr b2 0), (6, sl cnE 1 ms .view), (7, .ptr b7 0)] →
    List.Perm H' [.box b4 39 (.agg [.int .i64 (lookF l).ln, .int .i64 (lookF l).co]), .box b2 26 (.agg [.nils, .nils, .int .i64 0, .int .i64 0]), .box b7 26 (.agg [sl txtE 1 ns .view, .mslice g7 0 ms.length ms.length, .int .i64 0, .int .i64 0]), rowI g7 34 (List.replicate (ms.length * 2) 0)] → K T' H' := fun b7 g7 => cutKP hK ?_; ?_)
  rotate_left
  · clear hK
    refine areg_any mixed tyok [0, 2, 3] [1, 4, 5, 6] [7] (by decide +kernel) (by decide +kernel) ?_
    repeat (first | refine wK ?_ | refine awp_seq_k (fun K hK => ?_) | refine areg_text mixed tyok (by decide +kernel) ?_ | refine qal tyok (fun bx => ?_) | refine qbox (fun bx => ?_) | refine qboxV (fun bx => ?_) | ((repeat ((fail_if_success (refine hK _ _ ?_)); clear hK)); refine hK _ _ ?_; clear hK))
    intro a ha hrd
    first
      | have ha' : a ∈ ([1, 4, 5, 6] : List Nat) := ha
    simp only [List.mem_cons, List.mem_nil_iff, or_false] at ha'
    rcases ha' with rfl | rfl | rfl | rfl
    all_goals try exact absurd (ancB_spec (by decide +kernel)) (hrd 1 (by decide))
    all_goals try exact absurd (ancB_spec (by decide +kernel)) (hrd 4 (by decide))
    all_goals
      first
        | refine .inl ⟨rfl, one_pcall rfl rfl rfl rfl True.intro rfl rfl gp ?_⟩
        | refine .inl ⟨rfl, one_makeI tyok 2 rfl rfl rfl rfl True.intro rfl rfl rfl rfl (by decide) rfl rfl rfl ⟨show 16 * ms.length ≤ _ by omega, by omega⟩ fun g7 => ?_⟩
        | refine .inl ⟨rfl, one_alloc tyok rfl rfl rfl rfl rfl fun b7 => ?_⟩
        | (refine .inr ⟨rfl, ?_⟩; repeat (first | refine wK ?_ | refine awp_seq_k (fun K hK => ?_) | refine areg_text mixed tyok (by decide +kernel) ?_ | refine qal tyok (fun bx => ?_) | refine qbox (fun bx => ?_) | refine qboxV (fun bx => ?_) | ((repeat ((fail_if_success (refine hK _ _ ?_)); clear hK)); refine hK _ _ ?_; clear hK)))
      intro a ha hrd
      first
        | have ha' : a ∈ ([4, 5, 6] : List Nat) := ha
        | have ha' : a ∈ ([1, 5, 6] : List Nat) := ha
        | have ha' : a ∈ ([1, 4, 5] : List Nat) := ha
      simp only [List.mem_cons, List.mem_nil_iff, or_false] at ha'
      rcases ha' with rfl | rfl | rfl
      all_goals try exact absurd (ancB_spec (by decide +kernel)) (hrd 1 (by decide))
      all_goals try exact absurd (ancB_spec (by decide +kernel)) (hrd 4 (by decide))
      all_goals
        first
          | refine .inl ⟨rfl, one_pcall rfl rfl rfl rfl True.intro rfl rfl gp ?_⟩
          | refine .inl ⟨rfl, one_makeI tyok 2 rfl rfl rfl rfl True.intro rfl rfl rfl rfl (by decide) rfl rfl rfl ⟨show 16 * ms.length ≤ _ by omega, by omega⟩ fun g7 => ?_⟩
          | refine .inl ⟨rfl, one_alloc tyok rfl rfl rfl rfl rfl fun b7 => ?_⟩
          | (refine .inr ⟨rfl, ?_⟩; repeat (first | refine wK ?_ | refine awp_seq_k (fun K hK => ?_) | refine areg_text mixed tyok (by decide +kernel) ?_ | refine qal tyok (fun bx => ?_) | refine qbox (fun bx => ?_) | refine qboxV (fun bx => ?_) | ((repeat ((fail_if_success (refine hK _ _ ?_)); clear hK)); refine hK _ _ ?_; clear hK)))
        intro a ha hrd
        first
          | have ha' : a ∈ ([5, 6] : List Nat) := ha
          | have ha' : a ∈ ([4, 5] : List Nat) := ha
          | have ha' : a ∈ ([1, 5] : List Nat) := ha
          | have ha' : a ∈ ([1, 6] : List Nat) := ha
          | have ha' : a ∈ ([4, 6] : List Nat) := ha
        simp only [List.mem_cons, List.mem_nil_iff, or_false] at ha'
        rcases ha' with rfl | rfl
        all_goals try exact absurd (ancB_spec (by decide +kernel)) (hrd 1 (by decide))
        all_goals try exact absurd (ancB_spec (by decide +kernel)) (hrd 4 (by decide))
        all_goals
          first
            | refine .inl ⟨rfl, one_pcall rfl rfl rfl rfl True.intro rfl rfl gp ?_⟩
            | refine .inl ⟨rfl, one_makeI tyok 2 rfl rfl rfl rfl True.intro rfl rfl rfl rfl (by decide) rfl rfl rfl ⟨show 16 * ms.length ≤ _ by omega, by omega⟩ fun g7 => ?_⟩
            | refine .inl ⟨rfl, one_alloc tyok rfl rfl rfl rfl rfl fun b7 => ?_⟩
            | (refine .inr ⟨rfl, ?_⟩; repeat (first | refine wK ?_ | refine awp_seq_k (fun K hK => ?_) | refine areg_text mixed tyok (by decide +kernel) ?_ | refine qal tyok (fun bx => ?_) | refine qbox (fun bx => ?_) | refine qboxV (fun bx => ?_) | ((repeat ((fail_if_success (refine hK _ _ ?_)); clear hK)); refine hK _ _ ?_; clear hK)))
          intro a ha hrd
          first
            | have ha' : a ∈ ([6] : List Nat) := ha
            | have ha' : a ∈ ([5] : List Nat) := ha
          simp only [List.mem_cons, List.mem_nil_iff, or_false] at ha'
          subst ha'
          first
            | refine .inl ⟨rfl, one_pcall rfl rfl rfl rfl True.intro rfl rfl gp ?_⟩
            | refine .inl ⟨rfl, one_makeI tyok 2 rfl rfl rfl rfl True.intro rfl rfl rfl rfl (by decide) rfl rfl rfl ⟨show 16 * ms.length ≤ _ by omega, by omega⟩ fun g7 => ?_⟩
            | refine .inl ⟨rfl, one_alloc tyok rfl rfl rfl rfl rfl fun b7 => ?_⟩
            | (refine .inr ⟨rfl, ?_⟩; repeat (first | refine wK ?_ | refine awp_seq_k (fun K hK => ?_) | refine areg_text mixed tyok (by decide +kernel) ?_ | refine qal tyok (fun bx => ?_) | refine qbox (fun bx => ?_) | refine qboxV (fun bx => ?_) | ((repeat ((fail_if_success (refine hK _ _ ?_)); clear hK)); refine hK _ _ ?_; clear hK)))
          refine allx_zero ?_
          repeat (first | refine wK ?_ | refine awp_seq_k (fun K hK => ?_) | refine areg_text mixed tyok (by decide +kernel) ?_ | refine qal tyok (fun bx => ?_) | refine qbox (fun bx => ?_) | refine qboxV (fun bx => ?_) | ((repeat ((fail_if_success (refine hK _ _ ?_)); clear hK)); refine hK _ _ ?_; clear hK))
          refine hr b7 g7 _ _ ?_ ?_
          · (repeat (first | exact True.intro | refine ⟨⟨_, rfl, Sub.refl _⟩, ?_⟩ | refine ⟨⟨_, rfl, Sub.nilso _ _⟩, ?_⟩ | refine ⟨⟨_, rfl, sl_tail _ _ _ _ _⟩, ?_⟩ | refine ⟨⟨_, rfl, Sub.of_eq (by first | rfl | (congr 1; first | omega | (simp only; omega)) | (simp; done) | (simp; omega))⟩, ?_⟩ | refine ⟨⟨_, rfl, Sub.view _ _ _ _⟩, ?_⟩))
          · first
              | exact List.perm_append_comm (l₁ := [_, _]) (l₂ := [_, _])
              | exact (List.perm_append_comm (l₁ := [_, _]) (l₂ := [_, _])).trans (.cons _ (.cons _ (.swap _ _ _)))
  clear hK
  have hnum : ∀ (p v : Int) (xs : List Int) (j : Nat), j < xs.length → 0 ≤ v ∧ v ≤ 1000000000 → ACalls Tryz.prog 42 [.ptr g7 j, .ptr b7 0] (cdH b7 g7 (sl txtE 1 ns .view) ms.length p v xs) (fun r H' => r = .ret (.tuple []) ∧ H' = cdH b7 g7 (sl txtE 1 ns .view) ms.length p (v + 1) (xs.set j (v + 1))) :=
    fun p v xs j hj hv => cdNum_c b7 g7 _ _ p v xs j hj hv
  repeat (first | refine wKB ?_ | refine awp_seq_k (fun K hK => ?_) | refine areg_text mixed tyok (by decide +kernel) ?_ | refine qal tyok (fun bx => ?_) | refine qbox (fun bx => ?_) | refine qboxV (fun bx => ?_) | ((repeat ((fail_if_success (refine hK _ _ ?_)); clear hK)); refine hK _ _ ?_; clear hK))
  refine awp_loop0 (ι := { i : Nat // i ≤ ms.length })
    (fun i => [(2, .ptr b2 0), (6, sl cnE 1 ms .view), (7, .ptr b7 0), (8, .func (.func 42) [] [.ptr b7 0]), (31, sl cnE 1 ms .view), (32, .int .i64 ms.length), (33, .int .i64 i.1)])
    (fun i => .box b2 26 (.agg [.nils, .nils, .int .i64 0, .int .i64 0]) :: cdH b7 g7 (sl txtE 1 ns .view) ms.length 0 (parN (ms.take i.1)) (mid1 ms i.1)) (fun i => ms.length - i.1) ⟨0, Nat.zero_le _⟩ (by (repeat (first | exact True.intro | refine ⟨⟨_, rfl, Sub.refl _⟩, ?_⟩ | refine ⟨⟨_, rfl, Sub.nilso _ _⟩, ?_⟩ | refine ⟨⟨_, rfl, sl_tail _ _ _ _ _⟩, ?_⟩ | refine ⟨⟨_, rfl, Sub.of_eq (by first | rfl | (congr 1; first | omega | (simp only; omega)) | (simp; done) | (simp; omega))⟩, ?_⟩ | refine ⟨⟨_, rfl, Sub.view _ _ _ _⟩, ?_⟩))) ⟨1, by rw [mid1_zero]; rfl⟩ ?_
  rintro ⟨i, hi⟩
  simp only at hi ⊢
  by_cases hlt : i < ms.length
  · have hlt' : (i : Int) < ms.length := by omega
    have hpb := parN_bd (ms.take i)
    have htl : (ms.take i).length ≤ 40 := by rw [List.length_take]; omega
    have hm1 := mid1_len (ms := ms) (i := i) hi
    have hat := mid1_at hlt
    have hnx := mid1_next hlt
    have hpn : parN (ms.take (i + 1)) = parN (ms.take i) + parA (ms.getD i default) := by rw [take_one hlt, parN_snoc]
    have hcl := cel1_at hlt
    have hni : ms.getD ((i : Int)).toNat default = ms.getD i default := rfl
    generalize hn : ms.getD i default = n at hnx hpn hni
    generalize cel1 (ms.take i) 0 = A at hat hnx hcl
    generalize List.replicate ((ms.length - (i + 1)) * 2) (0 : Int) = R at hat hnx
    generalize parN (ms.take i) = p at hpb hnx hpn ⊢
    by_cases c2 : n < 2
    · have c2' : ms.getD ((i : Int)).toNat default < 2 := by omega
      have es : (mid1 ms i).set (0 + ((i : Int)).toNat * 2 + 0) (p + 1) = A ++ (p + 1) :: 0 :: R := by
        rw [hat]
        exact set_one (by omega)
      have hc1 := hnum 0 p (mid1 ms i) (0 + ((i : Int)).toNat * 2 + 0) (by omega) ⟨by omega, by omega⟩
      rw [es] at hc1
      by_cases c1 : n < 1
      · have c1' : ms.getD ((i : Int)).toNat default < 1 := by omega
        have es2 : (A ++ (p + 1) :: 0 :: R).set (0 + ((i : Int)).toNat * 2 + 1) (p + 1 + 1) = A ++ (p + 1) :: (p + 1 + 1) :: R := set_two (by omega)
        have hl2 : 0 + ((i : Int)).toNat * 2 + 1 < (A ++ (p + 1) :: 0 :: R).length := by
          rw [List.length_append, List.length_cons, List.length_cons]
          omega
        have hc2 := hnum 0 (p + 1) (A ++ (p + 1) :: 0 :: R) (0 + ((i : Int)).toNat * 2 + 1) hl2 ⟨by omega, by omega⟩
        rw [es2] at hc2
        have e1 : cdH b7 g7 (sl txtE 1 ns .view) ms.length 0 (parN (ms.take (i + 1))) (mid1 ms (i + 1)) = cdH b7 g7 (sl txtE 1 ns .view) ms.length 0 (p + 1 + 1) (A ++ (p + 1) :: (p + 1 + 1) :: R) := by
          rw [hnx, hpn, if_pos c2, if_pos c1, parA, if_pos c2, if_pos c1, show p + (1 + 1) = p + 1 + 1 by omega, show p + 2 = p + 1 + 1 by omega]
        unfold cdH at hc1 hc2
        repeat (first | refine wKB ?_ | refine awp_seq_k (fun K hK => ?_) | refine areg_text mixed tyok (by decide +kernel) ?_ | refine qal tyok (fun bx => ?_) | refine qbox (fun bx => ?_) | refine qboxV (fun bx => ?_) | ((repeat ((fail_if_success (refine hK _ _ ?_)); clear hK)); refine hK _ _ ?_; clear hK))
        refine qiaM tyok ?_
        repeat (first | refine wKB ?_ | refine awp_seq_k (fun K hK => ?_) | refine areg_text mixed tyok (by decide +kernel) ?_ | refine qal tyok (fun bx => ?_) | refine qbox (fun bx => ?_) | refine qboxV (fun bx => ?_) | ((repeat ((fail_if_success (refine hK _ _ ?_)); clear hK)); refine hK _ _ ?_; clear hK))
        refine qcallH (G := [_]) hc1 ?_
        repeat (first | refine wKB ?_ | refine awp_seq_k (fun K hK => ?_) | refine areg_text mixed tyok (by decide +kernel) ?_ | refine qal tyok (fun bx => ?_) | refine qbox (fun bx => ?_) | refine qboxV (fun bx => ?_) | ((repeat ((fail_if_success (refine hK _ _ ?_)); clear hK)); refine hK _ _ ?_; clear hK))
        refine qiaM tyok ?_
        repeat (first | refine wKB ?_ | refine awp_seq_k (fun K hK => ?_) | refine areg_text mixed tyok (by decide +kernel) ?_ | refine qal tyok (fun bx => ?_) | refine qbox (fun bx => ?_) | refine qboxV (fun bx => ?_) | ((repeat ((fail_if_success (refine hK _ _ ?_)); clear hK)); refine hK _ _ ?_; clear hK))
        refine qcallH (G := [_]) hc2 ?_
        repeat (first | refine wKB ?_ | refine awp_seq_k (fun K hK => ?_) | refine areg_text mixed tyok (by decide +kernel) ?_ | refine qal tyok (fun bx => ?_) | refine qbox (fun bx => ?_) | refine qboxV (fun bx => ?_) | ((repeat ((fail_if_success (refine hK _ _ ?_)); clear hK)); refine hK _ _ ?_; clear hK))
        exact ⟨⟨i + 1, hlt⟩, (by (repeat (first | exact True.intro | refine ⟨⟨_, rfl, Sub.refl _⟩, ?_⟩ | refine ⟨⟨_, rfl, Sub.nilso _ _⟩, ?_⟩ | refine ⟨⟨_, rfl, sl_tail _ _ _ _ _⟩, ?_⟩ | refine ⟨⟨_, rfl, Sub.of_eq (by first | rfl | (congr 1; first | omega | (simp only; omega)) | (simp; done) | (simp; omega))⟩, ?_⟩ | refine ⟨⟨_, rfl, Sub.view _ _ _ _⟩, ?_⟩))), ⟨0, congrArg (_ :: ·) e1.symm⟩, by simp only; omega⟩
      · have c1' : ¬ ms.getD ((i : Int)).toNat default < 1 := by omega
        have e1 : cdH b7 g7 (sl txtE 1 ns .view) ms.length 0 (parN (ms.take (i + 1))) (mid1 ms (i + 1)) = cdH b7 g7 (sl txtE 1 ns .view) ms.length 0 (p + 1) (A ++ (p + 1) :: 0 :: R) := by
          rw [hnx, hpn, if_pos c2, if_neg c1, parA, if_pos c2, if_neg c1, show p + (1 + 0) = p + 1 by omega]
        unfold cdH at hc1
        repeat (first | refine wKB ?_ | refine awp_seq_k (fun K hK => ?_) | refine areg_text mixed tyok (by decide +kernel) ?_ | refine qal tyok (fun bx => ?_) | refine qbox (fun bx => ?_) | refine qboxV (fun bx => ?_) | ((repeat ((fail_if_success (refine hK _ _ ?_)); clear hK)); refine hK _ _ ?_; clear hK))
        refine qiaM tyok ?_
        repeat (first | refine wKB ?_ | refine awp_seq_k (fun K hK => ?_) | refine areg_text mixed tyok (by decide +kernel) ?_ | refine qal tyok (fun bx => ?_) | refine qbox (fun bx => ?_) | refine qboxV (fun bx => ?_) | ((repeat ((fail_if_success (refine hK _ _ ?_)); clear hK)); refine hK _ _ ?_; clear hK))
        refine qcallH (G := [_]) hc1 ?_
        repeat (first | refine wKB ?_ | refine awp_seq_k (fun K hK => ?_) | refine areg_text mixed tyok (by decide +kernel) ?_ | refine qal tyok (fun bx => ?_) | refine qbox (fun bx => ?_) | refine qboxV (fun bx => ?_) | ((repeat ((fail_if_success (refine hK _ _ ?_)); clear hK)); refine hK _ _ ?_; clear hK))
        exact ⟨⟨i + 1, hlt⟩, (by (repeat (first | exact True.intro | refine ⟨⟨_, rfl, Sub.refl _⟩, ?_⟩ | refine ⟨⟨_, rfl, Sub.nilso _ _⟩, ?_⟩ | refine ⟨⟨_, rfl, sl_tail _ _ _ _ _⟩, ?_⟩ | refine ⟨⟨_, rfl, Sub.of_eq (by first | rfl | (congr 1; first | omega | (simp only; omega)) | (simp; done) | (simp; omega))⟩, ?_⟩ | refine ⟨⟨_, rfl, Sub.view _ _ _ _⟩, ?_⟩))), ⟨0, congrArg (_ :: ·) e1.symm⟩, by simp only; omega⟩
    · have c2' : ¬ ms.getD ((i : Int)).toNat default < 2 := by omega
      have c1' : ¬ ms.getD ((i : Int)).toNat default < 1 := by omega
      have e1 : cdH b7 g7 (sl txtE 1 ns .view) ms.length 0 (parN (ms.take (i + 1))) (mid1 ms (i + 1)) = cdH b7 g7 (sl txtE 1 ns .view) ms.length 0 p (mid1 ms i) := by
        rw [hnx, hpn, if_neg c2, if_neg (show ¬ n < 1 by omega), parA, if_neg c2, if_neg (show ¬ n < 1 by omega), hat, show p + (0 + 0) = p by omega]
      repeat (first | refine wKB ?_ | refine awp_seq_k (fun K hK => ?_) | refine areg_text mixed tyok (by decide +kernel) ?_ | refine qal tyok (fun bx => ?_) | refine qbox (fun bx => ?_) | refine qboxV (fun bx => ?_) | ((repeat ((fail_if_success (refine hK _ _ ?_)); clear hK)); refine hK _ _ ?_; clear hK))
      exact ⟨⟨i + 1, hlt⟩, (by (repeat (first | exact True.intro | refine ⟨⟨_, rfl, Sub.refl _⟩, ?_⟩ | refine ⟨⟨_, rfl, Sub.nilso _ _⟩, ?_⟩ | refine ⟨⟨_, rfl, sl_tail _ _ _ _ _⟩, ?_⟩ | refine ⟨⟨_, rfl, Sub.of_eq (by first | rfl | (congr 1; first | omega | (simp only; omega)) | (simp; done) | (simp; omega))⟩, ?_⟩ | refine ⟨⟨_, rfl, Sub.view _ _ _ _⟩, ?_⟩))), ⟨0, congrArg (_ :: ·) e1.symm⟩, by simp only; omega⟩
  have hge : ¬ (i : Int) < ms.length := by omega
  obtain rfl : i = ms.length := by omega
  rw [List.take_length, ← mid2_zero]
  unfold cdH
  repeat (first | refine wKB ?_ | refine awp_seq_k (fun K hK => ?_) | refine areg_text mixed tyok (by decide +kernel) ?_ | refine qal tyok (fun bx => ?_) | refine qbox (fun bx => ?_) | refine qboxV (fun bx => ?_) | ((repeat ((fail_if_success (refine hK _ _ ?_)); clear hK)); refine hK _ _ ?_; clear hK))
  refine awp_loop0 (ι := { i : Nat // i ≤ ms.length })
    (fun i => [(2, .ptr b2 0), (6, sl cnE 1 ms .view), (7, .ptr b7 0), (8, .func (.func 42) [] [.ptr b7 0]), (60, sl cnE 1 ms .view), (61, .int .i64 ms.length), (62, .int .i64 i.1)])
    (fun i => .box b2 26 (.agg [.nils, .nils, .int .i64 0, .int .i64 0]) :: cdH b7 g7 (sl txtE 1 ns .view) ms.length (parN ms) (parN ms + depN (ms.take i.1)) (mid2 ms i.1)) (fun i => ms.length - i.1) ⟨0, Nat.zero_le _⟩ (by (repeat (first | exact True.intro | refine ⟨⟨_, rfl, Sub.refl _⟩, ?_⟩ | refine ⟨⟨_, rfl, Sub.nilso _ _⟩, ?_⟩ | refine ⟨⟨_, rfl, sl_tail _ _ _ _ _⟩, ?_⟩ | refine ⟨⟨_, rfl, Sub.of_eq (by first | rfl | (congr 1; first | omega | (simp only; omega)) | (simp; done) | (simp; omega))⟩, ?_⟩ | refine ⟨⟨_, rfl, Sub.view _ _ _ _⟩, ?_⟩))) ⟨0, ?_⟩ ?_
  · have e0 : parN ms + depN (ms.take 0) = parN ms := by simp [depN]
    simp only
    rw [e0]
    rfl
  have hPb := parN_bd ms
  rintro ⟨i, hi⟩
  simp only at hi ⊢
  by_cases hlt : i < ms.length
  · have hlt' : (i : Int) < ms.length := by omega
    have hpb := depN_bd (ms.take i)
    have htl : (ms.take i).length ≤ 40 := by rw [List.length_take]; omega
    have hm1 := mid2_len (ms := ms) (i := i) hi
    have hat := mid2_at hlt
    have hnx := mid2_next hlt
    have hpn : depN (ms.take (i + 1)) = depN (ms.take i) + depA (ms.getD i default) := by rw [take_one hlt, depN_snoc]
    have hcl := cel2_at hlt 0 (parN ms)
    have hni : ms.getD ((i : Int)).toNat default = ms.getD i default := rfl
    generalize hn : ms.getD i default = n at hat hnx hpn hni
    generalize cel2 (ms.take i) 0 (parN ms) = A at hat hnx hcl
    generalize cel1 (ms.drop (i + 1)) (parN (ms.take (i + 1))) = R at hat hnx
    generalize depN (ms.take i) = d at hpb hnx hpn ⊢
    generalize parN (ms.take i) = p at hat hnx
    generalize parN ms = P at hPb hat hnx ⊢
    by_cases c2 : n = 2
    · have c2' : ms.getD ((i : Int)).toNat default = 2 := by omega
      have c1' : ms.getD ((i : Int)).toNat default ≥ 1 := by omega
      rw [if_neg (show ¬ n < 2 by omega), if_neg (show ¬ n < 1 by omega)] at hat
      rw [if_neg (show ¬ n < 2 by omega), if_neg (show ¬ n < 1 by omega), if_pos c2] at hnx
      have es : (mid2 ms i).set (0 + ((i : Int)).toNat * 2 + 0) (P + d + 1) = A ++ (P + d + 1) :: 0 :: R := by
        rw [hat]
        exact set_one (by omega)
      have hc1 := hnum P (P + d) (mid2 ms i) (0 + ((i : Int)).toNat * 2 + 0) (by omega) ⟨by omega, by omega⟩
      rw [es] at hc1
      have es2 : (A ++ (P + d + 1) :: 0 :: R).set (0 + ((i : Int)).toNat * 2 + 1) (P + d + 1 + 1) = A ++ (P + d + 1) :: (P + d + 1 + 1) :: R := set_two (by omega)
      have hl2 : 0 + ((i : Int)).toNat * 2 + 1 < (A ++ (P + d + 1) :: 0 :: R).length := by
        rw [List.length_append, List.length_cons, List.length_cons]
        omega
      have hc2 := hnum P (P + d + 1) (A ++ (P + d + 1) :: 0 :: R) (0 + ((i : Int)).toNat * 2 + 1) hl2 ⟨by omega, by omega⟩
      rw [es2] at hc2
      have e1 : cdH b7 g7 (sl txtE 1 ns .view) ms.length P (P + depN (ms.take (i + 1))) (mid2 ms (i + 1)) = cdH b7 g7 (sl txtE 1 ns .view) ms.length P (P + d + 1 + 1) (A ++ (P + d + 1) :: (P + d + 1 + 1) :: R) := by
        rw [hnx, hpn, depA, if_pos c2, if_pos (show 1 ≤ n by omega), show P + (d + (1 + 1)) = P + d + 1 + 1 by omega, show P + d + (1 + 1) = P + d + 1 + 1 by omega]
      unfold cdH at hc1 hc2 ⊢
      repeat (first | refine wKB ?_ | refine awp_seq_k (fun K hK => ?_) | refine areg_text mixed tyok (by decide +kernel) ?_ | refine qal tyok (fun bx => ?_) | refine qbox (fun bx => ?_) | refine qboxV (fun bx => ?_) | ((repeat ((fail_if_success (refine hK _ _ ?_)); clear hK)); refine hK _ _ ?_; clear hK))
      refine qiaM tyok ?_
      repeat (first | refine wKB ?_ | refine awp_seq_k (fun K hK => ?_) | refine areg_text mixed tyok (by decide +kernel) ?_ | refine qal tyok (fun bx => ?_) | refine qbox (fun bx => ?_) | refine qboxV (fun bx => ?_) | ((repeat ((fail_if_success (refine hK _ _ ?_)); clear hK)); refine hK _ _ ?_; clear hK))
      refine qcallH (G := [_]) hc1 ?_
      repeat (first | refine wKB ?_ | refine awp_seq_k (fun K hK => ?_) | refine areg_text mixed tyok (by decide +kernel) ?_ | refine qal tyok (fun bx => ?_) | refine qbox (fun bx => ?_) | refine qboxV (fun bx => ?_) | ((repeat ((fail_if_success (refine hK _ _ ?_)); clear hK)); refine hK _ _ ?_; clear hK))
      refine qiaM tyok ?_
      repeat (first | refine wKB ?_ | refine awp_seq_k (fun K hK => ?_) | refine areg_text mixed tyok (by decide +kernel) ?_ | refine qal tyok (fun bx => ?_) | refine qbox (fun bx => ?_) | refine qboxV (fun bx => ?_) | ((repeat ((fail_if_success (refine hK _ _ ?_)); clear hK)); refine hK _ _ ?_; clear hK))
      refine qcallH (G := [_]) hc2 ?_
      repeat (first | refine wKB ?_ | refine awp_seq_k (fun K hK => ?_) | refine areg_text mixed tyok (by decide +kernel) ?_ | refine qal tyok (fun bx => ?_) | refine qbox (fun bx => ?_) | refine qboxV (fun bx => ?_) | ((repeat ((fail_if_success (refine hK _ _ ?_)); clear hK)); refine hK _ _ ?_; clear hK))
      exact ⟨⟨i + 1, hlt⟩, (by (repeat (first | exact True.intro | refine ⟨⟨_, rfl, Sub.refl _⟩, ?_⟩ | refine ⟨⟨_, rfl, Sub.nilso _ _⟩, ?_⟩ | refine ⟨⟨_, rfl, sl_tail _ _ _ _ _⟩, ?_⟩ | refine ⟨⟨_, rfl, Sub.of_eq (by first | rfl | (congr 1; first | omega | (simp only; omega)) | (simp; done) | (simp; omega))⟩, ?_⟩ | refine ⟨⟨_, rfl, Sub.view _ _ _ _⟩, ?_⟩))), ⟨0, congrArg (_ :: ·) e1.symm⟩, by simp only; omega⟩
    by_cases c1 : n < 1
    · have c2' : ¬ ms.getD ((i : Int)).toNat default = 2 := by omega
      have c1' : ¬ ms.getD ((i : Int)).toNat default ≥ 1 := by omega
      rw [if_pos (show n < 2 by omega), if_pos c1] at hat hnx
      have e1 : cdH b7 g7 (sl txtE 1 ns .view) ms.length P (P + depN (ms.take (i + 1))) (mid2 ms (i + 1)) = cdH b7 g7 (sl txtE 1 ns .view) ms.length P (P + d) (mid2 ms i) := by
        rw [hnx, hpn, hat, depA, if_neg c2, if_neg (show ¬ 1 ≤ n by omega), show P + (d + (0 + 0)) = P + d by omega]
      unfold cdH
      repeat (first | refine wKB ?_ | refine awp_seq_k (fun K hK => ?_) | refine areg_text mixed tyok (by decide +kernel) ?_ | refine qal tyok (fun bx => ?_) | refine qbox (fun bx => ?_) | refine qboxV (fun bx => ?_) | ((repeat ((fail_if_success (refine hK _ _ ?_)); clear hK)); refine hK _ _ ?_; clear hK))
      exact ⟨⟨i + 1, hlt⟩, (by (repeat (first | exact True.intro | refine ⟨⟨_, rfl, Sub.refl _⟩, ?_⟩ | refine ⟨⟨_, rfl, Sub.nilso _ _⟩, ?_⟩ | refine ⟨⟨_, rfl, sl_tail _ _ _ _ _⟩, ?_⟩ | refine ⟨⟨_, rfl, Sub.of_eq (by first | rfl | (congr 1; first | omega | (simp only; omega)) | (simp; done) | (simp; omega))⟩, ?_⟩ | refine ⟨⟨_, rfl, Sub.view _ _ _ _⟩, ?_⟩))), ⟨0, congrArg (_ :: ·) e1.symm⟩, by simp only; omega⟩
    · have c2' : ¬ ms.getD ((i : Int)).toNat default = 2 := by omega
      have c1' : ms.getD ((i : Int)).toNat default ≥ 1 := by omega
      rw [if_neg c1] at hat hnx
      rw [if_neg c2] at hnx
      have es : (mid2 ms i).set (0 + ((i : Int)).toNat * 2 + 1) (P + d + 1) = A ++ (if n < 2 then p + 1 else 0) :: (P + d + 1) :: R := by
        rw [hat]
        exact set_two (by omega)
      have hc1 := hnum P (P + d) (mid2 ms i) (0 + ((i : Int)).toNat * 2 + 1) (by omega) ⟨by omega, by omega⟩
      rw [es] at hc1
      have e1 : cdH b7 g7 (sl txtE 1 ns .view) ms.length P (P + depN (ms.take (i + 1))) (mid2 ms (i + 1)) = cdH b7 g7 (sl txtE 1 ns .view) ms.length P (P + d + 1) (A ++ (if n < 2 then p + 1 else 0) :: (P + d + 1) :: R) := by
        rw [hnx, hpn, depA, if_neg c2, if_pos (show 1 ≤ n by omega), show P + (d + (0 + 1)) = P + d + 1 by omega, show P + d + (0 + 1) = P + d + 1 by omega]
      unfold cdH at hc1 ⊢
      repeat (first | refine wKB ?_ | refine awp_seq_k (fun K hK => ?_) | refine areg_text mixed tyok (by decide +kernel) ?_ | refine qal tyok (fun bx => ?_) | refine qbox (fun bx => ?_) | refine qboxV (fun bx => ?_) | ((repeat ((fail_if_success (refine hK _ _ ?_)); clear hK)); refine hK _ _ ?_; clear hK))
      refine qiaM tyok ?_
      repeat (first | refine wKB ?_ | refine awp_seq_k (fun K hK => ?_) | refine areg_text mixed tyok (by decide +kernel) ?_ | refine qal tyok (fun bx => ?_) | refine qbox (fun bx => ?_) | refine qboxV (fun bx => ?_) | ((repeat ((fail_if_success (refine hK _ _ ?_)); clear hK)); refine hK _ _ ?_; clear hK))
      refine qcallH (G := [_]) hc1 ?_
      repeat (first | refine wKB ?_ | refine awp_seq_k (fun K hK => ?_) | refine areg_text mixed tyok (by decide +kernel) ?_ | refine qal tyok (fun bx => ?_) | refine qbox (fun bx => ?_) | refine qboxV (fun bx => ?_) | ((repeat ((fail_if_success (refine hK _ _ ?_)); clear hK)); refine hK _ _ ?_; clear hK))
      exact ⟨⟨i + 1, hlt⟩, (by (repeat (first | exact True.intro | refine ⟨⟨_, rfl, Sub.refl _⟩, ?_⟩ | refine ⟨⟨_, rfl, Sub.nilso _ _⟩, ?_⟩ | refine ⟨⟨_, rfl, sl_tail _ _ _ _ _⟩, ?_⟩ | refine ⟨⟨_, rfl, Sub.of_eq (by first | rfl | (congr 1; first | omega | (simp only; omega)) | (simp; done) | (simp; omega))⟩, ?_⟩ | refine ⟨⟨_, rfl, Sub.view _ _ _ _⟩, ?_⟩))), ⟨0, congrArg (_ :: ·) e1.symm⟩, by simp only; omega⟩
  have hge : ¬ (i : Int) < ms.length := by omega
  obtain rfl : i = ms.length := by omega
  rw [List.take_length, mid2_end]
  unfold cdH
  repeat (first | refine wKB ?_ | refine awp_seq_k (fun K hK => ?_) | refine areg_text mixed tyok (by decide +kernel) ?_ | refine qal tyok (fun bx => ?_) | refine qbox (fun bx => ?_) | refine qboxV (fun bx => ?_) | ((repeat ((fail_if_success (refine hK _ _ ?_)); clear hK)); refine hK _ _ ?_; clear hK))
  refine fnQ_ret 2 rfl (.cell rfl rfl (List.mem_of_getElem? (i := 0) rfl) rfl trivial (.tmp rfl .nil)) (Sub.refl _) ⟨g7, rfl, rfl⟩

end Go.Proofs.YtjinaakebjfbiaaGreatDoor
