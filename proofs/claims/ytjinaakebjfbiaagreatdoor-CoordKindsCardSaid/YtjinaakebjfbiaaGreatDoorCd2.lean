/-
  Layer 25: coord.Of for who reads it only; Name, Find; what law 25 knows.
-/
import Derived.Test.YtjinaakebjfbiaaGreatDoorCd1
import Derived.Test.YtjinaakebjfbiaaGreatDoorShK
import Derived.Test.YtjinaakebjfbiaaGreatDoorRsM
namespace Go.Proofs.YtjinaakebjfbiaaGreatDoor
open Go.Ab

def layV (ns : List (List UInt8)) (cs : List (Int × Int)) (p v : Int) : AV := .agg [sl txtE 1 ns .view, sl cooE 2 cs .view, .int .i64 p, .int .i64 v]

theorem of_view (l : List StI) (hl : l.length ≤ 10000000000000000) (hA : ∀ x ∈ l, x.args.length ≤ 10000000000000000) (h : (lookF l).e = 0) :
    PCalls Tryz.prog 14 [stmtsI l] (.tuple [layV (namesF l) (pairsC (cel2 (manyF l) 0 (parN (manyF l)))) (parN (manyF l)) (parN (manyF l) + depN (manyF l)), .int .i64 0]) := by
  refine ACalls.frozen (of_c l hl hA h) fun g => SubH.tuple rfl fun j v v' h1 h2 => ?_
  match j, h1, h2 with
  | 0, h1, h2 =>
    cases h1
    cases h2
    refine SubH.agg rfl fun j v v' h1 h2 => ?_
    match j, h1, h2 with
    | 0, h1, h2 => cases h1; cases h2; exact SubH.rfl' _
    | 1, h1, h2 => cases h1; cases h2; exact rowI_view (cel2_len _ _ _)
    | 2, h1, h2 => cases h1; cases h2; exact SubH.rfl' _
    | 3, h1, h2 => cases h1; cases h2; exact SubH.rfl' _
    | j + 4, h1, _ => cases h1
  | 1, h1, h2 => cases h1; cases h2; exact SubH.rfl' _
  | j + 2, h1, _ => cases h1

theorem drop_at {α : Type} [Inhabited α] {l : List α} {i : Nat} (h : i < l.length) : l.drop i = l.getD i default :: l.drop (i + 1) := by
  rw [List.drop_eq_getElem_cons h, getD_at h]

theorem nameF_short (ns : List (List UInt8)) (cs : List (Int × Int)) (v : Int) (h : ns = [] ∨ cs = []) : nameF ns cs v = [] := by
  rcases h with rfl | rfl
  · cases cs <;> rfl
  · cases ns <;> rfl
theorem findF_short (ns : List (List UInt8)) (cs : List (Int × Int)) (w : List UInt8) (h : ns = [] ∨ cs = []) : findF ns cs w = 0 := by
  rcases h with rfl | rfl
  · cases cs <;> rfl
  · cases ns <;> rfl

theorem cbName : Callable Tryz.prog 17 := fun _ _ => by kernel_rfl
set_option maxHeartbeats 3200000 in
set_option maxRecDepth 100000 in
theorem name_c (ns : List (List UInt8)) (cs : List (Int × Int)) (p q v : Int) (hn : ns.length ≤ 1000000000000) (_hc : cs.length ≤ 1000000000000) (hw : ∀ x ∈ ns, x.length ≤ 1000000000000000) : PCalls Tryz.prog 17 [layV ns cs p q, .int .i64 v] (.str (nameF ns cs v)) := by
  refine pcalls_of_awp tyok cbName Tryz.func17 rfl rfl ?_
  unfold layV
  ((repeat (first | refine wK ?_ | refine awp_seq_k (fun K hK => ?_) | refine areg_text mixed tyok (by decide +kernel) ?_ | ((repeat ((fail_if_success (refine hK _ _ ?_)); clear hK)); refine hK _ _ ?_; clear hK))); ((first | refine qal tyok (fun b2 => ?_) | refine qbox (fun b2 => ?_) | refine qboxV (fun b2 => ?_))))
  (((repeat (first | refine wT ?_ | refine qal tyok (fun bx => ?_) | refine qbox (fun bx => ?_) | refine qboxV (fun bx => ?_)))); repeat (first | (with_reducible refine pQ_normal ?_) | (with_reducible refine thenQ_normal ?_) | (with_reducible refine blockQ_normal ?_) | (with_reducible refine thenQ_exit ?_) | (with_reducible refine blockQ_hit ?_) | refine blockQ_miss rfl ?_ | (with_reducible refine thenQ_ret ?_) | (with_reducible refine blockQ_ret ?_) | (with_reducible refine pQ_panic ?_) | (with_reducible refine thenQ_panic ?_) | (with_reducible refine blockQ_panic ?_)); ((repeat ((fail_if_success (refine hK _ _ ?_)); clear hK)); refine hK _ _ ?_; clear hK))
  refine awp_freeze [] (s := 2) rfl rfl ?_
  repeat (first | refine wKB ?_ | refine awp_seq_k (fun K hK => ?_) | refine areg_text mixed tyok (by decide +kernel) ?_ | refine qal tyok (fun bx => ?_) | refine qbox (fun bx => ?_) | refine qboxV (fun bx => ?_) | ((repeat ((fail_if_success (refine hK _ _ ?_)); clear hK)); refine hK _ _ ?_; clear hK))
  have hmin : (if (cs.length : Int) < ns.length then (cs.length : Int) else ns.length) = ((min ns.length cs.length : Nat) : Int) := by
    split <;> omega
  refine awp_loop0 (ι := { i : Nat // i ≤ min ns.length cs.length ∧ nameF (ns.drop i) (cs.drop i) v = nameF ns cs v })
    (fun i => [(2, .rptr [sl txtE 1 ns .view, sl cooE 2 cs .view, .int .i64 p, .int .i64 q]), (1, .int .i64 v), (12, .int .i64 (min ns.length cs.length : Nat)), (13, .int .i64 i.1)])
    (fun _ => []) (fun i => min ns.length cs.length - i.1) ⟨0, Nat.zero_le _, rfl⟩ ?_ (by (first | exact ⟨0, rfl⟩ | exact ⟨1, rfl⟩ | exact ⟨2, rfl⟩ | exact ⟨3, rfl⟩ | exact ⟨4, rfl⟩)) ?_
  · exact ⟨⟨_, rfl, Sub.refl _⟩, ⟨_, rfl, Sub.refl _⟩, ⟨_, rfl, Sub.of_eq (congrArg (AV.int .i64) hmin)⟩, ⟨_, rfl, Sub.refl _⟩, True.intro⟩
  rintro ⟨i, hi, hf⟩
  simp only at hi hf ⊢
  by_cases hlt : i < min ns.length cs.length
  · have hlt' : (i : Int) < ((min ns.length cs.length : Nat) : Int) := by omega
    have h1 : i < ns.length := by omega
    have h2 : i < cs.length := by omega
    have h1' : (i : Int) < ns.length := by omega
    have h2' : (i : Int) < cs.length := by omega
    rw [drop_at h1, drop_at h2, nameF] at hf
    have hwl := hw (ns.getD i default) (by rw [getD_at h1]; exact List.getElem_mem h1)
    have hwl' : (ns.getD ((i : Int)).toNat default).length ≤ 1000000000000000 := hwl
    have hm1 : ({ data := #[120] } : ByteArray).data.toList.length = 1 := rfl
    have hm2 : ({ data := #[121] } : ByteArray).data.toList.length = 1 := rfl
    by_cases c1 : v = (cs.getD i default).1
    · have c1' : v = (cs.getD ((i : Int)).toNat default).1 := c1
      rw [if_pos c1] at hf
      repeat (first | refine wKB ?_ | refine awp_seq_k (fun K hK => ?_) | refine areg_text mixed tyok (by decide +kernel) ?_ | refine qal tyok (fun bx => ?_) | refine qbox (fun bx => ?_) | refine qboxV (fun bx => ?_) | ((repeat ((fail_if_success (refine hK _ _ ?_)); clear hK)); refine hK _ _ ?_; clear hK))
      refine r1 ?_
      exact Sub.of_eq (by rw [← hf]; rfl)
    have c1' : ¬ v = (cs.getD ((i : Int)).toNat default).1 := c1
    rw [if_neg c1] at hf
    by_cases c2 : v = (cs.getD i default).2
    · have c2' : v = (cs.getD ((i : Int)).toNat default).2 := c2
      rw [if_pos c2] at hf
      repeat (first | refine wKB ?_ | refine awp_seq_k (fun K hK => ?_) | refine areg_text mixed tyok (by decide +kernel) ?_ | refine qal tyok (fun bx => ?_) | refine qbox (fun bx => ?_) | refine qboxV (fun bx => ?_) | ((repeat ((fail_if_success (refine hK _ _ ?_)); clear hK)); refine hK _ _ ?_; clear hK))
      refine r1 ?_
      exact Sub.of_eq (by rw [← hf]; rfl)
    have c2' : ¬ v = (cs.getD ((i : Int)).toNat default).2 := c2
    rw [if_neg c2] at hf
    repeat (first | refine wKB ?_ | refine awp_seq_k (fun K hK => ?_) | refine areg_text mixed tyok (by decide +kernel) ?_ | refine qal tyok (fun bx => ?_) | refine qbox (fun bx => ?_) | refine qboxV (fun bx => ?_) | ((repeat ((fail_if_success (refine hK _ _ ?_)); clear hK)); refine hK _ _ ?_; clear hK))
    exact ⟨⟨i + 1, hlt, hf⟩, (by (repeat (first | exact True.intro | refine ⟨⟨_, rfl, Sub.refl _⟩, ?_⟩ | refine ⟨⟨_, rfl, Sub.nilso _ _⟩, ?_⟩ | refine ⟨⟨_, rfl, sl_tail _ _ _ _ _⟩, ?_⟩ | refine ⟨⟨_, rfl, Sub.of_eq (by first | rfl | (congr 1; first | omega | (simp only; omega)) | (simp; done) | (simp; omega))⟩, ?_⟩ | refine ⟨⟨_, rfl, Sub.view _ _ _ _⟩, ?_⟩))), (by (first | exact ⟨0, rfl⟩ | exact ⟨1, rfl⟩ | exact ⟨2, rfl⟩ | exact ⟨3, rfl⟩ | exact ⟨4, rfl⟩)), by simp only; omega⟩
  · have hge : ¬ (i : Int) < ((min ns.length cs.length : Nat) : Int) := by omega
    have he : nameF (ns.drop i) (cs.drop i) v = [] := by
      refine nameF_short _ _ _ ?_
      by_cases h : ns.length ≤ cs.length
      · exact .inl (List.drop_eq_nil_of_le (by omega))
      · exact .inr (List.drop_eq_nil_of_le (by omega))
    repeat (first | refine wKB ?_ | refine awp_seq_k (fun K hK => ?_) | refine areg_text mixed tyok (by decide +kernel) ?_ | refine qal tyok (fun bx => ?_) | refine qbox (fun bx => ?_) | refine qboxV (fun bx => ?_) | ((repeat ((fail_if_success (refine hK _ _ ?_)); clear hK)); refine hK _ _ ?_; clear hK))
    refine r1 ?_
    exact Sub.of_eq (by rw [← hf, he])

theorem cbFind : Callable Tryz.prog 19 := fun _ _ => by kernel_rfl
set_option maxHeartbeats 3200000 in
set_option maxRecDepth 100000 in
theorem find_c (ns : List (List UInt8)) (cs : List (Int × Int)) (p q : Int) (w : List UInt8) (hn : ns.length ≤ 1000000000000) (_hc : cs.length ≤ 1000000000000) (hw : ∀ x ∈ ns, x.length ≤ 1000000000000000) : PCalls Tryz.prog 19 [layV ns cs p q, .str w] (.int .i64 (findF ns cs w)) := by
  refine pcalls_of_awp tyok cbFind Tryz.func19 rfl rfl ?_
  unfold layV
  ((repeat (first | refine wK ?_ | refine awp_seq_k (fun K hK => ?_) | refine areg_text mixed tyok (by decide +kernel) ?_ | ((repeat ((fail_if_success (refine hK _ _ ?_)); clear hK)); refine hK _ _ ?_; clear hK))); ((first | refine qal tyok (fun b2 => ?_) | refine qbox (fun b2 => ?_) | refine qboxV (fun b2 => ?_))))
  (((repeat (first | refine wT ?_ | refine qal tyok (fun bx => ?_) | refine qbox (fun bx => ?_) | refine qboxV (fun bx => ?_)))); repeat (first | (with_reducible refine pQ_normal ?_) | (with_reducible refine thenQ_normal ?_) | (with_reducible refine blockQ_normal ?_) | (with_reducible refine thenQ_exit ?_) | (with_reducible refine blockQ_hit ?_) | refine blockQ_miss rfl ?_ | (with_reducible refine thenQ_ret ?_) | (with_reducible refine blockQ_ret ?_) | (with_reducible refine pQ_panic ?_) | (with_reducible refine thenQ_panic ?_) | (with_reducible refine blockQ_panic ?_)); ((repeat ((fail_if_success (refine hK _ _ ?_)); clear hK)); refine hK _ _ ?_; clear hK))
  refine awp_freeze [] (s := 2) rfl rfl ?_
  repeat (first | refine wKB ?_ | refine awp_seq_k (fun K hK => ?_) | refine areg_text mixed tyok (by decide +kernel) ?_ | refine qal tyok (fun bx => ?_) | refine qbox (fun bx => ?_) | refine qboxV (fun bx => ?_) | ((repeat ((fail_if_success (refine hK _ _ ?_)); clear hK)); refine hK _ _ ?_; clear hK))
  have hmin : (if (cs.length : Int) < ns.length then (cs.length : Int) else ns.length) = ((min ns.length cs.length : Nat) : Int) := by
    split <;> omega
  refine awp_loop0 (ι := { i : Nat // i ≤ min ns.length cs.length ∧ findF (ns.drop i) (cs.drop i) w = findF ns cs w })
    (fun i => [(2, .rptr [sl txtE 1 ns .view, sl cooE 2 cs .view, .int .i64 p, .int .i64 q]), (1, .str w), (12, .int .i64 (min ns.length cs.length : Nat)), (13, .int .i64 i.1)])
    (fun _ => []) (fun i => min ns.length cs.length - i.1) ⟨0, Nat.zero_le _, rfl⟩ ?_ (by (first | exact ⟨0, rfl⟩ | exact ⟨1, rfl⟩ | exact ⟨2, rfl⟩ | exact ⟨3, rfl⟩ | exact ⟨4, rfl⟩)) ?_
  · exact ⟨⟨_, rfl, Sub.refl _⟩, ⟨_, rfl, Sub.refl _⟩, ⟨_, rfl, Sub.of_eq (congrArg (AV.int .i64) hmin)⟩, ⟨_, rfl, Sub.refl _⟩, True.intro⟩
  rintro ⟨i, hi, hf⟩
  simp only at hi hf ⊢
  by_cases hlt : i < min ns.length cs.length
  · have hlt' : (i : Int) < ((min ns.length cs.length : Nat) : Int) := by omega
    have h1 : i < ns.length := by omega
    have h2 : i < cs.length := by omega
    have h1' : (i : Int) < ns.length := by omega
    have h2' : (i : Int) < cs.length := by omega
    rw [drop_at h1, drop_at h2, findF] at hf
    have hwl := hw (ns.getD i default) (by rw [getD_at h1]; exact List.getElem_mem h1)
    have hwl' : (ns.getD ((i : Int)).toNat default).length ≤ 1000000000000000 := hwl
    have hm1 : ({ data := #[120] } : ByteArray).data.toList.length = 1 := rfl
    have hm2 : ({ data := #[121] } : ByteArray).data.toList.length = 1 := rfl
    by_cases c1 : w = 120 :: ns.getD i default
    · rw [if_pos c1] at hf
      repeat (first | refine wKB ?_ | refine awp_seq_k (fun K hK => ?_) | refine areg_text mixed tyok (by decide +kernel) ?_ | refine qal tyok (fun bx => ?_) | refine qbox (fun bx => ?_) | refine qboxV (fun bx => ?_) | ((repeat ((fail_if_success (refine hK _ _ ?_)); clear hK)); refine hK _ _ ?_; clear hK))
      refine awp_cond rfl (fun _ => ?_) (fun hb => absurd ((beq_iff_eq.2 c1).symm.trans (show (w == 120 :: ns.getD i default) = false from hb)) (by decide))
      repeat (first | refine wKB ?_ | refine awp_seq_k (fun K hK => ?_) | refine areg_text mixed tyok (by decide +kernel) ?_ | refine qal tyok (fun bx => ?_) | refine qbox (fun bx => ?_) | refine qboxV (fun bx => ?_) | ((repeat ((fail_if_success (refine hK _ _ ?_)); clear hK)); refine hK _ _ ?_; clear hK))
      refine r1 ?_
      exact Sub.of_eq (by rw [← hf]; rfl)
    rw [if_neg c1] at hf
    by_cases c2 : w = 121 :: ns.getD i default
    · rw [if_pos c2] at hf
      repeat (first | refine wKB ?_ | refine awp_seq_k (fun K hK => ?_) | refine areg_text mixed tyok (by decide +kernel) ?_ | refine qal tyok (fun bx => ?_) | refine qbox (fun bx => ?_) | refine qboxV (fun bx => ?_) | ((repeat ((fail_if_success (refine hK _ _ ?_)); clear hK)); refine hK _ _ ?_; clear hK))
      refine awp_cond rfl (fun hb => absurd (beq_iff_eq.1 hb) c1) (fun _ => ?_)
      repeat (first | refine wKB ?_ | refine awp_seq_k (fun K hK => ?_) | refine areg_text mixed tyok (by decide +kernel) ?_ | refine qal tyok (fun bx => ?_) | refine qbox (fun bx => ?_) | refine qboxV (fun bx => ?_) | ((repeat ((fail_if_success (refine hK _ _ ?_)); clear hK)); refine hK _ _ ?_; clear hK))
      refine awp_cond rfl (fun _ => ?_) (fun hb => absurd ((beq_iff_eq.2 c2).symm.trans (show (w == 121 :: ns.getD i default) = false from hb)) (by decide))
      repeat (first | refine wKB ?_ | refine awp_seq_k (fun K hK => ?_) | refine areg_text mixed tyok (by decide +kernel) ?_ | refine qal tyok (fun bx => ?_) | refine qbox (fun bx => ?_) | refine qboxV (fun bx => ?_) | ((repeat ((fail_if_success (refine hK _ _ ?_)); clear hK)); refine hK _ _ ?_; clear hK))
      refine r1 ?_
      exact Sub.of_eq (by rw [← hf]; rfl)
    rw [if_neg c2] at hf
    repeat (first | refine wKB ?_ | refine awp_seq_k (fun K hK => ?_) | refine areg_text mixed tyok (by decide +kernel) ?_ | refine qal tyok (fun bx => ?_) | refine qbox (fun bx => ?_) | refine qboxV (fun bx => ?_) | ((repeat ((fail_if_success (refine hK _ _ ?_)); clear hK)); refine hK _ _ ?_; clear hK))
    refine awp_cond rfl (fun hb => absurd (beq_iff_eq.1 hb) c1) (fun _ => ?_)
    repeat (first | refine wKB ?_ | refine awp_seq_k (fun K hK => ?_) | refine areg_text mixed tyok (by decide +kernel) ?_ | refine qal tyok (fun bx => ?_) | refine qbox (fun bx => ?_) | refine qboxV (fun bx => ?_) | ((repeat ((fail_if_success (refine hK _ _ ?_)); clear hK)); refine hK _ _ ?_; clear hK))
    refine awp_cond rfl (fun hb => absurd (beq_iff_eq.1 hb) c2) (fun _ => ?_)
    repeat (first | refine wKB ?_ | refine awp_seq_k (fun K hK => ?_) | refine areg_text mixed tyok (by decide +kernel) ?_ | refine qal tyok (fun bx => ?_) | refine qbox (fun bx => ?_) | refine qboxV (fun bx => ?_) | ((repeat ((fail_if_success (refine hK _ _ ?_)); clear hK)); refine hK _ _ ?_; clear hK))
    exact ⟨⟨i + 1, hlt, hf⟩, (by (repeat (first | exact True.intro | refine ⟨⟨_, rfl, Sub.refl _⟩, ?_⟩ | refine ⟨⟨_, rfl, Sub.nilso _ _⟩, ?_⟩ | refine ⟨⟨_, rfl, sl_tail _ _ _ _ _⟩, ?_⟩ | refine ⟨⟨_, rfl, Sub.of_eq (by first | rfl | (congr 1; first | omega | (simp only; omega)) | (simp; done) | (simp; omega))⟩, ?_⟩ | refine ⟨⟨_, rfl, Sub.view _ _ _ _⟩, ?_⟩))), (by (first | exact ⟨0, rfl⟩ | exact ⟨1, rfl⟩ | exact ⟨2, rfl⟩ | exact ⟨3, rfl⟩ | exact ⟨4, rfl⟩)), by simp only; omega⟩
  · have hge : ¬ (i : Int) < ((min ns.length cs.length : Nat) : Int) := by omega
    have he : findF (ns.drop i) (cs.drop i) w = 0 := by
      refine findF_short _ _ _ ?_
      by_cases h : ns.length ≤ cs.length
      · exact .inl (List.drop_eq_nil_of_le (by omega))
      · exact .inr (List.drop_eq_nil_of_le (by omega))
    repeat (first | refine wKB ?_ | refine awp_seq_k (fun K hK => ?_) | refine areg_text mixed tyok (by decide +kernel) ?_ | refine qal tyok (fun bx => ?_) | refine qbox (fun bx => ?_) | refine qboxV (fun bx => ?_) | ((repeat ((fail_if_success (refine hK _ _ ?_)); clear hK)); refine hK _ _ ?_; clear hK))
    refine r1 ?_
    exact Sub.of_eq (by rw [← hf, he])

def kn25 : List UInt8 := [108, 105, 109, 105, 116, 115, 32, 49, 32, 49, 32, 49, 32, 49, 10, 109, 111, 100, 101, 32, 115, 105, 109, 112, 108, 101, 10, 112, 111, 105, 110, 116, 32, 65, 32, 66, 10, 77, 32, 61, 32, 111, 110, 32, 65, 32, 66, 10, 78, 32, 61, 32, 109, 105, 100, 112, 111, 105, 110, 116, 32, 65, 32, 66, 10, 115, 104, 111, 119, 32, 115, 97, 109, 101, 32, 77, 32, 78]
noncomputable def kn25B (x : (Int × Int × Int) ⊕ List StR) : Bool := match x with
  | .inl _ => false
  | .inr r => decide (r.length ≤ 100) && r.all (fun x => decide (x.args.length ≤ 100)) && (namesF (r.map StR.up) == [[65], [66], [77], [78]]) && (manyF (r.map StR.up) == [0, 0, 1, 2])

set_option maxRecDepth 100000 in
theorem kn25K : kn25B (scriptF kn25) = true := by rw [scriptF_K]; decide +kernel

theorem cbKn25 : Callable Tryz.prog 13 := fun _ _ => by kernel_rfl
set_option maxHeartbeats 3200000 in
set_option maxRecDepth 100000 in
theorem known25_c : PCalls Tryz.prog 13 [] (.bool true) := by
  refine pcalls_of_awp tyok cbKn25 Tryz.func13 rfl rfl ?_
  have g1 := script22_c kn25 (by decide)
  have h4 := kn25K
  cases hs : scriptF kn25 with
  | inl p => rw [hs] at h4; cases h4
  | inr r =>
    rw [hs] at g1 h4
    simp only [kn25B, Bool.and_eq_true, decide_eq_true_eq, beq_iff_eq, List.all_eq_true] at h4
    obtain ⟨⟨⟨a1, a2⟩, a3⟩, a4⟩ := h4
    obtain ⟨i1, i2, i3⟩ := scriptF_inr hs
    simp only [scriptV] at g1
    have gv := of_view (r.map StR.up) (by rw [List.length_map]; omega) (fun x hx => by
      obtain ⟨y, hy, rfl⟩ := List.mem_map.1 hx
      have := a2 y hy
      show (y.args.map TokR.up).length ≤ _
      rw [List.length_map]
      omega) i3
    rw [a3, a4] at gv
    have gv2 := PCalls.sub gv (.cons (stmts_up r) .nil)
    have e1 : parN [0, 0, 1, 2] = 5 := by decide
    have e2 : (5 : Int) + depN [0, 0, 1, 2] = 8 := by decide
    have e3 : pairsC (cel2 [0, 0, 1, 2] 0 5) = [(1, 2), (3, 4), (5, 6), (7, 8)] := by decide
    rw [e1, e2, e3] at gv2
    have hw : ∀ x ∈ ([[65], [66], [77], [78]] : List (List UInt8)), x.length ≤ 1000000000000000 := by decide
    have n5 := name_c [[65], [66], [77], [78]] [(1, 2), (3, 4), (5, 6), (7, 8)] 5 8 5 (by decide) (by decide) hw
    have n6 := name_c [[65], [66], [77], [78]] [(1, 2), (3, 4), (5, 6), (7, 8)] 5 8 6 (by decide) (by decide) hw
    have n8 := name_c [[65], [66], [77], [78]] [(1, 2), (3, 4), (5, 6), (7, 8)] 5 8 8 (by decide) (by decide) hw
    have f7 := find_c [[65], [66], [77], [78]] [(1, 2), (3, 4), (5, 6), (7, 8)] 5 8 [120, 78] (by decide) (by decide) hw
    rw [show nameF [[65], [66], [77], [78]] [(1, 2), (3, 4), (5, 6), (7, 8)] 5 = [120, 77] by decide] at n5
    rw [show nameF [[65], [66], [77], [78]] [(1, 2), (3, 4), (5, 6), (7, 8)] 6 = [121, 77] by decide] at n6
    rw [show nameF [[65], [66], [77], [78]] [(1, 2), (3, 4), (5, 6), (7, 8)] 8 = [121, 78] by decide] at n8
    rw [show findF [[65], [66], [77], [78]] [(1, 2), (3, 4), (5, 6), (7, 8)] [120, 78] = 7 by decide] at f7
    unfold layV at gv2 n5 n6 n8 f7
    repeat (first | refine wKB ?_ | refine awp_seq_k (fun K hK => ?_) | refine areg_text mixed tyok (by decide +kernel) ?_ | refine qal tyok (fun bx => ?_) | refine qbox (fun bx => ?_) | refine qboxV (fun bx => ?_) | refine TR.pcall rfl rfl rfl rfl True.intro rfl rfl (g1) ?_ | refine TR.pcall rfl rfl rfl rfl True.intro rfl rfl (gv2) ?_ | refine TR.pcall rfl rfl rfl rfl True.intro rfl rfl (n5) ?_ | refine TR.pcall rfl rfl rfl rfl True.intro rfl rfl (n6) ?_ | refine TR.pcall rfl rfl rfl rfl True.intro rfl rfl (n8) ?_ | refine TR.pcall rfl rfl rfl rfl True.intro rfl rfl (f7) ?_ | refine pco rfl rfl rfl rfl rfl rfl rfl rfl (fun _ => g1) ?_ | refine pco rfl rfl rfl rfl rfl rfl rfl rfl (fun _ => gv2) ?_ | refine pco rfl rfl rfl rfl rfl rfl rfl rfl (fun _ => n5) ?_ | refine pco rfl rfl rfl rfl rfl rfl rfl rfl (fun _ => n6) ?_ | refine pco rfl rfl rfl rfl rfl rfl rfl rfl (fun _ => n8) ?_ | refine pco rfl rfl rfl rfl rfl rfl rfl rfl (fun _ => f7) ?_ | ((repeat ((fail_if_success (refine hK _ _ ?_)); clear hK)); refine hK _ _ ?_; clear hK))
    refine r1 ?_
    exact Sub.refl _

end Go.Proofs.YtjinaakebjfbiaaGreatDoor
