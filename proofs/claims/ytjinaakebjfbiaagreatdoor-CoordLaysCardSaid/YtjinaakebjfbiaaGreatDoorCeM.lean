/-
  The document's layouts (porismref25): names, numbers.
-/
import Derived.Test.YtjinaakebjfbiaaGreatDoorCdM
import Derived.Test.YtjinaakebjfbiaaGreatDoorTy
import Derived.Test.YtjinaakebjfbiaaGreatDoorAb31
import Derived.Test.YtjinaakebjfbiaaGreatDoorGr
namespace Go.Proofs.YtjinaakebjfbiaaGreatDoor
open Go.Ab

theorem cbRName : Callable Tryz.prog 18 := fun _ _ => by kernel_rfl
set_option maxHeartbeats 3200000 in
set_option maxRecDepth 100000 in
theorem rname25_c (ns : List (List UInt8)) (cs : List (Int × Int)) (p q : Int) (v : Int) (hn : ns.length ≤ 1000000000000) (_hc : cs.length ≤ 1000000000000) (hw : ∀ x ∈ ns, x.length ≤ 1000000000000000) : PCalls Tryz.prog 18 [layV ns cs p q, .int .i64 v] (.str (nameF ns cs v)) := by
  refine pcalls_of_awp tyok cbRName Tryz.func18 rfl rfl ?_
  unfold layV
  ((repeat (first | refine wK ?_ | refine awp_seq_k (fun K hK => ?_) | refine areg_text mixed tyok (by decide +kernel) ?_ | ((repeat ((fail_if_success (refine hK _ _ ?_)); clear hK)); refine hK _ _ ?_; clear hK))); ((first | refine qal tyok (fun b2 => ?_) | refine qbox (fun b2 => ?_) | refine qboxV (fun b2 => ?_))))
  (((repeat (first | refine wT ?_ | refine qal tyok (fun bx => ?_) | refine qbox (fun bx => ?_) | refine qboxV (fun bx => ?_)))); repeat (first | (with_reducible refine pQ_normal ?_) | (with_reducible refine thenQ_normal ?_) | (with_reducible refine blockQ_normal ?_) | (with_reducible refine thenQ_exit ?_) | (with_reducible refine blockQ_hit ?_) | refine blockQ_miss rfl ?_ | (with_reducible refine thenQ_ret ?_) | (with_reducible refine blockQ_ret ?_) | (with_reducible refine pQ_panic ?_) | (with_reducible refine thenQ_panic ?_) | (with_reducible refine blockQ_panic ?_)); ((repeat ((fail_if_success (refine hK _ _ ?_)); clear hK)); refine hK _ _ ?_; clear hK))
  refine awp_freeze [] (s := 2) rfl rfl ?_
  repeat (first | refine wKB ?_ | refine awp_seq_k (fun K hK => ?_) | refine areg_text mixed tyok (by decide +kernel) ?_ | refine qal tyok (fun bx => ?_) | refine qbox (fun bx => ?_) | refine qboxV (fun bx => ?_) | ((repeat ((fail_if_success (refine hK _ _ ?_)); clear hK)); refine hK _ _ ?_; clear hK))
  refine awp_loop0 (ι := { i : Nat // i ≤ ns.length ∧ i ≤ cs.length ∧ nameF (ns.drop i) (cs.drop i) v = nameF ns cs v })
    (fun i => [(2, .rptr [sl txtE 1 ns .view, sl cooE 2 cs .view, .int .i64 p, .int .i64 q]), (1, .int .i64 v), (5, .int .i64 i.1)])
    (fun _ => []) (fun i => ns.length - i.1) ⟨0, Nat.zero_le _, Nat.zero_le _, rfl⟩ (by (repeat (first | exact True.intro | refine ⟨⟨_, rfl, Sub.refl _⟩, ?_⟩ | refine ⟨⟨_, rfl, Sub.nilso _ _⟩, ?_⟩ | refine ⟨⟨_, rfl, sl_tail _ _ _ _ _⟩, ?_⟩ | refine ⟨⟨_, rfl, Sub.of_eq (by first | rfl | (congr 1; first | omega | (simp only; omega)) | (simp; done) | (simp; omega))⟩, ?_⟩ | refine ⟨⟨_, rfl, Sub.view _ _ _ _⟩, ?_⟩))) (by (first | exact ⟨0, rfl⟩ | exact ⟨1, rfl⟩ | exact ⟨2, rfl⟩ | exact ⟨3, rfl⟩ | exact ⟨4, rfl⟩)) ?_
  rintro ⟨i, hi, hi2, hf⟩
  simp only at hi hi2 hf ⊢
  by_cases h1 : i < ns.length
  rotate_left
  · have hge : ¬ (i : Int) < ns.length := by omega
    have he := nameF_short (ns.drop i) (cs.drop i) v (.inl (List.drop_eq_nil_of_le (by omega)))
    repeat (first | refine wKB ?_ | refine awp_seq_k (fun K hK => ?_) | refine areg_text mixed tyok (by decide +kernel) ?_ | refine qal tyok (fun bx => ?_) | refine qbox (fun bx => ?_) | refine qboxV (fun bx => ?_) | ((repeat ((fail_if_success (refine hK _ _ ?_)); clear hK)); refine hK _ _ ?_; clear hK))
    refine r1 ?_
    exact Sub.of_eq (by rw [← hf, he])
  have h1' : (i : Int) < ns.length := by omega
  by_cases h2 : i < cs.length
  rotate_left
  · have hge : ¬ (i : Int) < cs.length := by omega
    have he := nameF_short (ns.drop i) (cs.drop i) v (.inr (List.drop_eq_nil_of_le (by omega)))
    repeat (first | refine wKB ?_ | refine awp_seq_k (fun K hK => ?_) | refine areg_text mixed tyok (by decide +kernel) ?_ | refine qal tyok (fun bx => ?_) | refine qbox (fun bx => ?_) | refine qboxV (fun bx => ?_) | ((repeat ((fail_if_success (refine hK _ _ ?_)); clear hK)); refine hK _ _ ?_; clear hK))
    refine r1 ?_
    exact Sub.of_eq (by rw [← hf, he])
  have h2' : (i : Int) < cs.length := by omega
  rw [drop_at h1, drop_at h2, nameF] at hf
  have hwl := hw (ns.getD i default) (by rw [getD_at h1]; exact List.getElem_mem h1)
  have hwl' : (ns.getD ((i : Int)).toNat default).length ≤ 1000000000000000 := hwl
  have hm1 : ({ data := #[120] } : ByteArray).data.toList.length = 1 := rfl
  have hm2 : ({ data := #[121] } : ByteArray).data.toList.length = 1 := rfl
  by_cases c1 : v = (cs.getD i default).1
  · have c1' : (cs.getD ((i : Int)).toNat default).1 = v := c1.symm
    rw [if_pos c1] at hf
    repeat (first | refine wKB ?_ | refine awp_seq_k (fun K hK => ?_) | refine areg_text mixed tyok (by decide +kernel) ?_ | refine qal tyok (fun bx => ?_) | refine qbox (fun bx => ?_) | refine qboxV (fun bx => ?_) | ((repeat ((fail_if_success (refine hK _ _ ?_)); clear hK)); refine hK _ _ ?_; clear hK))
    refine r1 ?_
    exact Sub.of_eq (by rw [← hf]; rfl)
  have c1' : ¬ (cs.getD ((i : Int)).toNat default).1 = v := fun e => c1 e.symm
  rw [if_neg c1] at hf
  by_cases c2 : v = (cs.getD i default).2
  · have c2' : (cs.getD ((i : Int)).toNat default).2 = v := c2.symm
    rw [if_pos c2] at hf
    repeat (first | refine wKB ?_ | refine awp_seq_k (fun K hK => ?_) | refine areg_text mixed tyok (by decide +kernel) ?_ | refine qal tyok (fun bx => ?_) | refine qbox (fun bx => ?_) | refine qboxV (fun bx => ?_) | ((repeat ((fail_if_success (refine hK _ _ ?_)); clear hK)); refine hK _ _ ?_; clear hK))
    refine r1 ?_
    exact Sub.of_eq (by rw [← hf]; rfl)
  have c2' : ¬ (cs.getD ((i : Int)).toNat default).2 = v := fun e => c2 e.symm
  rw [if_neg c2] at hf
  repeat (first | refine wKB ?_ | refine awp_seq_k (fun K hK => ?_) | refine areg_text mixed tyok (by decide +kernel) ?_ | refine qal tyok (fun bx => ?_) | refine qbox (fun bx => ?_) | refine qboxV (fun bx => ?_) | ((repeat ((fail_if_success (refine hK _ _ ?_)); clear hK)); refine hK _ _ ?_; clear hK))
  exact ⟨⟨i + 1, h1, h2, hf⟩, (by (repeat (first | exact True.intro | refine ⟨⟨_, rfl, Sub.refl _⟩, ?_⟩ | refine ⟨⟨_, rfl, Sub.nilso _ _⟩, ?_⟩ | refine ⟨⟨_, rfl, sl_tail _ _ _ _ _⟩, ?_⟩ | refine ⟨⟨_, rfl, Sub.of_eq (by first | rfl | (congr 1; first | omega | (simp only; omega)) | (simp; done) | (simp; omega))⟩, ?_⟩ | refine ⟨⟨_, rfl, Sub.view _ _ _ _⟩, ?_⟩))), (by (first | exact ⟨0, rfl⟩ | exact ⟨1, rfl⟩ | exact ⟨2, rfl⟩ | exact ⟨3, rfl⟩ | exact ⟨4, rfl⟩)), by simp only; omega⟩

theorem cbRFind : Callable Tryz.prog 20 := fun _ _ => by kernel_rfl
set_option maxHeartbeats 3200000 in
set_option maxRecDepth 100000 in
theorem rfind25_c (ns : List (List UInt8)) (cs : List (Int × Int)) (p q : Int) (w : List UInt8) (hn : ns.length ≤ 1000000000000) (_hc : cs.length ≤ 1000000000000) (hw : ∀ x ∈ ns, x.length ≤ 1000000000000000) : PCalls Tryz.prog 20 [layV ns cs p q, .str w] (.int .i64 (findF ns cs w)) := by
  refine pcalls_of_awp tyok cbRFind Tryz.func20 rfl rfl ?_
  unfold layV
  ((repeat (first | refine wK ?_ | refine awp_seq_k (fun K hK => ?_) | refine areg_text mixed tyok (by decide +kernel) ?_ | ((repeat ((fail_if_success (refine hK _ _ ?_)); clear hK)); refine hK _ _ ?_; clear hK))); ((first | refine qal tyok (fun b2 => ?_) | refine qbox (fun b2 => ?_) | refine qboxV (fun b2 => ?_))))
  (((repeat (first | refine wT ?_ | refine qal tyok (fun bx => ?_) | refine qbox (fun bx => ?_) | refine qboxV (fun bx => ?_)))); repeat (first | (with_reducible refine pQ_normal ?_) | (with_reducible refine thenQ_normal ?_) | (with_reducible refine blockQ_normal ?_) | (with_reducible refine thenQ_exit ?_) | (with_reducible refine blockQ_hit ?_) | refine blockQ_miss rfl ?_ | (with_reducible refine thenQ_ret ?_) | (with_reducible refine blockQ_ret ?_) | (with_reducible refine pQ_panic ?_) | (with_reducible refine thenQ_panic ?_) | (with_reducible refine blockQ_panic ?_)); ((repeat ((fail_if_success (refine hK _ _ ?_)); clear hK)); refine hK _ _ ?_; clear hK))
  refine awp_freeze [] (s := 2) rfl rfl ?_
  repeat (first | refine wKB ?_ | refine awp_seq_k (fun K hK => ?_) | refine areg_text mixed tyok (by decide +kernel) ?_ | refine qal tyok (fun bx => ?_) | refine qbox (fun bx => ?_) | refine qboxV (fun bx => ?_) | ((repeat ((fail_if_success (refine hK _ _ ?_)); clear hK)); refine hK _ _ ?_; clear hK))
  refine awp_loop0 (ι := { i : Nat // i ≤ ns.length ∧ i ≤ cs.length ∧ findF (ns.drop i) (cs.drop i) w = findF ns cs w })
    (fun i => [(2, .rptr [sl txtE 1 ns .view, sl cooE 2 cs .view, .int .i64 p, .int .i64 q]), (1, .str w), (5, .int .i64 i.1)])
    (fun _ => []) (fun i => ns.length - i.1) ⟨0, Nat.zero_le _, Nat.zero_le _, rfl⟩ (by (repeat (first | exact True.intro | refine ⟨⟨_, rfl, Sub.refl _⟩, ?_⟩ | refine ⟨⟨_, rfl, Sub.nilso _ _⟩, ?_⟩ | refine ⟨⟨_, rfl, sl_tail _ _ _ _ _⟩, ?_⟩ | refine ⟨⟨_, rfl, Sub.of_eq (by first | rfl | (congr 1; first | omega | (simp only; omega)) | (simp; done) | (simp; omega))⟩, ?_⟩ | refine ⟨⟨_, rfl, Sub.view _ _ _ _⟩, ?_⟩))) (by (first | exact ⟨0, rfl⟩ | exact ⟨1, rfl⟩ | exact ⟨2, rfl⟩ | exact ⟨3, rfl⟩ | exact ⟨4, rfl⟩)) ?_
  rintro ⟨i, hi, hi2, hf⟩
  simp only at hi hi2 hf ⊢
  by_cases h1 : i < ns.length
  rotate_left
  · have hge : ¬ (i : Int) < ns.length := by omega
    have he := findF_short (ns.drop i) (cs.drop i) w (.inl (List.drop_eq_nil_of_le (by omega)))
    repeat (first | refine wKB ?_ | refine awp_seq_k (fun K hK => ?_) | refine areg_text mixed tyok (by decide +kernel) ?_ | refine qal tyok (fun bx => ?_) | refine qbox (fun bx => ?_) | refine qboxV (fun bx => ?_) | ((repeat ((fail_if_success (refine hK _ _ ?_)); clear hK)); refine hK _ _ ?_; clear hK))
    refine r1 ?_
    exact Sub.of_eq (by rw [← hf, he])
  have h1' : (i : Int) < ns.length := by omega
  by_cases h2 : i < cs.length
  rotate_left
  · have hge : ¬ (i : Int) < cs.length := by omega
    have he := findF_short (ns.drop i) (cs.drop i) w (.inr (List.drop_eq_nil_of_le (by omega)))
    repeat (first | refine wKB ?_ | refine awp_seq_k (fun K hK => ?_) | refine areg_text mixed tyok (by decide +kernel) ?_ | refine qal tyok (fun bx => ?_) | refine qbox (fun bx => ?_) | refine qboxV (fun bx => ?_) | ((repeat ((fail_if_success (refine hK _ _ ?_)); clear hK)); refine hK _ _ ?_; clear hK))
    refine r1 ?_
    exact Sub.of_eq (by rw [← hf, he])
  have h2' : (i : Int) < cs.length := by omega
  rw [drop_at h1, drop_at h2, findF] at hf
  have hwl := hw (ns.getD i default) (by rw [getD_at h1]; exact List.getElem_mem h1)
  have hwl' : (ns.getD ((i : Int)).toNat default).length ≤ 1000000000000000 := hwl
  have hm1 : ({ data := #[120] } : ByteArray).data.toList.length = 1 := rfl
  have hm2 : ({ data := #[121] } : ByteArray).data.toList.length = 1 := rfl
  by_cases c1 : w = 120 :: ns.getD i default
  · rw [if_pos c1] at hf
    repeat (first | refine wKB ?_ | refine awp_seq_k (fun K hK => ?_) | refine areg_text mixed tyok (by decide +kernel) ?_ | refine qal tyok (fun bx => ?_) | refine qbox (fun bx => ?_) | refine qboxV (fun bx => ?_) | ((repeat ((fail_if_success (refine hK _ _ ?_)); clear hK)); refine hK _ _ ?_; clear hK))
    refine awp_cond rfl (fun _ => ?_) (fun hb => absurd ((beq_iff_eq.2 c1).symm.trans (show (w == 120 :: ns.getD i default) = false from hb)) (by decide))
    repeat (first | refine wKB ?_ | refine awp_seq_k (fun K hK => ?_) | refine areg_text mixed tyok (by decide +kernel) ?_ | refine qal tyok (fun bx => ?_) | refine qbox (fun bx => ?_) | refine qboxV (fun bx => ?_) | ((repeat ((fail_if_success (refine hK _ _ ?_)); clear hK)); refine hK _ _ ?_; clear hK))
    refine r1 ?_
    exact Sub.of_eq (by rw [← hf]; rfl)
  rw [if_neg c1] at hf
  by_cases c2 : w = 121 :: ns.getD i default
  · rw [if_pos c2] at hf
    repeat (first | refine wKB ?_ | refine awp_seq_k (fun K hK => ?_) | refine areg_text mixed tyok (by decide +kernel) ?_ | refine qal tyok (fun bx => ?_) | refine qbox (fun bx => ?_) | refine qboxV (fun bx => ?_) | ((repeat ((fail_if_success (refine hK _ _ ?_)); clear hK)); refine hK _ _ ?_; clear hK))
    refine awp_cond rfl (fun hb => absurd (beq_iff_eq.1 hb) c1) (fun _ => ?_)
    repeat (first | refine wKB ?_ | refine awp_seq_k (fun K hK => ?_) | refine areg_text mixed tyok (by decide +kernel) ?_ | refine qal tyok (fun bx => ?_) | refine qbox (fun bx => ?_) | refine qboxV (fun bx => ?_) | ((repeat ((fail_if_success (refine hK _ _ ?_)); clear hK)); refine hK _ _ ?_; clear hK))
    refine awp_cond rfl (fun _ => ?_) (fun hb => absurd ((beq_iff_eq.2 c2).symm.trans (show (w == 121 :: ns.getD i default) = false from hb)) (by decide))
    repeat (first | refine wKB ?_ | refine awp_seq_k (fun K hK => ?_) | refine areg_text mixed tyok (by decide +kernel) ?_ | refine qal tyok (fun bx => ?_) | refine qbox (fun bx => ?_) | refine qboxV (fun bx => ?_) | ((repeat ((fail_if_success (refine hK _ _ ?_)); clear hK)); refine hK _ _ ?_; clear hK))
    refine r1 ?_
    exact Sub.of_eq (by rw [← hf]; rfl)
  rw [if_neg c2] at hf
  repeat (first | refine wKB ?_ | refine awp_seq_k (fun K hK => ?_) | refine areg_text mixed tyok (by decide +kernel) ?_ | refine qal tyok (fun bx => ?_) | refine qbox (fun bx => ?_) | refine qboxV (fun bx => ?_) | ((repeat ((fail_if_success (refine hK _ _ ?_)); clear hK)); refine hK _ _ ?_; clear hK))
  refine awp_cond rfl (fun hb => absurd (beq_iff_eq.1 hb) c1) (fun _ => ?_)
  repeat (first | refine wKB ?_ | refine awp_seq_k (fun K hK => ?_) | refine areg_text mixed tyok (by decide +kernel) ?_ | refine qal tyok (fun bx => ?_) | refine qbox (fun bx => ?_) | refine qboxV (fun bx => ?_) | ((repeat ((fail_if_success (refine hK _ _ ?_)); clear hK)); refine hK _ _ ?_; clear hK))
  refine awp_cond rfl (fun hb => absurd (beq_iff_eq.1 hb) c2) (fun _ => ?_)
  repeat (first | refine wKB ?_ | refine awp_seq_k (fun K hK => ?_) | refine areg_text mixed tyok (by decide +kernel) ?_ | refine qal tyok (fun bx => ?_) | refine qbox (fun bx => ?_) | refine qboxV (fun bx => ?_) | ((repeat ((fail_if_success (refine hK _ _ ?_)); clear hK)); refine hK _ _ ?_; clear hK))
  exact ⟨⟨i + 1, h1, h2, hf⟩, (by (repeat (first | exact True.intro | refine ⟨⟨_, rfl, Sub.refl _⟩, ?_⟩ | refine ⟨⟨_, rfl, Sub.nilso _ _⟩, ?_⟩ | refine ⟨⟨_, rfl, sl_tail _ _ _ _ _⟩, ?_⟩ | refine ⟨⟨_, rfl, Sub.of_eq (by first | rfl | (congr 1; first | omega | (simp only; omega)) | (simp; done) | (simp; omega))⟩, ?_⟩ | refine ⟨⟨_, rfl, Sub.view _ _ _ _⟩, ?_⟩))), (by (first | exact ⟨0, rfl⟩ | exact ⟨1, rfl⟩ | exact ⟨2, rfl⟩ | exact ⟨3, rfl⟩ | exact ⟨4, rfl⟩)), by simp only; omega⟩

/-- Where a text stands, from 1 on (0: nowhere). -/
def posF (w : List UInt8) : List (List UInt8) → Int
  | [] => 0
  | x :: l => if x = w then 1 else match posF w l with
    | 0 => 0
    | n => n + 1

theorem posF_hit (w : List UInt8) : ∀ (l : List (List UInt8)) (i : Nat), i < l.length → l.getD i default = w → (∀ j, j < i → l.getD j default ≠ w) → posF w l = (i : Int) + 1
  | [], i, h, _, _ => by simp at h
  | x :: l, 0, _, he, _ => by
    have e : x = w := he
    rw [posF, if_pos e]
    rfl
  | x :: l, i + 1, h, he, hn => by
    have h0 : x ≠ w := hn 0 (by omega)
    have ih := posF_hit w l i (by simpa using h) he fun j hj => hn (j + 1) (by omega)
    rw [posF, if_neg h0, ih]
    have e : ∀ z : Int, z ≠ 0 → (match z with | 0 => (0 : Int) | n => n + 1) = z + 1 := by
      intro z hz
      split
      · exact absurd rfl hz
      · rfl
    rw [e _ (by omega)]
    omega

theorem posF_miss (w : List UInt8) : ∀ (l : List (List UInt8)), (∀ j, j < l.length → l.getD j default ≠ w) → posF w l = 0
  | [], _ => rfl
  | x :: l, hn => by
    have h0 : x ≠ w := hn 0 (by simp)
    have ih := posF_miss w l fun j hj => hn (j + 1) (by simpa using hj)
    rw [posF, if_neg h0, ih]
    rfl

theorem cbPos25 : Callable Tryz.prog 44 := fun _ _ => by kernel_rfl
set_option maxHeartbeats 1600000 in
set_option maxRecDepth 100000 in
theorem pos25_c (l : List (List UInt8)) (w : List UInt8) (hl : l.length ≤ 1000000000000) : PCalls Tryz.prog 44 [sl txtE 1 l .view, .str w] (.int .i64 (posF w l)) := by
  refine pcalls_of_awp tyok cbPos25 Tryz.func44 rfl rfl ?_
  repeat (first | refine wK ?_ | refine awp_seq_k (fun K hK => ?_) | refine areg_text mixed tyok (by decide +kernel) ?_ | refine qal tyok (fun bx => ?_) | refine qbox (fun bx => ?_) | refine qboxV (fun bx => ?_) | ((repeat ((fail_if_success (refine hK _ _ ?_)); clear hK)); refine hK _ _ ?_; clear hK))
  refine awp_loop0 (ι := { i : Nat // i ≤ l.length ∧ ∀ j, j < i → l.getD j default ≠ w })
    (fun i => [(0, sl txtE 1 l .view), (1, .str w), (5, .int .i64 i.1)]) (fun _ => []) (fun i => l.length - i.1) ⟨0, Nat.zero_le _, fun j hj => absurd hj (by omega)⟩ (by (repeat (first | exact True.intro | refine ⟨⟨_, rfl, Sub.refl _⟩, ?_⟩ | refine ⟨⟨_, rfl, Sub.nilso _ _⟩, ?_⟩ | refine ⟨⟨_, rfl, sl_tail _ _ _ _ _⟩, ?_⟩ | refine ⟨⟨_, rfl, Sub.of_eq (by first | rfl | (congr 1; first | omega | (simp only; omega)) | (simp; done) | (simp; omega))⟩, ?_⟩ | refine ⟨⟨_, rfl, Sub.view _ _ _ _⟩, ?_⟩))) (by (first | exact ⟨0, rfl⟩ | exact ⟨1, rfl⟩ | exact ⟨2, rfl⟩ | exact ⟨3, rfl⟩ | exact ⟨4, rfl⟩)) ?_
  rintro ⟨i, hi, hn⟩
  simp only at hi hn ⊢
  by_cases hlt : i < l.length
  · have hlt' : (i : Int) < l.length := by omega
    by_cases he : l.getD i default = w
    · have e := posF_hit w l i hlt he hn
      repeat (first | refine wKB ?_ | refine awp_seq_k (fun K hK => ?_) | refine areg_text mixed tyok (by decide +kernel) ?_ | refine qal tyok (fun bx => ?_) | refine qbox (fun bx => ?_) | refine qboxV (fun bx => ?_) | ((repeat ((fail_if_success (refine hK _ _ ?_)); clear hK)); refine hK _ _ ?_; clear hK))
      refine awp_cond rfl (fun _ => ?_) (fun hb => absurd ((beq_iff_eq.2 he).symm.trans (show (l.getD i default == w) = false from hb)) (by decide))
      repeat (first | refine wKB ?_ | refine awp_seq_k (fun K hK => ?_) | refine areg_text mixed tyok (by decide +kernel) ?_ | refine qal tyok (fun bx => ?_) | refine qbox (fun bx => ?_) | refine qboxV (fun bx => ?_) | ((repeat ((fail_if_success (refine hK _ _ ?_)); clear hK)); refine hK _ _ ?_; clear hK))
      refine r1 ?_
      exact Sub.of_eq (by rw [e])
    · repeat (first | refine wKB ?_ | refine awp_seq_k (fun K hK => ?_) | refine areg_text mixed tyok (by decide +kernel) ?_ | refine qal tyok (fun bx => ?_) | refine qbox (fun bx => ?_) | refine qboxV (fun bx => ?_) | ((repeat ((fail_if_success (refine hK _ _ ?_)); clear hK)); refine hK _ _ ?_; clear hK))
      refine awp_cond rfl (fun hb => absurd (beq_iff_eq.1 hb) he) (fun _ => ?_)
      repeat (first | refine wKB ?_ | refine awp_seq_k (fun K hK => ?_) | refine areg_text mixed tyok (by decide +kernel) ?_ | refine qal tyok (fun bx => ?_) | refine qbox (fun bx => ?_) | refine qboxV (fun bx => ?_) | ((repeat ((fail_if_success (refine hK _ _ ?_)); clear hK)); refine hK _ _ ?_; clear hK))
      refine ⟨⟨i + 1, hlt, fun j hj => ?_⟩, (by (repeat (first | exact True.intro | refine ⟨⟨_, rfl, Sub.refl _⟩, ?_⟩ | refine ⟨⟨_, rfl, Sub.nilso _ _⟩, ?_⟩ | refine ⟨⟨_, rfl, sl_tail _ _ _ _ _⟩, ?_⟩ | refine ⟨⟨_, rfl, Sub.of_eq (by first | rfl | (congr 1; first | omega | (simp only; omega)) | (simp; done) | (simp; omega))⟩, ?_⟩ | refine ⟨⟨_, rfl, Sub.view _ _ _ _⟩, ?_⟩))), (by (first | exact ⟨0, rfl⟩ | exact ⟨1, rfl⟩ | exact ⟨2, rfl⟩ | exact ⟨3, rfl⟩ | exact ⟨4, rfl⟩)), by simp only; omega⟩
      by_cases e : j = i
      · rw [e]; exact he
      · exact hn j (by omega)
  · have hge : ¬ (i : Int) < l.length := by omega
    have e := posF_miss w l fun j hj => hn j (by omega)
    repeat (first | refine wKB ?_ | refine awp_seq_k (fun K hK => ?_) | refine areg_text mixed tyok (by decide +kernel) ?_ | refine qal tyok (fun bx => ?_) | refine qbox (fun bx => ?_) | refine qboxV (fun bx => ?_) | ((repeat ((fail_if_success (refine hK _ _ ?_)); clear hK)); refine hK _ _ ?_; clear hK))
    refine r1 ?_
    exact Sub.of_eq (by rw [e])

theorem cbSame25 : Callable Tryz.prog 16 := fun _ _ => by kernel_rfl
set_option maxHeartbeats 3200000 in
set_option maxRecDepth 100000 in
theorem same25_c (ns : List (List UInt8)) (cs : List (Int × Int)) (p q : Int) (hn : ns.length ≤ 1000000000000) (hc : cs.length ≤ 1000000000000) : PCalls Tryz.prog 16 [layV ns cs p q, layV ns cs p q] (.bool true) := by
  refine pcalls_of_awp tyok cbSame25 Tryz.func16 rfl rfl ?_
  unfold layV
  ((repeat (first | refine wK ?_ | refine awp_seq_k (fun K hK => ?_) | refine areg_text mixed tyok (by decide +kernel) ?_ | ((repeat ((fail_if_success (refine hK _ _ ?_)); clear hK)); refine hK _ _ ?_; clear hK))); ((first | refine qal tyok (fun b2 => ?_) | refine qbox (fun b2 => ?_) | refine qboxV (fun b2 => ?_))); (repeat (first | refine wK ?_ | refine awp_seq_k (fun K hK => ?_) | refine areg_text mixed tyok (by decide +kernel) ?_ | ((repeat ((fail_if_success (refine hK _ _ ?_)); clear hK)); refine hK _ _ ?_; clear hK))); ((first | refine qal tyok (fun b3 => ?_) | refine qbox (fun b3 => ?_) | refine qboxV (fun b3 => ?_))))
  (((repeat (first | refine wT ?_ | refine qal tyok (fun bx => ?_) | refine qbox (fun bx => ?_) | refine qboxV (fun bx => ?_)))); repeat (first | (with_reducible refine pQ_normal ?_) | (with_reducible refine thenQ_normal ?_) | (with_reducible refine blockQ_normal ?_) | (with_reducible refine thenQ_exit ?_) | (with_reducible refine blockQ_hit ?_) | refine blockQ_miss rfl ?_ | (with_reducible refine thenQ_ret ?_) | (with_reducible refine blockQ_ret ?_) | (with_reducible refine pQ_panic ?_) | (with_reducible refine thenQ_panic ?_) | (with_reducible refine blockQ_panic ?_)); ((repeat ((fail_if_success (refine hK _ _ ?_)); clear hK)); refine hK _ _ ?_; clear hK))
  refine awp_freeze [] (s := 3) rfl rfl ?_
  refine awp_freeze [] (s := 2) rfl rfl ?_
  repeat (first | refine wKB ?_ | refine awp_seq_k (fun K hK => ?_) | refine areg_text mixed tyok (by decide +kernel) ?_ | refine qal tyok (fun bx => ?_) | refine qbox (fun bx => ?_) | refine qboxV (fun bx => ?_) | ((repeat ((fail_if_success (refine hK _ _ ?_)); clear hK)); refine hK _ _ ?_; clear hK))
  refine awp_loop0 (ι := { i : Nat // i ≤ ns.length })
    (fun i => [(2, .rptr [sl txtE 1 ns .view, sl cooE 2 cs .view, .int .i64 p, .int .i64 q]), (3, .rptr [sl txtE 1 ns .view, sl cooE 2 cs .view, .int .i64 p, .int .i64 q]), (5, .int .i64 i.1)])
    (fun _ => []) (fun i => ns.length - i.1) ⟨0, Nat.zero_le _⟩ (by (repeat (first | exact True.intro | refine ⟨⟨_, rfl, Sub.refl _⟩, ?_⟩ | refine ⟨⟨_, rfl, Sub.nilso _ _⟩, ?_⟩ | refine ⟨⟨_, rfl, sl_tail _ _ _ _ _⟩, ?_⟩ | refine ⟨⟨_, rfl, Sub.of_eq (by first | rfl | (congr 1; first | omega | (simp only; omega)) | (simp; done) | (simp; omega))⟩, ?_⟩ | refine ⟨⟨_, rfl, Sub.view _ _ _ _⟩, ?_⟩))) (by (first | exact ⟨0, rfl⟩ | exact ⟨1, rfl⟩ | exact ⟨2, rfl⟩ | exact ⟨3, rfl⟩ | exact ⟨4, rfl⟩)) ?_
  rintro ⟨i, hi⟩
  simp only at hi ⊢
  by_cases hlt : i < ns.length
  · have hlt' : (i : Int) < ns.length := by omega
    repeat (first | refine wKB ?_ | refine awp_seq_k (fun K hK => ?_) | refine areg_text mixed tyok (by decide +kernel) ?_ | refine qal tyok (fun bx => ?_) | refine qbox (fun bx => ?_) | refine qboxV (fun bx => ?_) | ((repeat ((fail_if_success (refine hK _ _ ?_)); clear hK)); refine hK _ _ ?_; clear hK))
    refine awp_cond rfl (fun hb => absurd hb (by simp)) (fun _ => ?_)
    repeat (first | refine wKB ?_ | refine awp_seq_k (fun K hK => ?_) | refine areg_text mixed tyok (by decide +kernel) ?_ | refine qal tyok (fun bx => ?_) | refine qbox (fun bx => ?_) | refine qboxV (fun bx => ?_) | ((repeat ((fail_if_success (refine hK _ _ ?_)); clear hK)); refine hK _ _ ?_; clear hK))
    exact ⟨⟨i + 1, hlt⟩, (by (repeat (first | exact True.intro | refine ⟨⟨_, rfl, Sub.refl _⟩, ?_⟩ | refine ⟨⟨_, rfl, Sub.nilso _ _⟩, ?_⟩ | refine ⟨⟨_, rfl, sl_tail _ _ _ _ _⟩, ?_⟩ | refine ⟨⟨_, rfl, Sub.of_eq (by first | rfl | (congr 1; first | omega | (simp only; omega)) | (simp; done) | (simp; omega))⟩, ?_⟩ | refine ⟨⟨_, rfl, Sub.view _ _ _ _⟩, ?_⟩))), (by (first | exact ⟨0, rfl⟩ | exact ⟨1, rfl⟩ | exact ⟨2, rfl⟩ | exact ⟨3, rfl⟩ | exact ⟨4, rfl⟩)), by simp only; omega⟩
  have hge : ¬ (i : Int) < ns.length := by omega
  repeat (first | refine wKB ?_ | refine awp_seq_k (fun K hK => ?_) | refine areg_text mixed tyok (by decide +kernel) ?_ | refine qal tyok (fun bx => ?_) | refine qbox (fun bx => ?_) | refine qboxV (fun bx => ?_) | ((repeat ((fail_if_success (refine hK _ _ ?_)); clear hK)); refine hK _ _ ?_; clear hK))
  refine awp_loop0 (ι := { i : Nat // i ≤ cs.length })
    (fun i => [(2, .rptr [sl txtE 1 ns .view, sl cooE 2 cs .view, .int .i64 p, .int .i64 q]), (3, .rptr [sl txtE 1 ns .view, sl cooE 2 cs .view, .int .i64 p, .int .i64 q]), (6, .int .i64 i.1)])
    (fun _ => []) (fun i => cs.length - i.1) ⟨0, Nat.zero_le _⟩ (by (repeat (first | exact True.intro | refine ⟨⟨_, rfl, Sub.refl _⟩, ?_⟩ | refine ⟨⟨_, rfl, Sub.nilso _ _⟩, ?_⟩ | refine ⟨⟨_, rfl, sl_tail _ _ _ _ _⟩, ?_⟩ | refine ⟨⟨_, rfl, Sub.of_eq (by first | rfl | (congr 1; first | omega | (simp only; omega)) | (simp; done) | (simp; omega))⟩, ?_⟩ | refine ⟨⟨_, rfl, Sub.view _ _ _ _⟩, ?_⟩))) (by (first | exact ⟨0, rfl⟩ | exact ⟨1, rfl⟩ | exact ⟨2, rfl⟩ | exact ⟨3, rfl⟩ | exact ⟨4, rfl⟩)) ?_
  rintro ⟨j, hj⟩
  simp only at hj ⊢
  by_cases hlt : j < cs.length
  · have hlt' : (j : Int) < cs.length := by omega
    repeat (first | refine wKB ?_ | refine awp_seq_k (fun K hK => ?_) | refine areg_text mixed tyok (by decide +kernel) ?_ | refine qal tyok (fun bx => ?_) | refine qbox (fun bx => ?_) | refine qboxV (fun bx => ?_) | ((repeat ((fail_if_success (refine hK _ _ ?_)); clear hK)); refine hK _ _ ?_; clear hK))
    refine awp_cond rfl (fun hb => absurd hb (by simp)) (fun _ => ?_)
    repeat (first | refine wKB ?_ | refine awp_seq_k (fun K hK => ?_) | refine areg_text mixed tyok (by decide +kernel) ?_ | refine qal tyok (fun bx => ?_) | refine qbox (fun bx => ?_) | refine qboxV (fun bx => ?_) | ((repeat ((fail_if_success (refine hK _ _ ?_)); clear hK)); refine hK _ _ ?_; clear hK))
    exact ⟨⟨j + 1, hlt⟩, (by (repeat (first | exact True.intro | refine ⟨⟨_, rfl, Sub.refl _⟩, ?_⟩ | refine ⟨⟨_, rfl, Sub.nilso _ _⟩, ?_⟩ | refine ⟨⟨_, rfl, sl_tail _ _ _ _ _⟩, ?_⟩ | refine ⟨⟨_, rfl, Sub.of_eq (by first | rfl | (congr 1; first | omega | (simp only; omega)) | (simp; done) | (simp; omega))⟩, ?_⟩ | refine ⟨⟨_, rfl, Sub.view _ _ _ _⟩, ?_⟩))), (by (first | exact ⟨0, rfl⟩ | exact ⟨1, rfl⟩ | exact ⟨2, rfl⟩ | exact ⟨3, rfl⟩ | exact ⟨4, rfl⟩)), by simp only; omega⟩
  have hge2 : ¬ (j : Int) < cs.length := by omega
  repeat (first | refine wKB ?_ | refine awp_seq_k (fun K hK => ?_) | refine areg_text mixed tyok (by decide +kernel) ?_ | refine qal tyok (fun bx => ?_) | refine qbox (fun bx => ?_) | refine qboxV (fun bx => ?_) | ((repeat ((fail_if_success (refine hK _ _ ?_)); clear hK)); refine hK _ _ ?_; clear hK))
  refine r1 ?_
  exact Sub.refl _

end Go.Proofs.YtjinaakebjfbiaaGreatDoor

/-
  The document's two lists of names, and where a name stands in them (plain law).
-/
namespace Go.Proofs.YtjinaakebjfbiaaGreatDoor
open Go.Ab

theorem posF_split (w : List UInt8) : ∀ (pre post : List (List UInt8)), w ∉ pre → posF w (pre ++ w :: post) = (pre.length : Int) + 1
  | [], post, _ => by
    rw [List.nil_append, posF, if_pos rfl]
    rfl
  | x :: pre, post, h => by
    have ih := posF_split w pre post fun hm => h (List.mem_cons_of_mem _ hm)
    have hx : x ≠ w := fun e => h (e ▸ List.mem_cons_self ..)
    rw [List.cons_append, posF, if_neg hx, ih, List.length_cons]
    split <;> omega

/-- The names that a point of so many equations gives to the one list, and to the other one. -/
def parE (n : Int) (w : List UInt8) : List (List UInt8) := (if n < 2 then [120 :: w] else []) ++ (if n < 1 then [121 :: w] else [])
def depE (n : Int) (w : List UInt8) : List (List UInt8) := (if n = 2 then [120 :: w] else []) ++ (if 1 ≤ n then [121 :: w] else [])
def parL (l : List (Int × List UInt8)) : List (List UInt8) := l.flatMap fun x => parE x.1 x.2
def depL (l : List (Int × List UInt8)) : List (List UInt8) := l.flatMap fun x => depE x.1 x.2

theorem parE_len (n : Int) (w : List UInt8) : ((parE n w).length : Int) = parA n := by
  unfold parE parA
  split <;> split <;> simp
theorem depE_len (n : Int) (w : List UInt8) : ((depE n w).length : Int) = depA n := by
  unfold depE depA
  split <;> split <;> simp
theorem parL_len : ∀ l : List (Int × List UInt8), ((parL l).length : Int) = parN (l.map Prod.fst)
  | [] => by simp [parL, parN]
  | x :: l => by
    have ih := parL_len l
    have h := parE_len x.1 x.2
    simp only [parL, parN, List.flatMap_cons, List.length_append, List.map_cons, List.sum_cons] at ih ⊢
    omega
theorem depL_len : ∀ l : List (Int × List UInt8), ((depL l).length : Int) = depN (l.map Prod.fst)
  | [] => by simp [depL, depN]
  | x :: l => by
    have ih := depL_len l
    have h := depE_len x.1 x.2
    simp only [depL, depN, List.flatMap_cons, List.length_append, List.map_cons, List.sum_cons] at ih ⊢
    omega

theorem parE_mem {n : Int} {w u : List UInt8} (h : u ∈ parE n w) : u = 120 :: w ∨ u = 121 :: w := by
  unfold parE at h
  rcases List.mem_append.1 h with h | h
  · split at h <;> simp at h
    exact .inl h
  · split at h <;> simp at h
    exact .inr h
theorem depE_mem {n : Int} {w u : List UInt8} (h : u ∈ depE n w) : u = 120 :: w ∨ u = 121 :: w := by
  unfold depE at h
  rcases List.mem_append.1 h with h | h
  · split at h <;> simp at h
    exact .inl h
  · split at h <;> simp at h
    exact .inr h

theorem parL_mem {l : List (Int × List UInt8)} {u : List UInt8} (h : u ∈ parL l) : ∃ x ∈ l, u = 120 :: x.2 ∨ u = 121 :: x.2 := by
  obtain ⟨x, hx, hu⟩ := List.mem_flatMap.1 h
  exact ⟨x, hx, parE_mem hu⟩
theorem depL_mem {l : List (Int × List UInt8)} {u : List UInt8} (h : u ∈ depL l) : ∃ x ∈ l, u = 120 :: x.2 ∨ u = 121 :: x.2 := by
  obtain ⟨x, hx, hu⟩ := List.mem_flatMap.1 h
  exact ⟨x, hx, depE_mem hu⟩

/-- A name of none of these points is in neither list. -/
theorem parL_out {l : List (Int × List UInt8)} {c : UInt8} {w : List UInt8} (h : ∀ x ∈ l, x.2 ≠ w) : c :: w ∉ parL l := fun hm => by
  obtain ⟨x, hx, e | e⟩ := parL_mem hm <;> exact h x hx (List.cons.inj e).2.symm
theorem depL_out {l : List (Int × List UInt8)} {c : UInt8} {w : List UInt8} (h : ∀ x ∈ l, x.2 ≠ w) : c :: w ∉ depL l := fun hm => by
  obtain ⟨x, hx, e | e⟩ := depL_mem hm <;> exact h x hx (List.cons.inj e).2.symm

/-- Where both names of a point stand. -/
theorem posF_at (A B : List (Int × List UInt8)) (n : Int) (w : List UInt8) (hn : n = 0 ∨ n = 1 ∨ n = 2) (hA : ∀ x ∈ A, x.2 ≠ w) (hB : ∀ x ∈ B, x.2 ≠ w) (P : Int) (hP : P = parN ((A ++ (n, w) :: B).map Prod.fst)) :
    posF (120 :: w) (parL (A ++ (n, w) :: B) ++ depL (A ++ (n, w) :: B)) = (if n < 2 then parN (A.map Prod.fst) + 1 else P + depN (A.map Prod.fst) + 1) ∧
    posF (121 :: w) (parL (A ++ (n, w) :: B) ++ depL (A ++ (n, w) :: B)) = (if n < 1 then parN (A.map Prod.fst) + 2 else P + depN (A.map Prod.fst) + depA n) := by
  have lA := parL_len A
  have dA := depL_len A
  have lP := parL_len (A ++ (n, w) :: B)
  rw [← hP] at lP
  have e1 : parL (A ++ (n, w) :: B) = parL A ++ (parE n w ++ parL B) := by simp [parL]
  have e2 : depL (A ++ (n, w) :: B) = depL A ++ (depE n w ++ depL B) := by simp [depL]
  have oA : ∀ c : UInt8, c :: w ∉ parL A := fun c => parL_out hA
  have oB : ∀ c : UInt8, c :: w ∉ parL B := fun c => parL_out hB
  have qA : ∀ c : UInt8, c :: w ∉ depL A := fun c => depL_out hA
  rcases hn with rfl | rfl | rfl
  · have p0 : parE 0 w = [120 :: w, 121 :: w] := rfl
    rw [e1, p0] at *
    refine ⟨?_, ?_⟩
    · have h := posF_split (120 :: w) (parL A) ((121 :: w) :: parL B ++ depL (A ++ (0, w) :: B)) (oA _)
      rw [if_pos (by decide), show parL A ++ ([120 :: w, 121 :: w] ++ parL B) ++ depL (A ++ (0, w) :: B) = parL A ++ (120 :: w) :: ((121 :: w) :: parL B ++ depL (A ++ (0, w) :: B)) by simp, h]
      omega
    · have h := posF_split (121 :: w) (parL A ++ [120 :: w]) (parL B ++ depL (A ++ (0, w) :: B)) (by simp [oA])
      rw [if_pos (by decide), show parL A ++ ([120 :: w, 121 :: w] ++ parL B) ++ depL (A ++ (0, w) :: B) = (parL A ++ [120 :: w]) ++ (121 :: w) :: (parL B ++ depL (A ++ (0, w) :: B)) by simp, h, List.length_append, List.length_singleton]
      omega
  · have p1 : parE 1 w = [120 :: w] := rfl
    have d1 : depE 1 w = [121 :: w] := rfl
    have s1 : depA 1 = 1 := rfl
    rw [e1, p1] at lP ⊢
    rw [e2, d1]
    refine ⟨?_, ?_⟩
    · have h := posF_split (120 :: w) (parL A) (parL B ++ (depL A ++ ([121 :: w] ++ depL B))) (oA _)
      rw [if_pos (by decide), show parL A ++ ([120 :: w] ++ parL B) ++ (depL A ++ ([121 :: w] ++ depL B)) = parL A ++ (120 :: w) :: (parL B ++ (depL A ++ ([121 :: w] ++ depL B))) by simp, h]
      omega
    · have h := posF_split (121 :: w) (parL A ++ ([120 :: w] ++ parL B) ++ depL A) (depL B) (by simp [oA, oB, qA])
      rw [if_neg (by decide), show parL A ++ ([120 :: w] ++ parL B) ++ (depL A ++ ([121 :: w] ++ depL B)) = (parL A ++ ([120 :: w] ++ parL B) ++ depL A) ++ (121 :: w) :: depL B by simp, h, List.length_append, s1]
      omega
  · have p2 : parE 2 w = [] := rfl
    have d2 : depE 2 w = [120 :: w, 121 :: w] := rfl
    have s2 : depA 2 = 2 := rfl
    rw [e1, p2] at lP ⊢
    rw [e2, d2]
    refine ⟨?_, ?_⟩
    · have h := posF_split (120 :: w) (parL A ++ ([] ++ parL B) ++ depL A) ((121 :: w) :: depL B) (by simp [oA, oB, qA])
      rw [if_neg (by decide), show parL A ++ ([] ++ parL B) ++ (depL A ++ ([120 :: w, 121 :: w] ++ depL B)) = (parL A ++ ([] ++ parL B) ++ depL A) ++ (120 :: w) :: ((121 :: w) :: depL B) by simp, h, List.length_append]
      omega
    · have h := posF_split (121 :: w) (parL A ++ ([] ++ parL B) ++ depL A ++ [120 :: w]) (depL B) (by simp [oA, oB, qA])
      rw [if_neg (by decide), show parL A ++ ([] ++ parL B) ++ (depL A ++ ([120 :: w, 121 :: w] ++ depL B)) = (parL A ++ ([] ++ parL B) ++ depL A ++ [120 :: w]) ++ (121 :: w) :: depL B by simp, h, List.length_append, List.length_append, List.length_singleton, s2]
      omega

/-! How many equations the document's row has: one more than it has semicolons. -/

def rowQ (R : List (List UInt8) → Option FigR) (l : List (List UInt8)) (r : RowR) : Bool := decide (l.getD 0 [] = r.word) && (match R l with
  | none => false
  | some f => decide (f.eqs.length = r.eqs.count 59 + 1 ∧ r.eqs.length ≤ 1000))
def tabQ (R : List (List UInt8) → Option FigR) : List (List (List UInt8)) → List RowR → Bool
  | [], [] => true
  | l :: ls, r :: rs => rowQ R l r && tabQ R ls rs
  | _, _ => false

set_option maxRecDepth 100000 in
theorem made_eqs : tabQ conR (rowsF made21) made22 = true := by decide +kernel

theorem tabQ_at {R : List (List UInt8) → Option FigR} (w : List UInt8) : ∀ {ls : List (List (List UInt8))} {rs : List RowR}, tabQ R ls rs = true → (findR rs w = none ∧ rowG w ls = none) ∨ ∃ r l, findR rs w = some r ∧ rowG w ls = some l ∧ rowQ R l r = true
  | [], [], _ => .inl ⟨rfl, rfl⟩
  | l :: ls, r :: rs, h => by
    simp only [tabQ, Bool.and_eq_true] at h
    have hw : l.getD 0 [] = r.word := by
      have := h.1
      simp only [rowQ, Bool.and_eq_true, decide_eq_true_eq] at this
      exact this.1
    simp only [findR, rowG, hw]
    by_cases e : r.word = w
    · rw [if_pos e, if_pos e]
      exact .inr ⟨r, l, rfl, rfl, h.1⟩
    · rw [if_neg e, if_neg e]
      exact tabQ_at w h.2
  | [], _ :: _, h => by simp [tabQ] at h
  | _ :: _, [], h => by simp [tabQ] at h

theorem con_eqs (w : List UInt8) : (findR made22 w = none ∧ conF w = none) ∨ ∃ r f, findR made22 w = some r ∧ conF w = some f ∧ f.eqs.length = r.eqs.count 59 + 1 ∧ r.eqs.length ≤ 1000 := by
  rcases tabQ_at w made_eqs with ⟨h1, h2⟩ | ⟨r, l, h1, h2, h3⟩
  · exact .inl ⟨h1, conF_none h2⟩
  · simp only [rowQ, Bool.and_eq_true] at h3
    cases hR : conR l with
    | none =>
      rw [hR] at h3
      cases h3.2
    | some f =>
      rw [hR] at h3
      have h4 := of_decide_eq_true h3.2
      exact .inr ⟨r, { f with word := w }, h1, conF_some h2 hR, h4.1, h4.2⟩

end Go.Proofs.YtjinaakebjfbiaaGreatDoor

/-
  How many equations the document reads out of a row (porismref21.Equations).
-/
namespace Go.Proofs.YtjinaakebjfbiaaGreatDoor
open Go.Ab

/-- The number of a letter; the kind of a factor, and how far its points stand behind its begin. -/
def numF (c : UInt8) : Int := if c = 80 then 0 else (c.toNat : Int) - 65 + 1
def kndF (c : UInt8) : Int × Int := if c = 120 then (1, 2) else if c = 121 then (2, 2) else if c = 99 then (3, 6) else (4, 4)

theorem cbNum21 : Callable Tryz.prog 102 := fun _ _ => by kernel_rfl
set_option maxHeartbeats 800000 in
theorem num21_c (c : UInt8) : PCalls Tryz.prog 102 [.int .u8 c.toNat, .int .i64 1] (.int .i64 (numF c)) := by
  refine pcalls_of_awp tyok cbNum21 Tryz.func102 rfl rfl ?_
  have hc : c.toNat < 256 := c.toNat_lt
  unfold numF
  by_cases h : c = 80
  · subst h
    repeat (first | refine wKB ?_ | refine awp_seq_k (fun K hK => ?_) | refine areg_text mixed tyok (by decide +kernel) ?_ | refine qal tyok (fun bx => ?_) | refine qbox (fun bx => ?_) | refine qboxV (fun bx => ?_) | ((repeat ((fail_if_success (refine hK _ _ ?_)); clear hK)); refine hK _ _ ?_; clear hK))
    refine r1 ?_
    exact Sub.refl _
  · have h' : ¬ (c.toNat : Int) = 80 := fun e => h (UInt8.toNat_inj.1 (by simpa using (by omega : c.toNat = 80)))
    have e2 : IntKind.i64.wrap (c.toNat : Int) = c.toNat := wrap_inK (by simp only [inK]; omega)
    rw [if_neg h]
    repeat (first | refine wKB ?_ | refine awp_seq_k (fun K hK => ?_) | refine areg_text mixed tyok (by decide +kernel) ?_ | refine qal tyok (fun bx => ?_) | refine qbox (fun bx => ?_) | refine qboxV (fun bx => ?_) | ((repeat ((fail_if_success (refine hK _ _ ?_)); clear hK)); refine hK _ _ ?_; clear hK))
    rw [e2]
    repeat (first | refine wKB ?_ | refine awp_seq_k (fun K hK => ?_) | refine areg_text mixed tyok (by decide +kernel) ?_ | refine qal tyok (fun bx => ?_) | refine qbox (fun bx => ?_) | refine qboxV (fun bx => ?_) | ((repeat ((fail_if_success (refine hK _ _ ?_)); clear hK)); refine hK _ _ ?_; clear hK))
    refine r1 ?_
    exact Sub.refl _

theorem cbKnd21 : Callable Tryz.prog 101 := fun _ _ => by kernel_rfl
set_option maxHeartbeats 800000 in
theorem kind21_c (s : List UInt8) (k : Nat) (hs : s.length ≤ 1000) (hk : k < s.length) : PCalls Tryz.prog 101 [.str s, .int .i64 k] (.tuple [.int .u8 (kndF (s.getD k 0)).1, .int .i64 (k + (kndF (s.getD k 0)).2)]) := by
  refine pcalls_of_awp tyok cbKnd21 Tryz.func101 rfl rfl ?_
  have hk' : (k : Int) < s.length := by omega
  unfold kndF
  have ne : ∀ c : UInt8, ¬ s.getD k 0 = c → ¬ ((s.getD ((k : Int)).toNat 0).toNat : Int) = (c.toNat : Int) := fun c h e => h (UInt8.toNat_inj.1 (show (s.getD k 0).toNat = c.toNat by exact Int.ofNat_inj.1 e))
  by_cases h1 : s.getD k 0 = 120
  · have e1 : ((s.getD ((k : Int)).toNat 0).toNat : Int) = 120 := by
      show ((s.getD k 0).toNat : Int) = 120
      rw [h1]
      rfl
    rw [if_pos h1]
    repeat (first | refine wKB ?_ | refine awp_seq_k (fun K hK => ?_) | refine areg_text mixed tyok (by decide +kernel) ?_ | refine qal tyok (fun bx => ?_) | refine qbox (fun bx => ?_) | refine qboxV (fun bx => ?_) | ((repeat ((fail_if_success (refine hK _ _ ?_)); clear hK)); refine hK _ _ ?_; clear hK))
    refine r2 ?_ ?_
    all_goals exact Sub.refl _
  have f1 : ¬ ((s.getD ((k : Int)).toNat 0).toNat : Int) = 120 := ne 120 h1
  by_cases h2 : s.getD k 0 = 121
  · have e2 : ((s.getD ((k : Int)).toNat 0).toNat : Int) = 121 := by
      show ((s.getD k 0).toNat : Int) = 121
      rw [h2]
      rfl
    rw [if_neg h1, if_pos h2]
    repeat (first | refine wKB ?_ | refine awp_seq_k (fun K hK => ?_) | refine areg_text mixed tyok (by decide +kernel) ?_ | refine qal tyok (fun bx => ?_) | refine qbox (fun bx => ?_) | refine qboxV (fun bx => ?_) | ((repeat ((fail_if_success (refine hK _ _ ?_)); clear hK)); refine hK _ _ ?_; clear hK))
    refine r2 ?_ ?_
    all_goals exact Sub.refl _
  have f2 : ¬ ((s.getD ((k : Int)).toNat 0).toNat : Int) = 121 := ne 121 h2
  by_cases h3 : s.getD k 0 = 99
  · have e3 : ((s.getD ((k : Int)).toNat 0).toNat : Int) = 99 := by
      show ((s.getD k 0).toNat : Int) = 99
      rw [h3]
      rfl
    rw [if_neg h1, if_neg h2, if_pos h3]
    repeat (first | refine wKB ?_ | refine awp_seq_k (fun K hK => ?_) | refine areg_text mixed tyok (by decide +kernel) ?_ | refine qal tyok (fun bx => ?_) | refine qbox (fun bx => ?_) | refine qboxV (fun bx => ?_) | ((repeat ((fail_if_success (refine hK _ _ ?_)); clear hK)); refine hK _ _ ?_; clear hK))
    refine r2 ?_ ?_
    all_goals exact Sub.refl _
  have f3 : ¬ ((s.getD ((k : Int)).toNat 0).toNat : Int) = 99 := ne 99 h3
  rw [if_neg h1, if_neg h2, if_neg h3]
  repeat (first | refine wKB ?_ | refine awp_seq_k (fun K hK => ?_) | refine areg_text mixed tyok (by decide +kernel) ?_ | refine qal tyok (fun bx => ?_) | refine qbox (fun bx => ?_) | refine qboxV (fun bx => ?_) | ((repeat ((fail_if_success (refine hK _ _ ?_)); clear hK)); refine hK _ _ ?_; clear hK))
  refine r2 ?_ ?_
  all_goals exact Sub.refl _

/-- Where the reader stands behind one round (none: it would look behind the text's end), and how many equations it tells from a place on. -/
def nextE (s : List UInt8) (k : Nat) : Option Nat :=
  if k = s.length then some (k + 1)
  else if [59, 43, 45, 32, 42, 50, 109, 110].contains (s.getD k 0) then some (k + 1)
  else if 2 < (kndF (s.getD k 0)).1 then (if k + (kndF (s.getD k 0)).2.toNat + 4 < s.length then some (k + (kndF (s.getD k 0)).2.toNat + 6) else none)
  else (if k + (kndF (s.getD k 0)).2.toNat + 1 < s.length then some (k + (kndF (s.getD k 0)).2.toNat + 3) else none)
def cntE (s : List UInt8) : Nat → Nat → Option Nat
  | 0, _ => none
  | n + 1, k => if s.length < k then some 0 else match nextE s k with
    | none => none
    | some k' => match cntE s n k' with
      | none => none
      | some c => some (c + if k = s.length ∨ s.getD k 0 = 59 then 1 else 0)

/-- Parts that nobody looks at. -/
def frmX (_ : Unit) : List AV := [.any, .any, .any, .any, .any]
def pcX (_ : Unit) : List AV := [.any, .any, .any]
def eqX (_ : Unit) : List AV := [.any]

/-- Where the reader stands. -/
structure EqS where
  n : Nat
  k : Nat
  j : Nat
  m : Nat
  f : Nat
  N : Int
  By : Int
  a1 : Option Addr
  c1 : Nat
  a2 : Option Addr
  c2 : Nat
  a3 : Option Addr
  c3 : Nat
  fv : AV

def rep1 (n : Nat) : List Unit := List.replicate n ()
theorem rep1_len (n : Nat) : (rep1 n).length = n := List.length_replicate
theorem rep1_succ (n : Nat) : rep1 n ++ [()] = rep1 (n + 1) := (List.replicate_succ' (n := n) (a := ())).symm

def eqsT (s : List UInt8) (b : Nat) (y : EqS) : Tmps := [(0, .str s), (1, .int .i64 1), (5, sl eqX 1 (rep1 y.j) (.own y.a1 y.c1)), (6, sl pcX 3 (rep1 y.m) (.own y.a2 y.c2)), (7, .ptr b 0), (8, .int .i64 y.k)]
def eqsH (b : Nat) (y : EqS) : AHeap := [.box b 141 (.agg [.int .i64 y.N, .int .i64 y.By, y.fv]), .tok y.a3 y.c3 (rep1 y.f).length 5 162, .tok y.a2 y.c2 (rep1 y.m).length 3 141, .tok y.a1 y.c1 (rep1 y.j).length 1 138]

structure EqI (s : List UInt8) (c : Nat) (y : EqS) : Prop where
  cnt : ∃ r, cntE s y.n y.k = some r ∧ y.j + r = c
  n60 : y.n ≤ 60
  m60 : y.m + y.n ≤ 60
  f60 : y.f + y.n ≤ 60
  j60 : y.j + y.n ≤ 60
  lo : -1152921504606846976 ≤ y.N * 2 ^ y.n
  hi : y.N * 2 ^ y.n ≤ 1152921504606846976
  k1 : y.k ≤ s.length + 1
  fs : Sub y.fv (sl frmX 5 (rep1 y.f) (.own y.a3 y.c3))

theorem pow_pos' (n : Nat) : (1 : Int) ≤ 2 ^ n := by
  induction n with
  | zero => decide
  | succ n ih => rw [Int.pow_succ]; omega
theorem EqI.bound {s : List UInt8} {c : Nat} {y : EqS} (h : EqI s c y) : -1152921504606846976 ≤ y.N ∧ y.N ≤ 1152921504606846976 := by
  have h1 := pow_pos' y.n
  have h2 := h.lo
  have h3 := h.hi
  generalize (2 : Int) ^ y.n = P at h1 h2 h3
  constructor
  · rcases Int.lt_or_le y.N 0 with x | x
    · have : y.N * P ≤ y.N * 1 := Int.mul_le_mul_of_nonpos_left (by omega) h1
      omega
    · omega
  · rcases Int.lt_or_le y.N 0 with x | x
    · omega
    · have : y.N * 1 ≤ y.N * P := Int.mul_le_mul_of_nonneg_left h1 x
      omega
theorem two60 (n : Nat) (h : n ≤ 60) : (2 : Int) ^ n ≤ 1152921504606846976 := by
  have : (2 : Nat) ^ n ≤ 2 ^ 60 := Nat.pow_le_pow_right (by decide) h
  have h2 : ((2 ^ n : Nat) : Int) ≤ ((2 ^ 60 : Nat) : Int) := by omega
  rw [Int.natCast_pow] at h2
  exact h2



/-- One round less. -/
theorem EqI.step {s : List UInt8} {c : Nat} {y : EqS} (h : EqI s c y) (hk : y.k ≤ s.length) : ∃ n k' r, y.n = n + 1 ∧ nextE s y.k = some k' ∧ cntE s n k' = some r ∧ y.j + (r + if y.k = s.length ∨ s.getD y.k 0 = 59 then 1 else 0) = c := by
  obtain ⟨r, h1, h2⟩ := h.cnt
  cases hn : y.n with
  | zero => rw [hn] at h1; cases h1
  | succ n =>
    rw [hn] at h1
    rw [cntE, if_neg (by omega)] at h1
    cases hx : nextE s y.k with
    | none => rw [hx] at h1; cases h1
    | some k' =>
      rw [hx] at h1
      simp only at h1
      cases hc : cntE s n k' with
      | none => rw [hc] at h1; cases h1
      | some r' =>
        rw [hc] at h1
        simp only [Option.some.injEq] at h1
        exact ⟨n, k', r', rfl, rfl, hc, by rw [h1]; exact h2⟩

theorem EqI.mk' {s : List UInt8} {c n k' r : Nat} {y : EqS} (h : EqI s c y) (hn : y.n = n + 1) {j' m' f' : Nat} {N' By' : Int} {a1 : Option Addr} {c1 : Nat} {a2 : Option Addr} {c2 : Nat} {a3 : Option Addr} {c3 : Nat}
    (hc : cntE s n k' = some r) (hj : j' + r = c) (hj2 : j' ≤ y.j + 1) (hm : m' ≤ y.m + 1) (hf : f' ≤ y.f + 1) (hN : N' = y.N ∨ N' = 2 * y.N ∨ N' = 1 ∨ N' = -1) (hk : k' ≤ s.length + 1) {fv : AV} (hs : Sub fv (sl frmX 5 (rep1 f') (.own a3 c3))) : EqI s c ⟨n, k', j', m', f', N', By', a1, c1, a2, c2, a3, c3, fv⟩ := by
  have h1 := h.lo
  have h2 := h.hi
  have h60 := h.n60
  have t60 := two60 n (by omega)
  have p1 := pow_pos' n
  rw [hn, Int.pow_succ] at h1 h2
  refine ⟨⟨r, hc, hj⟩, by simp only; omega, ?_, ?_, ?_, ?_, ?_, hk, hs⟩
  · have := h.m60; simp only; omega
  · have := h.f60; simp only; omega
  · have := h.j60; simp only; omega
  all_goals
    simp only
    generalize (2 : Int) ^ n = P at *
    have e : y.N * (P * 2) = 2 * (y.N * P) := by rw [← Int.mul_assoc, Int.mul_comm]
    rw [e] at h1 h2
    rcases hN with rfl | rfl | rfl | rfl
    · omega
    · rw [Int.mul_assoc]; omega
    · omega
    · omega

theorem not_sep {x : UInt8} (h1 : ¬ x = 59) (h2 : ¬ x = 43) (h3 : ¬ x = 45) (h4 : ¬ x = 32) (h5 : ¬ x = 42) (h6 : ¬ x = 50) (h7 : ¬ x = 109) (h8 : ¬ x = 110) : ¬ [59, 43, 45, 32, 42, 50, 109, 110].contains x = true := by
  simp [h1, h2, h3, h4, h5, h6, h7, h8]

theorem cbEqs21 : Callable Tryz.prog 73 := fun _ _ => by kernel_rfl
set_option maxHeartbeats 6400000 in
set_option maxRecDepth 100000 in
theorem eqs21_c (s : List UInt8) (c : Nat) (hs : s.length ≤ 1000) (hc : cntE s 60 0 = some c) : PCalls Tryz.prog 73 [.str s, .int .i64 1] (sl eqX 1 (rep1 c) .view) := by
  refine pcalls_of_awp tyok cbEqs21 Tryz.func73 rfl rfl ?_
  ((repeat (first | refine wK ?_ | refine awp_seq_k (fun K hK => ?_) | refine areg_text mixed tyok (by decide +kernel) ?_ | ((repeat ((fail_if_success (refine hK _ _ ?_)); clear hK)); refine hK _ _ ?_; clear hK))); ((first | refine qal tyok (fun b7 => ?_) | refine qbox (fun b7 => ?_) | refine qboxV (fun b7 => ?_))); (repeat (first | refine wK ?_ | refine awp_seq_k (fun K hK => ?_) | refine areg_text mixed tyok (by decide +kernel) ?_ | refine qal tyok (fun bx => ?_) | refine qbox (fun bx => ?_) | refine qboxV (fun bx => ?_) | ((repeat ((fail_if_success (refine hK _ _ ?_)); clear hK)); refine hK _ _ ?_; clear hK))))
  refine awp_tok0 5 162 ?_
  refine awp_tok0 3 141 ?_
  refine awp_tok0 1 138 ?_
  refine awp_loopP (ι := { y : EqS // EqI s c y }) (fun y => eqsT s b7 y.1) (fun y => eqsH b7 y.1) (fun y => y.1.n) ⟨⟨60, 0, 0, 0, 0, 1, 0, none, 0, none, 0, none, 0, .nils⟩, ⟨⟨c, hc, Nat.zero_add c⟩, Nat.le_refl _, Nat.le_refl _, Nat.le_refl _, Nat.le_refl _, by decide, by decide, Nat.zero_le _, Sub.sl_nil frmX 5⟩⟩ (by unfold eqsT; (repeat (first | exact True.intro | refine ⟨⟨_, rfl, Sub.refl _⟩, ?_⟩ | refine ⟨⟨_, rfl, Sub.nilso _ _⟩, ?_⟩ | refine ⟨⟨_, rfl, sl_tail _ _ _ _ _⟩, ?_⟩ | refine ⟨⟨_, rfl, Sub.of_eq (by first | rfl | (congr 1; first | omega | (simp only; omega)) | (simp; done) | (simp; omega))⟩, ?_⟩ | refine ⟨⟨_, rfl, Sub.view _ _ _ _⟩, ?_⟩))) (by unfold eqsH; (repeat (first | exact pickNil | refine pickD (by (first | exact .here | exact .there (.here) | exact .there (.there (.here)) | exact .there (.there (.there (.here))) | exact .there (.there (.there (.there (.here)))) | exact .there (.there (.there (.there (.there (.here))))) | exact .there (.there (.there (.there (.there (.there (.here)))))) | exact .there (.there (.there (.there (.there (.there (.there (.here))))))) | exact .there (.there (.there (.there (.there (.there (.there (.there (.here)))))))) | exact .there (.there (.there (.there (.there (.there (.there (.there (.there (.here))))))))))) ?_))) ?_
  rintro ⟨y, hy⟩
  have hb := hy.bound
  have hk1 := hy.k1
  simp only
  by_cases hle : y.k ≤ s.length
  rotate_left
  · have hgt : ¬ (y.k : Int) ≤ s.length := by omega
    have hjc : y.j = c := by
      obtain ⟨r, h1, h2⟩ := hy.cnt
      cases hn : y.n with
      | zero => rw [hn] at h1; cases h1
      | succ n =>
        rw [hn, cntE, if_pos (by omega)] at h1
        cases h1
        exact h2
    subst hjc
    unfold eqsT eqsH
    repeat (first | refine wKB ?_ | refine awp_seq_k (fun K hK => ?_) | refine areg_text mixed tyok (by decide +kernel) ?_ | refine qal tyok (fun bx => ?_) | refine qbox (fun bx => ?_) | refine qboxV (fun bx => ?_) | ((repeat ((fail_if_success (refine hK _ _ ?_)); clear hK)); refine hK _ _ ?_; clear hK))
    refine r1 ?_
    exact Sub.view _ _ _ _
  have hle' : (y.k : Int) ≤ s.length := by omega
  obtain ⟨n, k', r, hn, hnx, hcn, hjr⟩ := hy.step hle
  have m60 := hy.m60
  have f60 := hy.f60
  have j60 := hy.j60
  have fs := hy.fs
  have lf := rep1_len y.f
  have lm := rep1_len y.m
  have lj := rep1_len y.j
  have hmk := fun {j' m' f' N' By' a1 c1 a2 c2 a3 c3} => EqI.mk' (s := s) (c := c) (n := n) (k' := k') (r := r) (y := y) hy hn (j' := j') (m' := m') (f' := f') (N' := N') (By' := By') (a1 := a1) (c1 := c1) (a2 := a2) (c2 := c2) (a3 := a3) (c3 := c3) hcn
  obtain ⟨y1, k, j, m, f, N, By, a1, c1, a2, c2, a3, c3, fv⟩ := y
  simp only at *
  subst hn
  unfold eqsT eqsH
  dsimp only
  refine awp_boxSub [] (v' := .agg [.int .i64 N, .int .i64 By, sl frmX 5 (rep1 f) (.own a3 c3)]) (subAgg (.cons (Sub.refl _) (.cons (Sub.refl _) (.cons fs .nil)))) ?_
  refine awp_tok0 5 162 ?_
  refine awp_tok0 3 141 ?_
  have elP : SubL [AV.int .i64 N, .int .i64 By, sl frmX 5 (rep1 f) (.own a3 c3)] (pcX ()) := .cons (subAny _) (.cons (subAny _) (.cons (subAny _) .nil))
  have hf2 : 0 < f → ((rep1 f).length : Int) > 0 := fun _ => by omega
  have hf3 : ¬ 0 < f → ¬ ((rep1 f).length : Int) > 0 := fun _ => by omega
  by_cases he : k = s.length
  · have e1 : k' = k + 1 := by unfold nextE at hnx; rw [if_pos he] at hnx; exact (Option.some.inj hnx).symm
    rw [if_pos (.inl he)] at hjr
    have he' : (k : Int) = s.length := by omega
    subst e1
    by_cases hf : 0 < f
    · have hf' := hf2 hf
      repeat (first | refine wKB ?_ | refine awp_seq_k (fun K hK => ?_) | refine areg_text mixed tyok (by decide +kernel) ?_ | refine qal tyok (fun bx => ?_) | refine qbox (fun bx => ?_) | refine qboxV (fun bx => ?_) | ((repeat ((fail_if_success (refine hK _ _ ?_)); clear hK)); refine hK _ _ ?_; clear hK))
      refine qapp tyok pcX (rep1 m) () elP ?_ fun ad cp => ?_
      · simp only
        omega
      rw [rep1_succ]
      repeat (first | refine wKB ?_ | refine awp_seq_k (fun K hK => ?_) | refine areg_text mixed tyok (by decide +kernel) ?_ | refine qal tyok (fun bx => ?_) | refine qbox (fun bx => ?_) | refine qboxV (fun bx => ?_) | ((repeat ((fail_if_success (refine hK _ _ ?_)); clear hK)); refine hK _ _ ?_; clear hK))
      refine qapp tyok eqX (rep1 j) () (.cons (subAny _) .nil) ?_ fun ad2 cp2 => ?_
      · simp only
        omega
      rw [rep1_succ]
      repeat (first | refine wKB ?_ | refine awp_seq_k (fun K hK => ?_) | refine areg_text mixed tyok (by decide +kernel) ?_ | refine qal tyok (fun bx => ?_) | refine qbox (fun bx => ?_) | refine qboxV (fun bx => ?_) | ((repeat ((fail_if_success (refine hK _ _ ?_)); clear hK)); refine hK _ _ ?_; clear hK))
      exact ⟨⟨⟨n, k + 1, j + 1, 0, 0, 1, 0, ad2, cp2, none, 0, none, 0, .nils⟩, hmk (by omega) (Nat.le_refl _) (Nat.zero_le _) (Nat.zero_le _) (.inr (.inr (.inl rfl))) (by omega) (Sub.sl_nil frmX 5)⟩, (by (repeat (first | exact True.intro | refine ⟨⟨_, rfl, Sub.refl _⟩, ?_⟩ | refine ⟨⟨_, rfl, Sub.nilso _ _⟩, ?_⟩ | refine ⟨⟨_, rfl, sl_tail _ _ _ _ _⟩, ?_⟩ | refine ⟨⟨_, rfl, Sub.of_eq (by first | rfl | (congr 1; first | omega | (simp only; omega)) | (simp; done) | (simp; omega))⟩, ?_⟩ | refine ⟨⟨_, rfl, Sub.view _ _ _ _⟩, ?_⟩))), (by (repeat (first | exact pickNil | refine pickD (by (first | exact .here | exact .there (.here) | exact .there (.there (.here)) | exact .there (.there (.there (.here))) | exact .there (.there (.there (.there (.here)))) | exact .there (.there (.there (.there (.there (.here))))) | exact .there (.there (.there (.there (.there (.there (.here)))))) | exact .there (.there (.there (.there (.there (.there (.there (.here))))))) | exact .there (.there (.there (.there (.there (.there (.there (.there (.here)))))))) | exact .there (.there (.there (.there (.there (.there (.there (.there (.there (.here))))))))))) ?_))), Nat.lt_succ_self _⟩
    · have hf' := hf3 hf
      repeat (first | refine wKB ?_ | refine awp_seq_k (fun K hK => ?_) | refine areg_text mixed tyok (by decide +kernel) ?_ | refine qal tyok (fun bx => ?_) | refine qbox (fun bx => ?_) | refine qboxV (fun bx => ?_) | ((repeat ((fail_if_success (refine hK _ _ ?_)); clear hK)); refine hK _ _ ?_; clear hK))
      refine qapp tyok eqX (rep1 j) () (.cons (subAny _) .nil) ?_ fun ad2 cp2 => ?_
      · simp only
        omega
      rw [rep1_succ]
      repeat (first | refine wKB ?_ | refine awp_seq_k (fun K hK => ?_) | refine areg_text mixed tyok (by decide +kernel) ?_ | refine qal tyok (fun bx => ?_) | refine qbox (fun bx => ?_) | refine qboxV (fun bx => ?_) | ((repeat ((fail_if_success (refine hK _ _ ?_)); clear hK)); refine hK _ _ ?_; clear hK))
      exact ⟨⟨⟨n, k + 1, j + 1, 0, 0, 1, 0, ad2, cp2, none, 0, none, 0, .nils⟩, hmk (by omega) (Nat.le_refl _) (Nat.zero_le _) (Nat.zero_le _) (.inr (.inr (.inl rfl))) (by omega) (Sub.sl_nil frmX 5)⟩, (by (repeat (first | exact True.intro | refine ⟨⟨_, rfl, Sub.refl _⟩, ?_⟩ | refine ⟨⟨_, rfl, Sub.nilso _ _⟩, ?_⟩ | refine ⟨⟨_, rfl, sl_tail _ _ _ _ _⟩, ?_⟩ | refine ⟨⟨_, rfl, Sub.of_eq (by first | rfl | (congr 1; first | omega | (simp only; omega)) | (simp; done) | (simp; omega))⟩, ?_⟩ | refine ⟨⟨_, rfl, Sub.view _ _ _ _⟩, ?_⟩))), (by (repeat (first | exact pickNil | refine pickD (by (first | exact .here | exact .there (.here) | exact .there (.there (.here)) | exact .there (.there (.there (.here))) | exact .there (.there (.there (.there (.here)))) | exact .there (.there (.there (.there (.there (.here))))) | exact .there (.there (.there (.there (.there (.there (.here)))))) | exact .there (.there (.there (.there (.there (.there (.there (.here))))))) | exact .there (.there (.there (.there (.there (.there (.there (.there (.here)))))))) | exact .there (.there (.there (.there (.there (.there (.there (.there (.there (.here))))))))))) ?_))), Nat.lt_succ_self _⟩
  have hlt : k < s.length := by omega
  have hlt' : (k : Int) < s.length := by omega
  have he' : ¬ (k : Int) = s.length := by omega
  have ne : ∀ c : UInt8, ¬ s.getD k 0 = c → ¬ ((s.getD ((k : Int)).toNat 0).toNat : Int) = (c.toNat : Int) := fun c h e => h (UInt8.toNat_inj.1 (show (s.getD k 0).toNat = c.toNat by exact Int.ofNat_inj.1 e))
  have eq : ∀ c : UInt8, s.getD k 0 = c → ((s.getD ((k : Int)).toNat 0).toNat : Int) = (c.toNat : Int) := fun c h => by
    show ((s.getD k 0).toNat : Int) = _
    rw [h]
  have hsep : [59, 43, 45, 32, 42, 50, 109, 110].contains (s.getD k 0) = true → k' = k + 1 := fun hc => by
    unfold nextE at hnx
    rw [if_neg he, if_pos hc] at hnx
    exact (Option.some.inj hnx).symm
  by_cases h59 : s.getD k 0 = 59
  · have e1 := hsep (by rw [h59]; decide)
    have g59 : ((s.getD ((k : Int)).toNat 0).toNat : Int) = 59 := eq 59 h59
    rw [if_pos (.inr h59)] at hjr
    subst e1
    by_cases hf : 0 < f
    · have hf' := hf2 hf
      repeat (first | refine wKB ?_ | refine awp_seq_k (fun K hK => ?_) | refine areg_text mixed tyok (by decide +kernel) ?_ | refine qal tyok (fun bx => ?_) | refine qbox (fun bx => ?_) | refine qboxV (fun bx => ?_) | ((repeat ((fail_if_success (refine hK _ _ ?_)); clear hK)); refine hK _ _ ?_; clear hK))
      refine qapp tyok pcX (rep1 m) () elP ?_ fun ad cp => ?_
      · simp only
        omega
      rw [rep1_succ]
      repeat (first | refine wKB ?_ | refine awp_seq_k (fun K hK => ?_) | refine areg_text mixed tyok (by decide +kernel) ?_ | refine qal tyok (fun bx => ?_) | refine qbox (fun bx => ?_) | refine qboxV (fun bx => ?_) | ((repeat ((fail_if_success (refine hK _ _ ?_)); clear hK)); refine hK _ _ ?_; clear hK))
      refine qapp tyok eqX (rep1 j) () (.cons (subAny _) .nil) ?_ fun ad2 cp2 => ?_
      · simp only
        omega
      rw [rep1_succ]
      repeat (first | refine wKB ?_ | refine awp_seq_k (fun K hK => ?_) | refine areg_text mixed tyok (by decide +kernel) ?_ | refine qal tyok (fun bx => ?_) | refine qbox (fun bx => ?_) | refine qboxV (fun bx => ?_) | ((repeat ((fail_if_success (refine hK _ _ ?_)); clear hK)); refine hK _ _ ?_; clear hK))
      exact ⟨⟨⟨n, k + 1, j + 1, 0, 0, 1, 0, ad2, cp2, none, 0, none, 0, .nils⟩, hmk (by omega) (by omega) (by omega) (by omega) (.inr (.inr (.inl rfl))) (by omega) (Sub.sl_nil frmX 5)⟩, (by (repeat (first | exact True.intro | refine ⟨⟨_, rfl, Sub.refl _⟩, ?_⟩ | refine ⟨⟨_, rfl, Sub.nilso _ _⟩, ?_⟩ | refine ⟨⟨_, rfl, sl_tail _ _ _ _ _⟩, ?_⟩ | refine ⟨⟨_, rfl, Sub.of_eq (by first | rfl | (congr 1; first | omega | (simp only; omega)) | (simp; done) | (simp; omega))⟩, ?_⟩ | refine ⟨⟨_, rfl, Sub.view _ _ _ _⟩, ?_⟩))), (by (repeat (first | exact pickNil | refine pickD (by (first | exact .here | exact .there (.here) | exact .there (.there (.here)) | exact .there (.there (.there (.here))) | exact .there (.there (.there (.there (.here)))) | exact .there (.there (.there (.there (.there (.here))))) | exact .there (.there (.there (.there (.there (.there (.here)))))) | exact .there (.there (.there (.there (.there (.there (.there (.here))))))) | exact .there (.there (.there (.there (.there (.there (.there (.there (.here)))))))) | exact .there (.there (.there (.there (.there (.there (.there (.there (.there (.here))))))))))) ?_))), Nat.lt_succ_self _⟩
    · have hf' := hf3 hf
      repeat (first | refine wKB ?_ | refine awp_seq_k (fun K hK => ?_) | refine areg_text mixed tyok (by decide +kernel) ?_ | refine qal tyok (fun bx => ?_) | refine qbox (fun bx => ?_) | refine qboxV (fun bx => ?_) | ((repeat ((fail_if_success (refine hK _ _ ?_)); clear hK)); refine hK _ _ ?_; clear hK))
      refine qapp tyok eqX (rep1 j) () (.cons (subAny _) .nil) ?_ fun ad2 cp2 => ?_
      · simp only
        omega
      rw [rep1_succ]
      repeat (first | refine wKB ?_ | refine awp_seq_k (fun K hK => ?_) | refine areg_text mixed tyok (by decide +kernel) ?_ | refine qal tyok (fun bx => ?_) | refine qbox (fun bx => ?_) | refine qboxV (fun bx => ?_) | ((repeat ((fail_if_success (refine hK _ _ ?_)); clear hK)); refine hK _ _ ?_; clear hK))
      exact ⟨⟨⟨n, k + 1, j + 1, 0, 0, 1, 0, ad2, cp2, none, 0, none, 0, .nils⟩, hmk (by omega) (by omega) (by omega) (by omega) (.inr (.inr (.inl rfl))) (by omega) (Sub.sl_nil frmX 5)⟩, (by (repeat (first | exact True.intro | refine ⟨⟨_, rfl, Sub.refl _⟩, ?_⟩ | refine ⟨⟨_, rfl, Sub.nilso _ _⟩, ?_⟩ | refine ⟨⟨_, rfl, sl_tail _ _ _ _ _⟩, ?_⟩ | refine ⟨⟨_, rfl, Sub.of_eq (by first | rfl | (congr 1; first | omega | (simp only; omega)) | (simp; done) | (simp; omega))⟩, ?_⟩ | refine ⟨⟨_, rfl, Sub.view _ _ _ _⟩, ?_⟩))), (by (repeat (first | exact pickNil | refine pickD (by (first | exact .here | exact .there (.here) | exact .there (.there (.here)) | exact .there (.there (.there (.here))) | exact .there (.there (.there (.there (.here)))) | exact .there (.there (.there (.there (.there (.here))))) | exact .there (.there (.there (.there (.there (.there (.here)))))) | exact .there (.there (.there (.there (.there (.there (.there (.here))))))) | exact .there (.there (.there (.there (.there (.there (.there (.there (.here)))))))) | exact .there (.there (.there (.there (.there (.there (.there (.there (.there (.here))))))))))) ?_))), Nat.lt_succ_self _⟩
  by_cases h43 : s.getD k 0 = 43
  · have e1 := hsep (by rw [h43]; decide)
    have g43 : ((s.getD ((k : Int)).toNat 0).toNat : Int) = 43 := eq 43 h43
    have g59 : ¬ ((s.getD ((k : Int)).toNat 0).toNat : Int) = 59 := ne 59 h59
    rw [if_neg (fun h => h.elim he (fun h => by rw [h43] at h; exact absurd h (by decide)))] at hjr
    subst e1
    by_cases hf : 0 < f
    · have hf' := hf2 hf
      repeat (first | refine wKB ?_ | refine awp_seq_k (fun K hK => ?_) | refine areg_text mixed tyok (by decide +kernel) ?_ | refine qal tyok (fun bx => ?_) | refine qbox (fun bx => ?_) | refine qboxV (fun bx => ?_) | ((repeat ((fail_if_success (refine hK _ _ ?_)); clear hK)); refine hK _ _ ?_; clear hK))
      refine qapp tyok pcX (rep1 m) () elP ?_ fun ad cp => ?_
      · simp only
        omega
      rw [rep1_succ]
      repeat (first | refine wKB ?_ | refine awp_seq_k (fun K hK => ?_) | refine areg_text mixed tyok (by decide +kernel) ?_ | refine qal tyok (fun bx => ?_) | refine qbox (fun bx => ?_) | refine qboxV (fun bx => ?_) | ((repeat ((fail_if_success (refine hK _ _ ?_)); clear hK)); refine hK _ _ ?_; clear hK))
      exact ⟨⟨⟨n, k + 1, j, m + 1, 0, 1, 0, a1, c1, ad, cp, none, 0, .nils⟩, hmk (by omega) (by omega) (by omega) (by omega) (.inr (.inr (.inl rfl))) (by omega) (Sub.sl_nil frmX 5)⟩, (by (repeat (first | exact True.intro | refine ⟨⟨_, rfl, Sub.refl _⟩, ?_⟩ | refine ⟨⟨_, rfl, Sub.nilso _ _⟩, ?_⟩ | refine ⟨⟨_, rfl, sl_tail _ _ _ _ _⟩, ?_⟩ | refine ⟨⟨_, rfl, Sub.of_eq (by first | rfl | (congr 1; first | omega | (simp only; omega)) | (simp; done) | (simp; omega))⟩, ?_⟩ | refine ⟨⟨_, rfl, Sub.view _ _ _ _⟩, ?_⟩))), (by (repeat (first | exact pickNil | refine pickD (by (first | exact .here | exact .there (.here) | exact .there (.there (.here)) | exact .there (.there (.there (.here))) | exact .there (.there (.there (.there (.here)))) | exact .there (.there (.there (.there (.there (.here))))) | exact .there (.there (.there (.there (.there (.there (.here)))))) | exact .there (.there (.there (.there (.there (.there (.there (.here))))))) | exact .there (.there (.there (.there (.there (.there (.there (.there (.here)))))))) | exact .there (.there (.there (.there (.there (.there (.there (.there (.there (.here))))))))))) ?_))), Nat.lt_succ_self _⟩
    · have hf' := hf3 hf
      repeat (first | refine wKB ?_ | refine awp_seq_k (fun K hK => ?_) | refine areg_text mixed tyok (by decide +kernel) ?_ | refine qal tyok (fun bx => ?_) | refine qbox (fun bx => ?_) | refine qboxV (fun bx => ?_) | ((repeat ((fail_if_success (refine hK _ _ ?_)); clear hK)); refine hK _ _ ?_; clear hK))
      exact ⟨⟨⟨n, k + 1, j, m, 0, 1, 0, a1, c1, a2, c2, none, 0, .nils⟩, hmk (by omega) (by omega) (by omega) (by omega) (.inr (.inr (.inl rfl))) (by omega) (Sub.sl_nil frmX 5)⟩, (by (repeat (first | exact True.intro | refine ⟨⟨_, rfl, Sub.refl _⟩, ?_⟩ | refine ⟨⟨_, rfl, Sub.nilso _ _⟩, ?_⟩ | refine ⟨⟨_, rfl, sl_tail _ _ _ _ _⟩, ?_⟩ | refine ⟨⟨_, rfl, Sub.of_eq (by first | rfl | (congr 1; first | omega | (simp only; omega)) | (simp; done) | (simp; omega))⟩, ?_⟩ | refine ⟨⟨_, rfl, Sub.view _ _ _ _⟩, ?_⟩))), (by (repeat (first | exact pickNil | refine pickD (by (first | exact .here | exact .there (.here) | exact .there (.there (.here)) | exact .there (.there (.there (.here))) | exact .there (.there (.there (.there (.here)))) | exact .there (.there (.there (.there (.there (.here))))) | exact .there (.there (.there (.there (.there (.there (.here)))))) | exact .there (.there (.there (.there (.there (.there (.there (.here))))))) | exact .there (.there (.there (.there (.there (.there (.there (.there (.here)))))))) | exact .there (.there (.there (.there (.there (.there (.there (.there (.there (.here))))))))))) ?_))), Nat.lt_succ_self _⟩
  by_cases h45 : s.getD k 0 = 45
  · have e1 := hsep (by rw [h45]; decide)
    have g45 : ((s.getD ((k : Int)).toNat 0).toNat : Int) = 45 := eq 45 h45
    have g59 : ¬ ((s.getD ((k : Int)).toNat 0).toNat : Int) = 59 := ne 59 h59
    have g43 : ¬ ((s.getD ((k : Int)).toNat 0).toNat : Int) = 43 := ne 43 h43
    rw [if_neg (fun h => h.elim he (fun h => by rw [h45] at h; exact absurd h (by decide)))] at hjr
    subst e1
    by_cases hf : 0 < f
    · have hf' := hf2 hf
      repeat (first | refine wKB ?_ | refine awp_seq_k (fun K hK => ?_) | refine areg_text mixed tyok (by decide +kernel) ?_ | refine qal tyok (fun bx => ?_) | refine qbox (fun bx => ?_) | refine qboxV (fun bx => ?_) | ((repeat ((fail_if_success (refine hK _ _ ?_)); clear hK)); refine hK _ _ ?_; clear hK))
      refine qapp tyok pcX (rep1 m) () elP ?_ fun ad cp => ?_
      · simp only
        omega
      rw [rep1_succ]
      repeat (first | refine wKB ?_ | refine awp_seq_k (fun K hK => ?_) | refine areg_text mixed tyok (by decide +kernel) ?_ | refine qal tyok (fun bx => ?_) | refine qbox (fun bx => ?_) | refine qboxV (fun bx => ?_) | ((repeat ((fail_if_success (refine hK _ _ ?_)); clear hK)); refine hK _ _ ?_; clear hK))
      exact ⟨⟨⟨n, k + 1, j, m + 1, 0, -1, 0, a1, c1, ad, cp, none, 0, .nils⟩, hmk (by omega) (by omega) (by omega) (by omega) (.inr (.inr (.inr rfl))) (by omega) (Sub.sl_nil frmX 5)⟩, (by (repeat (first | exact True.intro | refine ⟨⟨_, rfl, Sub.refl _⟩, ?_⟩ | refine ⟨⟨_, rfl, Sub.nilso _ _⟩, ?_⟩ | refine ⟨⟨_, rfl, sl_tail _ _ _ _ _⟩, ?_⟩ | refine ⟨⟨_, rfl, Sub.of_eq (by first | rfl | (congr 1; first | omega | (simp only; omega)) | (simp; done) | (simp; omega))⟩, ?_⟩ | refine ⟨⟨_, rfl, Sub.view _ _ _ _⟩, ?_⟩))), (by (repeat (first | exact pickNil | refine pickD (by (first | exact .here | exact .there (.here) | exact .there (.there (.here)) | exact .there (.there (.there (.here))) | exact .there (.there (.there (.there (.here)))) | exact .there (.there (.there (.there (.there (.here))))) | exact .there (.there (.there (.there (.there (.there (.here)))))) | exact .there (.there (.there (.there (.there (.there (.there (.here))))))) | exact .there (.there (.there (.there (.there (.there (.there (.there (.here)))))))) | exact .there (.there (.there (.there (.there (.there (.there (.there (.there (.here))))))))))) ?_))), Nat.lt_succ_self _⟩
    · have hf' := hf3 hf
      repeat (first | refine wKB ?_ | refine awp_seq_k (fun K hK => ?_) | refine areg_text mixed tyok (by decide +kernel) ?_ | refine qal tyok (fun bx => ?_) | refine qbox (fun bx => ?_) | refine qboxV (fun bx => ?_) | ((repeat ((fail_if_success (refine hK _ _ ?_)); clear hK)); refine hK _ _ ?_; clear hK))
      exact ⟨⟨⟨n, k + 1, j, m, 0, -1, 0, a1, c1, a2, c2, none, 0, .nils⟩, hmk (by omega) (by omega) (by omega) (by omega) (.inr (.inr (.inr rfl))) (by omega) (Sub.sl_nil frmX 5)⟩, (by (repeat (first | exact True.intro | refine ⟨⟨_, rfl, Sub.refl _⟩, ?_⟩ | refine ⟨⟨_, rfl, Sub.nilso _ _⟩, ?_⟩ | refine ⟨⟨_, rfl, sl_tail _ _ _ _ _⟩, ?_⟩ | refine ⟨⟨_, rfl, Sub.of_eq (by first | rfl | (congr 1; first | omega | (simp only; omega)) | (simp; done) | (simp; omega))⟩, ?_⟩ | refine ⟨⟨_, rfl, Sub.view _ _ _ _⟩, ?_⟩))), (by (repeat (first | exact pickNil | refine pickD (by (first | exact .here | exact .there (.here) | exact .there (.there (.here)) | exact .there (.there (.there (.here))) | exact .there (.there (.there (.there (.here)))) | exact .there (.there (.there (.there (.there (.here))))) | exact .there (.there (.there (.there (.there (.there (.here)))))) | exact .there (.there (.there (.there (.there (.there (.there (.here))))))) | exact .there (.there (.there (.there (.there (.there (.there (.there (.here)))))))) | exact .there (.there (.there (.there (.there (.there (.there (.there (.there (.here))))))))))) ?_))), Nat.lt_succ_self _⟩
  by_cases h32 : s.getD k 0 = 32
  · have e1 := hsep (by rw [h32]; decide)
    have g32 : ((s.getD ((k : Int)).toNat 0).toNat : Int) = 32 := eq 32 h32
    have g59 : ¬ ((s.getD ((k : Int)).toNat 0).toNat : Int) = 59 := ne 59 h59
    have g43 : ¬ ((s.getD ((k : Int)).toNat 0).toNat : Int) = 43 := ne 43 h43
    have g45 : ¬ ((s.getD ((k : Int)).toNat 0).toNat : Int) = 45 := ne 45 h45
    rw [if_neg (fun h => h.elim he (fun h => by rw [h32] at h; exact absurd h (by decide)))] at hjr
    subst e1
    repeat (first | refine wKB ?_ | refine awp_seq_k (fun K hK => ?_) | refine areg_text mixed tyok (by decide +kernel) ?_ | refine qal tyok (fun bx => ?_) | refine qbox (fun bx => ?_) | refine qboxV (fun bx => ?_) | ((repeat ((fail_if_success (refine hK _ _ ?_)); clear hK)); refine hK _ _ ?_; clear hK))
    exact ⟨⟨⟨n, k + 1, j, m, f, N, By, a1, c1, a2, c2, a3, c3, sl frmX 5 (rep1 f) (.own a3 c3)⟩, hmk (by omega) (by omega) (by omega) (by omega) (.inl rfl) (by omega) (Sub.refl _)⟩, (by (repeat (first | exact True.intro | refine ⟨⟨_, rfl, Sub.refl _⟩, ?_⟩ | refine ⟨⟨_, rfl, Sub.nilso _ _⟩, ?_⟩ | refine ⟨⟨_, rfl, sl_tail _ _ _ _ _⟩, ?_⟩ | refine ⟨⟨_, rfl, Sub.of_eq (by first | rfl | (congr 1; first | omega | (simp only; omega)) | (simp; done) | (simp; omega))⟩, ?_⟩ | refine ⟨⟨_, rfl, Sub.view _ _ _ _⟩, ?_⟩))), (by (repeat (first | exact pickNil | refine pickD (by (first | exact .here | exact .there (.here) | exact .there (.there (.here)) | exact .there (.there (.there (.here))) | exact .there (.there (.there (.there (.here)))) | exact .there (.there (.there (.there (.there (.here))))) | exact .there (.there (.there (.there (.there (.there (.here)))))) | exact .there (.there (.there (.there (.there (.there (.there (.here))))))) | exact .there (.there (.there (.there (.there (.there (.there (.there (.here)))))))) | exact .there (.there (.there (.there (.there (.there (.there (.there (.there (.here))))))))))) ?_))), Nat.lt_succ_self _⟩
  by_cases h42 : s.getD k 0 = 42
  · have e1 := hsep (by rw [h42]; decide)
    have g42 : ((s.getD ((k : Int)).toNat 0).toNat : Int) = 42 := eq 42 h42
    have g59 : ¬ ((s.getD ((k : Int)).toNat 0).toNat : Int) = 59 := ne 59 h59
    have g43 : ¬ ((s.getD ((k : Int)).toNat 0).toNat : Int) = 43 := ne 43 h43
    have g45 : ¬ ((s.getD ((k : Int)).toNat 0).toNat : Int) = 45 := ne 45 h45
    have g32 : ¬ ((s.getD ((k : Int)).toNat 0).toNat : Int) = 32 := ne 32 h32
    rw [if_neg (fun h => h.elim he (fun h => by rw [h42] at h; exact absurd h (by decide)))] at hjr
    subst e1
    repeat (first | refine wKB ?_ | refine awp_seq_k (fun K hK => ?_) | refine areg_text mixed tyok (by decide +kernel) ?_ | refine qal tyok (fun bx => ?_) | refine qbox (fun bx => ?_) | refine qboxV (fun bx => ?_) | ((repeat ((fail_if_success (refine hK _ _ ?_)); clear hK)); refine hK _ _ ?_; clear hK))
    exact ⟨⟨⟨n, k + 1, j, m, f, N, By, a1, c1, a2, c2, a3, c3, sl frmX 5 (rep1 f) (.own a3 c3)⟩, hmk (by omega) (by omega) (by omega) (by omega) (.inl rfl) (by omega) (Sub.refl _)⟩, (by (repeat (first | exact True.intro | refine ⟨⟨_, rfl, Sub.refl _⟩, ?_⟩ | refine ⟨⟨_, rfl, Sub.nilso _ _⟩, ?_⟩ | refine ⟨⟨_, rfl, sl_tail _ _ _ _ _⟩, ?_⟩ | refine ⟨⟨_, rfl, Sub.of_eq (by first | rfl | (congr 1; first | omega | (simp only; omega)) | (simp; done) | (simp; omega))⟩, ?_⟩ | refine ⟨⟨_, rfl, Sub.view _ _ _ _⟩, ?_⟩))), (by (repeat (first | exact pickNil | refine pickD (by (first | exact .here | exact .there (.here) | exact .there (.there (.here)) | exact .there (.there (.there (.here))) | exact .there (.there (.there (.there (.here)))) | exact .there (.there (.there (.there (.there (.here))))) | exact .there (.there (.there (.there (.there (.there (.here)))))) | exact .there (.there (.there (.there (.there (.there (.there (.here))))))) | exact .there (.there (.there (.there (.there (.there (.there (.there (.here)))))))) | exact .there (.there (.there (.there (.there (.there (.there (.there (.there (.here))))))))))) ?_))), Nat.lt_succ_self _⟩
  by_cases h50 : s.getD k 0 = 50
  · have e1 := hsep (by rw [h50]; decide)
    have g50 : ((s.getD ((k : Int)).toNat 0).toNat : Int) = 50 := eq 50 h50
    have g59 : ¬ ((s.getD ((k : Int)).toNat 0).toNat : Int) = 59 := ne 59 h59
    have g43 : ¬ ((s.getD ((k : Int)).toNat 0).toNat : Int) = 43 := ne 43 h43
    have g45 : ¬ ((s.getD ((k : Int)).toNat 0).toNat : Int) = 45 := ne 45 h45
    have g32 : ¬ ((s.getD ((k : Int)).toNat 0).toNat : Int) = 32 := ne 32 h32
    have g42 : ¬ ((s.getD ((k : Int)).toNat 0).toNat : Int) = 42 := ne 42 h42
    rw [if_neg (fun h => h.elim he (fun h => by rw [h50] at h; exact absurd h (by decide)))] at hjr
    subst e1
    repeat (first | refine wKB ?_ | refine awp_seq_k (fun K hK => ?_) | refine areg_text mixed tyok (by decide +kernel) ?_ | refine qal tyok (fun bx => ?_) | refine qbox (fun bx => ?_) | refine qboxV (fun bx => ?_) | ((repeat ((fail_if_success (refine hK _ _ ?_)); clear hK)); refine hK _ _ ?_; clear hK))
    exact ⟨⟨⟨n, k + 1, j, m, f, 2 * N, By, a1, c1, a2, c2, a3, c3, sl frmX 5 (rep1 f) (.own a3 c3)⟩, hmk (by omega) (by omega) (by omega) (by omega) (.inr (.inl rfl)) (by omega) (Sub.refl _)⟩, (by (repeat (first | exact True.intro | refine ⟨⟨_, rfl, Sub.refl _⟩, ?_⟩ | refine ⟨⟨_, rfl, Sub.nilso _ _⟩, ?_⟩ | refine ⟨⟨_, rfl, sl_tail _ _ _ _ _⟩, ?_⟩ | refine ⟨⟨_, rfl, Sub.of_eq (by first | rfl | (congr 1; first | omega | (simp only; omega)) | (simp; done) | (simp; omega))⟩, ?_⟩ | refine ⟨⟨_, rfl, Sub.view _ _ _ _⟩, ?_⟩))), (by (repeat (first | exact pickNil | refine pickD (by (first | exact .here | exact .there (.here) | exact .there (.there (.here)) | exact .there (.there (.there (.here))) | exact .there (.there (.there (.there (.here)))) | exact .there (.there (.there (.there (.there (.here))))) | exact .there (.there (.there (.there (.there (.there (.here)))))) | exact .there (.there (.there (.there (.there (.there (.there (.here))))))) | exact .there (.there (.there (.there (.there (.there (.there (.there (.here)))))))) | exact .there (.there (.there (.there (.there (.there (.there (.there (.there (.here))))))))))) ?_))), Nat.lt_succ_self _⟩
  by_cases h109 : s.getD k 0 = 109
  · have e1 := hsep (by rw [h109]; decide)
    have g109 : ((s.getD ((k : Int)).toNat 0).toNat : Int) = 109 := eq 109 h109
    have g59 : ¬ ((s.getD ((k : Int)).toNat 0).toNat : Int) = 59 := ne 59 h59
    have g43 : ¬ ((s.getD ((k : Int)).toNat 0).toNat : Int) = 43 := ne 43 h43
    have g45 : ¬ ((s.getD ((k : Int)).toNat 0).toNat : Int) = 45 := ne 45 h45
    have g32 : ¬ ((s.getD ((k : Int)).toNat 0).toNat : Int) = 32 := ne 32 h32
    have g42 : ¬ ((s.getD ((k : Int)).toNat 0).toNat : Int) = 42 := ne 42 h42
    have g50 : ¬ ((s.getD ((k : Int)).toNat 0).toNat : Int) = 50 := ne 50 h50
    rw [if_neg (fun h => h.elim he (fun h => by rw [h109] at h; exact absurd h (by decide)))] at hjr
    subst e1
    repeat (first | refine wKB ?_ | refine awp_seq_k (fun K hK => ?_) | refine areg_text mixed tyok (by decide +kernel) ?_ | refine qal tyok (fun bx => ?_) | refine qbox (fun bx => ?_) | refine qboxV (fun bx => ?_) | ((repeat ((fail_if_success (refine hK _ _ ?_)); clear hK)); refine hK _ _ ?_; clear hK))
    exact ⟨⟨⟨n, k + 1, j, m, f, N, 1, a1, c1, a2, c2, a3, c3, sl frmX 5 (rep1 f) (.own a3 c3)⟩, hmk (by omega) (by omega) (by omega) (by omega) (.inl rfl) (by omega) (Sub.refl _)⟩, (by (repeat (first | exact True.intro | refine ⟨⟨_, rfl, Sub.refl _⟩, ?_⟩ | refine ⟨⟨_, rfl, Sub.nilso _ _⟩, ?_⟩ | refine ⟨⟨_, rfl, sl_tail _ _ _ _ _⟩, ?_⟩ | refine ⟨⟨_, rfl, Sub.of_eq (by first | rfl | (congr 1; first | omega | (simp only; omega)) | (simp; done) | (simp; omega))⟩, ?_⟩ | refine ⟨⟨_, rfl, Sub.view _ _ _ _⟩, ?_⟩))), (by (repeat (first | exact pickNil | refine pickD (by (first | exact .here | exact .there (.here) | exact .there (.there (.here)) | exact .there (.there (.there (.here))) | exact .there (.there (.there (.there (.here)))) | exact .there (.there (.there (.there (.there (.here))))) | exact .there (.there (.there (.there (.there (.there (.here)))))) | exact .there (.there (.there (.there (.there (.there (.there (.here))))))) | exact .there (.there (.there (.there (.there (.there (.there (.there (.here)))))))) | exact .there (.there (.there (.there (.there (.there (.there (.there (.there (.here))))))))))) ?_))), Nat.lt_succ_self _⟩
  by_cases h110 : s.getD k 0 = 110
  · have e1 := hsep (by rw [h110]; decide)
    have g110 : ((s.getD ((k : Int)).toNat 0).toNat : Int) = 110 := eq 110 h110
    have g59 : ¬ ((s.getD ((k : Int)).toNat 0).toNat : Int) = 59 := ne 59 h59
    have g43 : ¬ ((s.getD ((k : Int)).toNat 0).toNat : Int) = 43 := ne 43 h43
    have g45 : ¬ ((s.getD ((k : Int)).toNat 0).toNat : Int) = 45 := ne 45 h45
    have g32 : ¬ ((s.getD ((k : Int)).toNat 0).toNat : Int) = 32 := ne 32 h32
    have g42 : ¬ ((s.getD ((k : Int)).toNat 0).toNat : Int) = 42 := ne 42 h42
    have g50 : ¬ ((s.getD ((k : Int)).toNat 0).toNat : Int) = 50 := ne 50 h50
    have g109 : ¬ ((s.getD ((k : Int)).toNat 0).toNat : Int) = 109 := ne 109 h109
    rw [if_neg (fun h => h.elim he (fun h => by rw [h110] at h; exact absurd h (by decide)))] at hjr
    subst e1
    repeat (first | refine wKB ?_ | refine awp_seq_k (fun K hK => ?_) | refine areg_text mixed tyok (by decide +kernel) ?_ | refine qal tyok (fun bx => ?_) | refine qbox (fun bx => ?_) | refine qboxV (fun bx => ?_) | ((repeat ((fail_if_success (refine hK _ _ ?_)); clear hK)); refine hK _ _ ?_; clear hK))
    exact ⟨⟨⟨n, k + 1, j, m, f, N, 2, a1, c1, a2, c2, a3, c3, sl frmX 5 (rep1 f) (.own a3 c3)⟩, hmk (by omega) (by omega) (by omega) (by omega) (.inl rfl) (by omega) (Sub.refl _)⟩, (by (repeat (first | exact True.intro | refine ⟨⟨_, rfl, Sub.refl _⟩, ?_⟩ | refine ⟨⟨_, rfl, Sub.nilso _ _⟩, ?_⟩ | refine ⟨⟨_, rfl, sl_tail _ _ _ _ _⟩, ?_⟩ | refine ⟨⟨_, rfl, Sub.of_eq (by first | rfl | (congr 1; first | omega | (simp only; omega)) | (simp; done) | (simp; omega))⟩, ?_⟩ | refine ⟨⟨_, rfl, Sub.view _ _ _ _⟩, ?_⟩))), (by (repeat (first | exact pickNil | refine pickD (by (first | exact .here | exact .there (.here) | exact .there (.there (.here)) | exact .there (.there (.there (.here))) | exact .there (.there (.there (.there (.here)))) | exact .there (.there (.there (.there (.there (.here))))) | exact .there (.there (.there (.there (.there (.there (.here)))))) | exact .there (.there (.there (.there (.there (.there (.there (.here))))))) | exact .there (.there (.there (.there (.there (.there (.there (.there (.here)))))))) | exact .there (.there (.there (.there (.there (.there (.there (.there (.there (.here))))))))))) ?_))), Nat.lt_succ_self _⟩
  have g59 : ¬ ((s.getD ((k : Int)).toNat 0).toNat : Int) = 59 := ne 59 h59
  have g43 : ¬ ((s.getD ((k : Int)).toNat 0).toNat : Int) = 43 := ne 43 h43
  have g45 : ¬ ((s.getD ((k : Int)).toNat 0).toNat : Int) = 45 := ne 45 h45
  have g32 : ¬ ((s.getD ((k : Int)).toNat 0).toNat : Int) = 32 := ne 32 h32
  have g42 : ¬ ((s.getD ((k : Int)).toNat 0).toNat : Int) = 42 := ne 42 h42
  have g50 : ¬ ((s.getD ((k : Int)).toNat 0).toNat : Int) = 50 := ne 50 h50
  have g109 : ¬ ((s.getD ((k : Int)).toNat 0).toNat : Int) = 109 := ne 109 h109
  have g110 : ¬ ((s.getD ((k : Int)).toNat 0).toNat : Int) = 110 := ne 110 h110
  rw [if_neg (fun h => h.elim he h59)] at hjr
  have hg := kind21_c s k hs hlt
  unfold nextE at hnx
  rw [if_neg he, if_neg (not_sep h59 h43 h45 h32 h42 h50 h109 h110)] at hnx
  have hq : ∃ (q : Int) (o : Nat), kndF (s.getD k 0) = (q, (o : Int)) ∧ 2 ≤ o ∧ o ≤ 6 := by
    unfold kndF
    split
    · exact ⟨1, 2, rfl, by omega, by omega⟩
    split
    · exact ⟨2, 2, rfl, by omega, by omega⟩
    split
    · exact ⟨3, 6, rfl, by omega, by omega⟩
    · exact ⟨4, 4, rfl, by omega, by omega⟩
  obtain ⟨q, o, hqo, o1, o2⟩ := hq
  rw [hqo] at hg hnx
  simp only [Int.toNat_natCast] at hg hnx
  by_cases h2 : 2 < q
  · rw [if_pos h2] at hnx
    have h2' : q > 2 := h2
    by_cases hi : k + o + 4 < s.length
    rotate_left
    · rw [if_neg hi] at hnx
      cases hnx
    rw [if_pos hi] at hnx
    cases hnx
    repeat (first | refine wKB ?_ | refine awp_seq_k (fun K hK => ?_) | refine qal tyok (fun bx => ?_) | refine qbox (fun bx => ?_) | refine qboxV (fun bx => ?_) | refine TR.pcall rfl rfl rfl rfl True.intro rfl rfl (hg) ?_ | refine pco rfl rfl rfl rfl rfl rfl rfl rfl (fun _ => hg) ?_ | ((repeat ((fail_if_success (refine hK _ _ ?_)); clear hK)); refine hK _ _ ?_; clear hK))
    refine areg_soft mixed tyok [5, 11] [] [0, 1, 2, 3, 4, 5, 6, 7, 8, 9, 10, 11, 12, 13, 14] (by decide +kernel) ?_
    ((repeat (first | refine wKB ?_ | refine awp_seq_k (fun K hK => ?_) | refine areg_text mixed tyok (by decide +kernel) ?_ | refine TR.pcall rfl rfl rfl rfl True.intro rfl rfl (num21_c _) ?_ | refine pco rfl rfl rfl rfl rfl rfl rfl rfl (fun _ => num21_c _) ?_ | ((repeat ((fail_if_success (refine hK _ _ ?_)); clear hK)); refine hK _ _ ?_; clear hK))); ((first | refine qal tyok (fun b12 => ?_) | refine qbox (fun b12 => ?_) | refine qboxV (fun b12 => ?_))))
    (((repeat (first | refine wT ?_ | refine qal tyok (fun bx => ?_) | refine qbox (fun bx => ?_) | refine qboxV (fun bx => ?_)))); repeat (first | (with_reducible refine pQ_normal ?_) | (with_reducible refine thenQ_normal ?_) | (with_reducible refine blockQ_normal ?_) | (with_reducible refine thenQ_exit ?_) | (with_reducible refine blockQ_hit ?_) | refine blockQ_miss rfl ?_ | (with_reducible refine thenQ_ret ?_) | (with_reducible refine blockQ_ret ?_) | (with_reducible refine pQ_panic ?_) | (with_reducible refine thenQ_panic ?_) | (with_reducible refine blockQ_panic ?_)); ((repeat ((fail_if_success (refine hK _ _ ?_)); clear hK)); refine hK _ _ ?_; clear hK))
    refine awp_boxSub [] (v' := .agg [.int .u8 q, .int .i64 (numF (s.getD ((k : Int) + (o : Int)).toNat 0)), .int .i64 (numF (s.getD ((k : Int) + (o : Int) + 1).toNat 0)), .int .i64 0, .int .i64 0]) (Sub.of_eq rfl) ?_
    repeat (first | refine wKB ?_ | refine awp_seq_k (fun K hK => ?_) | refine qal tyok (fun bx => ?_) | refine qbox (fun bx => ?_) | refine qboxV (fun bx => ?_) | ((repeat ((fail_if_success (refine hK _ _ ?_)); clear hK)); refine hK _ _ ?_; clear hK))
    refine areg_soft mixed tyok [5, 11] [] [0, 1, 2, 3, 4, 5, 6, 7, 8, 9, 10, 11, 12, 13, 14, 15] (by decide +kernel) ?_
    repeat (first | refine wKB ?_ | refine awp_seq_k (fun K hK => ?_) | refine areg_text mixed tyok (by decide +kernel) ?_ | refine qal tyok (fun bx => ?_) | refine qbox (fun bx => ?_) | refine qboxV (fun bx => ?_) | refine TR.pcall rfl rfl rfl rfl True.intro rfl rfl (num21_c _) ?_ | refine pco rfl rfl rfl rfl rfl rfl rfl rfl (fun _ => num21_c _) ?_ | ((repeat ((fail_if_success (refine hK _ _ ?_)); clear hK)); refine hK _ _ ?_; clear hK))
    refine qapp tyok frmX (rep1 f) () (.cons (subAny _) (.cons (subAny _) (.cons (subAny _) (.cons (subAny _) (.cons (subAny _) .nil))))) ?_ fun ad cp => ?_
    · simp only
      omega
    rw [rep1_succ]
    repeat (first | refine wKB ?_ | refine awp_seq_k (fun K hK => ?_) | refine areg_text mixed tyok (by decide +kernel) ?_ | refine qal tyok (fun bx => ?_) | refine qbox (fun bx => ?_) | refine qboxV (fun bx => ?_) | ((repeat ((fail_if_success (refine hK _ _ ?_)); clear hK)); refine hK _ _ ?_; clear hK))
    exact ⟨⟨⟨n, k + o + 6, j, m, f + 1, N, By, a1, c1, a2, c2, ad, cp, sl frmX 5 (rep1 (f + 1)) (.own ad cp)⟩, hmk (by omega) (by omega) (by omega) (by omega) (.inl rfl) (by omega) (Sub.refl _)⟩, (by (repeat (first | exact True.intro | refine ⟨⟨_, rfl, Sub.refl _⟩, ?_⟩ | refine ⟨⟨_, rfl, Sub.nilso _ _⟩, ?_⟩ | refine ⟨⟨_, rfl, sl_tail _ _ _ _ _⟩, ?_⟩ | refine ⟨⟨_, rfl, Sub.of_eq (by first | rfl | (congr 1; first | omega | (simp only; omega)) | (simp; done) | (simp; omega))⟩, ?_⟩ | refine ⟨⟨_, rfl, Sub.view _ _ _ _⟩, ?_⟩))), (by (repeat (first | exact pickNil | refine pickD (by (first | exact .here | exact .there (.here) | exact .there (.there (.here)) | exact .there (.there (.there (.here))) | exact .there (.there (.there (.there (.here)))) | exact .there (.there (.there (.there (.there (.here))))) | exact .there (.there (.there (.there (.there (.there (.here)))))) | exact .there (.there (.there (.there (.there (.there (.there (.here))))))) | exact .there (.there (.there (.there (.there (.there (.there (.there (.here)))))))) | exact .there (.there (.there (.there (.there (.there (.there (.there (.there (.here))))))))))) ?_))), Nat.lt_succ_self _⟩
  · rw [if_neg h2] at hnx
    have h2' : ¬ q > 2 := h2
    by_cases hi : k + o + 1 < s.length
    rotate_left
    · rw [if_neg hi] at hnx
      cases hnx
    rw [if_pos hi] at hnx
    cases hnx
    repeat (first | refine wKB ?_ | refine awp_seq_k (fun K hK => ?_) | refine qal tyok (fun bx => ?_) | refine qbox (fun bx => ?_) | refine qboxV (fun bx => ?_) | refine TR.pcall rfl rfl rfl rfl True.intro rfl rfl (hg) ?_ | refine pco rfl rfl rfl rfl rfl rfl rfl rfl (fun _ => hg) ?_ | ((repeat ((fail_if_success (refine hK _ _ ?_)); clear hK)); refine hK _ _ ?_; clear hK))
    refine areg_soft mixed tyok [5, 11] [] [0, 1, 2, 3, 4, 5, 6, 7, 8, 9, 10, 11, 12, 13, 14] (by decide +kernel) ?_
    ((repeat (first | refine wKB ?_ | refine awp_seq_k (fun K hK => ?_) | refine areg_text mixed tyok (by decide +kernel) ?_ | refine TR.pcall rfl rfl rfl rfl True.intro rfl rfl (num21_c _) ?_ | refine pco rfl rfl rfl rfl rfl rfl rfl rfl (fun _ => num21_c _) ?_ | ((repeat ((fail_if_success (refine hK _ _ ?_)); clear hK)); refine hK _ _ ?_; clear hK))); ((first | refine qal tyok (fun b12 => ?_) | refine qbox (fun b12 => ?_) | refine qboxV (fun b12 => ?_))))
    (((repeat (first | refine wT ?_ | refine qal tyok (fun bx => ?_) | refine qbox (fun bx => ?_) | refine qboxV (fun bx => ?_)))); repeat (first | (with_reducible refine pQ_normal ?_) | (with_reducible refine thenQ_normal ?_) | (with_reducible refine blockQ_normal ?_) | (with_reducible refine thenQ_exit ?_) | (with_reducible refine blockQ_hit ?_) | refine blockQ_miss rfl ?_ | (with_reducible refine thenQ_ret ?_) | (with_reducible refine blockQ_ret ?_) | (with_reducible refine pQ_panic ?_) | (with_reducible refine thenQ_panic ?_) | (with_reducible refine blockQ_panic ?_)); ((repeat ((fail_if_success (refine hK _ _ ?_)); clear hK)); refine hK _ _ ?_; clear hK))
    refine awp_boxSub [] (v' := .agg [.int .u8 q, .int .i64 (numF (s.getD ((k : Int) + (o : Int)).toNat 0)), .int .i64 (numF (s.getD ((k : Int) + (o : Int) + 1).toNat 0)), .int .i64 0, .int .i64 0]) (Sub.of_eq rfl) ?_
    repeat (first | refine wKB ?_ | refine awp_seq_k (fun K hK => ?_) | refine areg_text mixed tyok (by decide +kernel) ?_ | refine qal tyok (fun bx => ?_) | refine qbox (fun bx => ?_) | refine qboxV (fun bx => ?_) | ((repeat ((fail_if_success (refine hK _ _ ?_)); clear hK)); refine hK _ _ ?_; clear hK))
    refine qapp tyok frmX (rep1 f) () (.cons (subAny _) (.cons (subAny _) (.cons (subAny _) (.cons (subAny _) (.cons (subAny _) .nil))))) ?_ fun ad cp => ?_
    · simp only
      omega
    rw [rep1_succ]
    repeat (first | refine wKB ?_ | refine awp_seq_k (fun K hK => ?_) | refine areg_text mixed tyok (by decide +kernel) ?_ | refine qal tyok (fun bx => ?_) | refine qbox (fun bx => ?_) | refine qboxV (fun bx => ?_) | ((repeat ((fail_if_success (refine hK _ _ ?_)); clear hK)); refine hK _ _ ?_; clear hK))
    exact ⟨⟨⟨n, k + o + 3, j, m, f + 1, N, By, a1, c1, a2, c2, ad, cp, sl frmX 5 (rep1 (f + 1)) (.own ad cp)⟩, hmk (by omega) (by omega) (by omega) (by omega) (.inl rfl) (by omega) (Sub.refl _)⟩, (by (repeat (first | exact True.intro | refine ⟨⟨_, rfl, Sub.refl _⟩, ?_⟩ | refine ⟨⟨_, rfl, Sub.nilso _ _⟩, ?_⟩ | refine ⟨⟨_, rfl, sl_tail _ _ _ _ _⟩, ?_⟩ | refine ⟨⟨_, rfl, Sub.of_eq (by first | rfl | (congr 1; first | omega | (simp only; omega)) | (simp; done) | (simp; omega))⟩, ?_⟩ | refine ⟨⟨_, rfl, Sub.view _ _ _ _⟩, ?_⟩))), (by (repeat (first | exact pickNil | refine pickD (by (first | exact .here | exact .there (.here) | exact .there (.there (.here)) | exact .there (.there (.there (.here))) | exact .there (.there (.there (.there (.here)))) | exact .there (.there (.there (.there (.there (.here))))) | exact .there (.there (.there (.there (.there (.there (.here)))))) | exact .there (.there (.there (.there (.there (.there (.there (.here))))))) | exact .there (.there (.there (.there (.there (.there (.there (.there (.here)))))))) | exact .there (.there (.there (.there (.there (.there (.there (.there (.there (.here))))))))))) ?_))), Nat.lt_succ_self _⟩

end Go.Proofs.YtjinaakebjfbiaaGreatDoor

/-
  The document's two lists of names, told in full (porismref25.Lists).
-/
namespace Go.Proofs.YtjinaakebjfbiaaGreatDoor
open Go.Ab

set_option maxRecDepth 100000 in
theorem made_cnt : (made22.all fun r => decide (cntE r.eqs 60 0 = some (r.eqs.count 59 + 1))) = true := by decide +kernel

/-- The points that a statement tells or makes: by how many equations, their names. -/
noncomputable def zipOf (x : StI) : List (Int × List UInt8) := (manyOf x).zip (namesOf x)
noncomputable def zipF (l : List StI) : List (Int × List UInt8) := l.flatMap zipOf

theorem zipF_take {l : List StI} {i : Nat} (h : i < l.length) : zipF (l.take (i + 1)) = zipF (l.take i) ++ zipOf (l.getD i default) := by
  unfold zipF
  rw [List.take_succ_eq_append_getElem h, List.flatMap_append, getD_at h]
  simp

theorem zipF_fst : ∀ l : List StI, (zipF l).map Prod.fst = manyF l
  | [] => rfl
  | x :: l => by
    have ih := zipF_fst l
    have e : zipF (x :: l) = zipOf x ++ zipF l := rfl
    have e2 : manyF (x :: l) = manyOf x ++ manyF l := rfl
    rw [e, e2, List.map_append, ih, zipOf, List.map_fst_zip (Nat.le_of_eq (manyOf_len x))]
theorem zipF_snd : ∀ l : List StI, (zipF l).map Prod.snd = namesF l
  | [] => rfl
  | x :: l => by
    have ih := zipF_snd l
    have e : zipF (x :: l) = zipOf x ++ zipF l := rfl
    rw [e, namesF_cons, List.map_append, ih, zipOf, List.map_snd_zip (Nat.le_of_eq (manyOf_len x).symm)]

theorem parL_append (a b : List (Int × List UInt8)) : parL (a ++ b) = parL a ++ parL b := by simp [parL]
theorem depL_append (a b : List (Int × List UInt8)) : depL (a ++ b) = depL a ++ depL b := by simp [depL]

/-- Both names of a point that is told. -/
def bothE (t : TokI) : List (List UInt8) := [120 :: t.w, 121 :: t.w]

theorem zip3 {x : StI} (h : x.k = 3) : parL (zipOf x) = x.args.flatMap bothE ∧ depL (zipOf x) = [] := by
  have e : zipOf x = x.args.map fun t => ((0 : Int), t.w) := by
    unfold zipOf manyOf namesOf
    rw [if_pos h, if_pos h, List.zip_map']
  rw [e]
  unfold parL depL
  refine ⟨?_, ?_⟩
  · rw [List.flatMap_map]
    rfl
  · rw [List.flatMap_map]
    induction x.args with
    | nil => rfl
    | cons t ts ih => rw [List.flatMap_cons, ih]; rfl

theorem zip4 {x : StI} (h : x.k = 4) : zipOf x = [(((fig0 (conF x.word.w)).eqs.length : Int), x.new.w)] := by
  unfold zipOf manyOf namesOf
  rw [if_neg (show ¬ x.k = 3 by omega), if_neg (show ¬ x.k = 3 by omega), if_pos h, if_pos h]
  rfl

theorem zipN {x : StI} (h3 : x.k ≠ 3) (h4 : x.k ≠ 4) : zipOf x = [] := by
  unfold zipOf manyOf
  rw [if_neg h3, if_neg h4]
  rfl

theorem findR_in {w : List UInt8} {r : RowR} : ∀ {rs : List RowR}, findR rs w = some r → r ∈ rs
  | [], h => by cases h
  | x :: rs, h => by
    simp only [findR] at h
    split at h
    · cases h
      exact List.mem_cons_self ..
    · exact List.mem_cons_of_mem _ (findR_in h)

theorem bothL (l : List TokI) : (l.flatMap bothE).length = 2 * l.length := by
  induction l with
  | nil => rfl
  | cons t l ih => rw [List.flatMap_cons, List.length_append, ih, List.length_cons]; simp only [bothE, List.length_cons, List.length_nil]; omega

theorem cbLists : Callable Tryz.prog 43 := fun _ _ => by kernel_rfl
set_option maxHeartbeats 6400000 in
set_option maxRecDepth 100000 in
theorem lists25_c (l : List StI) (hl : l.length ≤ 1000000000000000) (hA : ∀ x ∈ l, x.args.length ≤ 1000000000000000) (hN : ∀ x ∈ l, x.new.w.length ≤ 1000000000000000) (hT : ∀ x ∈ l, ∀ t ∈ x.args, t.w.length ≤ 1000000000000000) (h : (lookF l).e = 0) :
    PCalls Tryz.prog 43 [stmtsI l] (.tuple [sl txtE 1 (parL (zipF l)) .view, sl txtE 1 (depL (zipF l)) .view]) := by
  refine pcalls_of_awp tyok cbLists Tryz.func43 rfl rfl ?_
  obtain ⟨_, _, _, h40, _⟩ := lookF_id h
  have hm40 : (manyF l).length ≤ 40 := by rw [manyF_len]; exact h40
  have hpb : ∀ i, (parL (zipF (l.take i))).length ≤ 80 ∧ (depL (zipF (l.take i))).length ≤ 80 := fun i => by
    have a := parL_len (zipF (l.take i))
    have b := depL_len (zipF (l.take i))
    rw [zipF_fst] at a b
    have := parN_bd (manyF (l.take i))
    have := depN_bd (manyF (l.take i))
    have := manyF_pre l i
    omega
  repeat (first | refine wK ?_ | refine awp_seq_k (fun K hK => ?_) | refine areg_text mixed tyok (by decide +kernel) ?_ | refine qal tyok (fun bx => ?_) | refine qbox (fun bx => ?_) | refine qboxV (fun bx => ?_) | ((repeat ((fail_if_success (refine hK _ _ ?_)); clear hK)); refine hK _ _ ?_; clear hK))
  refine awp_tok0 1 9 ?_
  refine awp_tok0 1 9 ?_
  refine awp_loop0 (ι := { y : Nat × (Option Addr × Nat) × (Option Addr × Nat) // y.1 ≤ l.length })
    (fun y => [(0, stmtsI l), (4, sl txtE 1 (parL (zipF (l.take y.1.1))) (.own y.1.2.1.1 y.1.2.1.2)), (5, sl txtE 1 (depL (zipF (l.take y.1.1))) (.own y.1.2.2.1 y.1.2.2.2)), (6, .int .i64 y.1.1)])
    (fun y => [.tok y.1.2.1.1 y.1.2.1.2 (parL (zipF (l.take y.1.1))).length 1 9, .tok y.1.2.2.1 y.1.2.2.2 (depL (zipF (l.take y.1.1))).length 1 9]) (fun y => l.length - y.1.1) ⟨(0, (none, 0), (none, 0)), Nat.zero_le _⟩ (by (repeat (first | exact True.intro | refine ⟨⟨_, rfl, Sub.refl _⟩, ?_⟩ | refine ⟨⟨_, rfl, Sub.nilso _ _⟩, ?_⟩ | refine ⟨⟨_, rfl, sl_tail _ _ _ _ _⟩, ?_⟩ | refine ⟨⟨_, rfl, Sub.of_eq (by first | rfl | (congr 1; first | omega | (simp only; omega)) | (simp; done) | (simp; omega))⟩, ?_⟩ | refine ⟨⟨_, rfl, Sub.view _ _ _ _⟩, ?_⟩))) (by (first | exact ⟨0, rfl⟩ | exact ⟨1, rfl⟩ | exact ⟨2, rfl⟩ | exact ⟨3, rfl⟩ | exact ⟨4, rfl⟩)) ?_
  rintro ⟨⟨i, ⟨a, cp⟩, ⟨a2, cp2⟩⟩, hi⟩
  simp only at hi ⊢
  by_cases hlt : i < l.length
  rotate_left
  · have hge : ¬ (i : Int) < l.length := by omega
    obtain rfl : i = l.length := by omega
    rw [List.take_length]
    repeat (first | refine wKB ?_ | refine awp_seq_k (fun K hK => ?_) | refine areg_text mixed tyok (by decide +kernel) ?_ | refine qal tyok (fun bx => ?_) | refine qbox (fun bx => ?_) | refine qboxV (fun bx => ?_) | ((repeat ((fail_if_success (refine hK _ _ ?_)); clear hK)); refine hK _ _ ?_; clear hK))
    refine r2 ?_ ?_
    · exact Sub.view _ _ _ _
    · exact Sub.view _ _ _ _
  have hlt' : (i : Int) < l.length := by omega
  have hm := getD_in hlt
  have hst := zipF_take hlt
  have hx := hA _ hm
  have hxn := hN _ hm
  have hxt := hT _ hm
  have fs := few_stmt h hm
  have hbn := hpb (i + 1)
  have ep : parL (zipF (l.take (i + 1))) = parL (zipF (l.take i)) ++ parL (zipOf (l.getD i default)) := by rw [hst, parL_append]
  have ed : depL (zipF (l.take (i + 1))) = depL (zipF (l.take i)) ++ depL (zipOf (l.getD i default)) := by rw [hst, depL_append]
  rw [ep, ed, List.length_append, List.length_append] at hbn
  generalize parL (zipF (l.take i)) = P at ep hbn ⊢
  generalize depL (zipF (l.take i)) = D at ed hbn ⊢
  have hix : l.getD ((i : Int)).toNat default = l.getD i default := rfl
  by_cases k3 : (l.getD i default).k = 3
  · obtain ⟨z1, z2⟩ := zip3 k3
    rw [z1] at ep hbn
    rw [z2, List.append_nil] at ed
    rw [bothL] at hbn
    have k3' : (l.getD ((i : Int)).toNat default).k = 3 := k3
    have k4' : ¬ (l.getD ((i : Int)).toNat default).k = 4 := by rw [hix, k3]; decide
    repeat (first | refine wKB ?_ | refine awp_seq_k (fun K hK => ?_) | refine areg_text mixed tyok (by decide +kernel) ?_ | refine qal tyok (fun bx => ?_) | refine qbox (fun bx => ?_) | refine qboxV (fun bx => ?_) | ((repeat ((fail_if_success (refine hK _ _ ?_)); clear hK)); refine hK _ _ ?_; clear hK))
    refine awp_loop0 (ι := { z : Nat × Option Addr × Nat // z.1 ≤ (l.getD i default).args.length })
      (fun z => [(0, stmtsI l), (4, sl txtE 1 (P ++ ((l.getD i default).args.take z.1.1).flatMap bothE) (.own z.1.2.1 z.1.2.2)), (5, sl txtE 1 D (.own a2 cp2)), (6, .int .i64 i), (7, .int .i64 z.1.1)])
      (fun z => [.tok z.1.2.1 z.1.2.2 (P ++ ((l.getD i default).args.take z.1.1).flatMap bothE).length 1 9, .tok a2 cp2 D.length 1 9]) (fun z => (l.getD i default).args.length - z.1.1) ⟨(0, a, cp), Nat.zero_le _⟩ ?_ ?_ ?_
    · simp only [List.take_zero, List.flatMap_nil, List.append_nil]
      (repeat (first | exact True.intro | refine ⟨⟨_, rfl, Sub.refl _⟩, ?_⟩ | refine ⟨⟨_, rfl, Sub.nilso _ _⟩, ?_⟩ | refine ⟨⟨_, rfl, sl_tail _ _ _ _ _⟩, ?_⟩ | refine ⟨⟨_, rfl, Sub.of_eq (by first | rfl | (congr 1; first | omega | (simp only; omega)) | (simp; done) | (simp; omega))⟩, ?_⟩ | refine ⟨⟨_, rfl, Sub.view _ _ _ _⟩, ?_⟩))
    · simp only [List.take_zero, List.flatMap_nil, List.append_nil]
      (first | exact ⟨0, rfl⟩ | exact ⟨1, rfl⟩ | exact ⟨2, rfl⟩ | exact ⟨3, rfl⟩ | exact ⟨4, rfl⟩)
    rintro ⟨⟨k, a3, cp3⟩, hk⟩
    simp only at hk ⊢
    by_cases hkl : k < (l.getD i default).args.length
    · have hkl' : (k : Int) < (l.getD ((i : Int)).toNat default).args.length := by rw [hix]; omega
      have hw := hxt _ (getD_in hkl)
      have hw' : ((l.getD ((i : Int)).toNat default).args.getD ((k : Int)).toNat default).w.length ≤ 1000000000000000 := hw
      have hm1 : ({ data := #[120] } : ByteArray).data.toList.length = 1 := rfl
      have hm2 : ({ data := #[121] } : ByteArray).data.toList.length = 1 := rfl
      have er : ((l.getD i default).args.take (k + 1)).flatMap bothE = ((l.getD i default).args.take k).flatMap bothE ++ bothE ((l.getD i default).args.getD k default) := by
        rw [List.take_succ_eq_append_getElem hkl, List.flatMap_append, getD_at hkl]
        simp
      have hbl := bothL ((l.getD i default).args.take k)
      rw [List.length_take, Nat.min_eq_left (by omega)] at hbl
      have hb2 : (bothE ((l.getD i default).args.getD k default)).length = 2 := rfl
      repeat (first | refine wKB ?_ | refine awp_seq_k (fun K hK => ?_) | refine areg_text mixed tyok (by decide +kernel) ?_ | refine qal tyok (fun bx => ?_) | refine qbox (fun bx => ?_) | refine qboxV (fun bx => ?_) | ((repeat ((fail_if_success (refine hK _ _ ?_)); clear hK)); refine hK _ _ ?_; clear hK))
      refine qappL tyok txtE (P ++ ((l.getD i default).args.take k).flatMap bothE) (bothE ((l.getD i default).args.getD k default)) ?_ ?_ fun ad cp => ?_
      · intro j hj
        match j, hj with
        | 0, _ => exact SubL.refl _
        | 1, _ => exact SubL.refl _
        | j + 2, hj => exact absurd hj (by rw [hb2]; omega)
      · simp only
        rw [List.length_append, hbl, hb2]
        omega
      rw [List.append_assoc, ← er]
      repeat (first | refine wKB ?_ | refine awp_seq_k (fun K hK => ?_) | refine areg_text mixed tyok (by decide +kernel) ?_ | refine qal tyok (fun bx => ?_) | refine qbox (fun bx => ?_) | refine qboxV (fun bx => ?_) | ((repeat ((fail_if_success (refine hK _ _ ?_)); clear hK)); refine hK _ _ ?_; clear hK))
      exact ⟨⟨(k + 1, ad, cp), hkl⟩, (by (repeat (first | exact True.intro | refine ⟨⟨_, rfl, Sub.refl _⟩, ?_⟩ | refine ⟨⟨_, rfl, Sub.nilso _ _⟩, ?_⟩ | refine ⟨⟨_, rfl, sl_tail _ _ _ _ _⟩, ?_⟩ | refine ⟨⟨_, rfl, Sub.of_eq (by first | rfl | (congr 1; first | omega | (simp only; omega)) | (simp; done) | (simp; omega))⟩, ?_⟩ | refine ⟨⟨_, rfl, Sub.view _ _ _ _⟩, ?_⟩))), (by (first | exact ⟨0, rfl⟩ | exact ⟨1, rfl⟩ | exact ⟨2, rfl⟩ | exact ⟨3, rfl⟩ | exact ⟨4, rfl⟩)), by simp only; omega⟩
    · have hkg : ¬ (k : Int) < (l.getD ((i : Int)).toNat default).args.length := by rw [hix]; omega
      obtain rfl : k = (l.getD i default).args.length := by omega
      rw [List.take_length, ← ep]
      subst ed
      repeat (first | refine wKB ?_ | refine awp_seq_k (fun K hK => ?_) | refine areg_text mixed tyok (by decide +kernel) ?_ | refine qal tyok (fun bx => ?_) | refine qbox (fun bx => ?_) | refine qboxV (fun bx => ?_) | ((repeat ((fail_if_success (refine hK _ _ ?_)); clear hK)); refine hK _ _ ?_; clear hK))
      exact ⟨⟨(i + 1, (a3, cp3), (a2, cp2)), hlt⟩, (by (repeat (first | exact True.intro | refine ⟨⟨_, rfl, Sub.refl _⟩, ?_⟩ | refine ⟨⟨_, rfl, Sub.nilso _ _⟩, ?_⟩ | refine ⟨⟨_, rfl, sl_tail _ _ _ _ _⟩, ?_⟩ | refine ⟨⟨_, rfl, Sub.of_eq (by first | rfl | (congr 1; first | omega | (simp only; omega)) | (simp; done) | (simp; omega))⟩, ?_⟩ | refine ⟨⟨_, rfl, Sub.view _ _ _ _⟩, ?_⟩))), (by (first | exact ⟨0, rfl⟩ | exact ⟨1, rfl⟩ | exact ⟨2, rfl⟩ | exact ⟨3, rfl⟩ | exact ⟨4, rfl⟩)), by simp only; omega⟩
  have k3' : ¬ (l.getD ((i : Int)).toNat default).k = 3 := k3
  by_cases k4 : (l.getD i default).k = 4
  rotate_left
  · have k4' : ¬ (l.getD ((i : Int)).toNat default).k = 4 := k4
    rw [zipN k3 k4] at ep ed
    have ep' : parL (zipF (l.take (i + 1))) = P := by rw [ep]; exact List.append_nil P
    have ed' : depL (zipF (l.take (i + 1))) = D := by rw [ed]; exact List.append_nil D
    rw [← ep', ← ed']
    repeat (first | refine wKB ?_ | refine awp_seq_k (fun K hK => ?_) | refine areg_text mixed tyok (by decide +kernel) ?_ | refine qal tyok (fun bx => ?_) | refine qbox (fun bx => ?_) | refine qboxV (fun bx => ?_) | ((repeat ((fail_if_success (refine hK _ _ ?_)); clear hK)); refine hK _ _ ?_; clear hK))
    exact ⟨⟨(i + 1, (a, cp), (a2, cp2)), hlt⟩, (by (repeat (first | exact True.intro | refine ⟨⟨_, rfl, Sub.refl _⟩, ?_⟩ | refine ⟨⟨_, rfl, Sub.nilso _ _⟩, ?_⟩ | refine ⟨⟨_, rfl, sl_tail _ _ _ _ _⟩, ?_⟩ | refine ⟨⟨_, rfl, Sub.of_eq (by first | rfl | (congr 1; first | omega | (simp only; omega)) | (simp; done) | (simp; omega))⟩, ?_⟩ | refine ⟨⟨_, rfl, Sub.view _ _ _ _⟩, ?_⟩))), (by (first | exact ⟨0, rfl⟩ | exact ⟨1, rfl⟩ | exact ⟨2, rfl⟩ | exact ⟨3, rfl⟩ | exact ⟨4, rfl⟩)), by simp only; omega⟩
  have k4' : (l.getD ((i : Int)).toNat default).k = 4 := k4
  rw [zip4 k4] at ep ed
  have hw' : (l.getD ((i : Int)).toNat default).new.w.length ≤ 1000000000000000 := hxn
  have hm1 : ({ data := #[120] } : ByteArray).data.toList.length = 1 := rfl
  have hm2 : ({ data := #[121] } : ByteArray).data.toList.length = 1 := rfl
  have cfs := fs.1 k4
  have cf := con_few cfs
  have gf := find22_c made22 (l.getD i default).word.w made22_len
  rcases con_eqs (l.getD i default).word.w with ⟨_, r2⟩ | ⟨r, f, r1, r2, r3, r4⟩
  · rw [r2] at cfs
    cases cfs
  have hcnt := of_decide_eq_true (List.all_eq_true.1 made_cnt r (findR_in r1))
  have ge := eqs21_c r.eqs (r.eqs.count 59 + 1) r4 hcnt
  have lr := rep1_len (r.eqs.count 59 + 1)
  rw [r1] at gf
  simp only [rowD] at gf
  rw [r2] at ep ed cf
  simp only [fig0] at ep ed cf
  rw [r3] at ep ed cf
  repeat (first | refine wKB ?_ | refine awp_seq_k (fun K hK => ?_) | refine qal tyok (fun bx => ?_) | refine qbox (fun bx => ?_) | refine qboxV (fun bx => ?_) | ((repeat ((fail_if_success (refine hK _ _ ?_)); clear hK)); refine hK _ _ ?_; clear hK))
  refine areg_soft mixed tyok [0, 7] [(11, [])] [0, 1, 2, 3, 4, 5, 6, 7, 8, 9, 10, 11, 12, 13] (by decide +kernel) ?_
  ((repeat (first | refine wKB ?_ | refine awp_seq_k (fun K hK => ?_) | refine areg_text mixed tyok (by decide +kernel) ?_ | refine TR.pcall rfl rfl rfl rfl True.intro rfl rfl (made22_c) ?_ | refine TR.pcall rfl rfl rfl rfl True.intro rfl rfl (gf) ?_ | refine pco rfl rfl rfl rfl rfl rfl rfl rfl (fun _ => made22_c) ?_ | refine pco rfl rfl rfl rfl rfl rfl rfl rfl (fun _ => gf) ?_ | ((repeat ((fail_if_success (refine hK _ _ ?_)); clear hK)); refine hK _ _ ?_; clear hK))); ((first | refine qal tyok (fun b8 => ?_) | refine qbox (fun b8 => ?_) | refine qboxV (fun b8 => ?_))))
  (((repeat (first | refine wT ?_ | refine qal tyok (fun bx => ?_) | refine qbox (fun bx => ?_) | refine qboxV (fun bx => ?_)))); repeat (first | (with_reducible refine pQ_normal ?_) | (with_reducible refine thenQ_normal ?_) | (with_reducible refine blockQ_normal ?_) | (with_reducible refine thenQ_exit ?_) | (with_reducible refine blockQ_hit ?_) | refine blockQ_miss rfl ?_ | (with_reducible refine thenQ_ret ?_) | (with_reducible refine blockQ_ret ?_) | (with_reducible refine pQ_panic ?_) | (with_reducible refine thenQ_panic ?_) | (with_reducible refine blockQ_panic ?_)); ((repeat ((fail_if_success (refine hK _ _ ?_)); clear hK)); refine hK _ _ ?_; clear hK))
  rcases cf with c1 | c2
  · have hl1 : ((rep1 (r.eqs.count 59 + 1)).length : Int) = 1 := by omega
    have hc1 : ((r.eqs.count 59 + 1 : Nat) : Int) = 1 := by omega
    rw [hc1] at ep ed
    have ep' : P ++ [120 :: (l.getD i default).new.w] = parL (zipF (l.take (i + 1))) := ep.symm
    have ed' : D ++ [121 :: (l.getD i default).new.w] = depL (zipF (l.take (i + 1))) := ed.symm
    repeat (first | refine wKB ?_ | refine awp_seq_k (fun K hK => ?_) | refine areg_text mixed tyok (by decide +kernel) ?_ | refine qal tyok (fun bx => ?_) | refine qbox (fun bx => ?_) | refine qboxV (fun bx => ?_) | refine TR.pcall rfl rfl rfl rfl True.intro rfl rfl (ge) ?_ | refine pco rfl rfl rfl rfl rfl rfl rfl rfl (fun _ => ge) ?_ | ((repeat ((fail_if_success (refine hK _ _ ?_)); clear hK)); refine hK _ _ ?_; clear hK))
    refine qapp tyok txtE P (120 :: (l.getD i default).new.w) (.cons (Sub.of_eq rfl) .nil) ?_ fun ad cp => ?_
    · simp only
      omega
    rw [ep']
    repeat (first | refine wKB ?_ | refine awp_seq_k (fun K hK => ?_) | refine areg_text mixed tyok (by decide +kernel) ?_ | refine qal tyok (fun bx => ?_) | refine qbox (fun bx => ?_) | refine qboxV (fun bx => ?_) | ((repeat ((fail_if_success (refine hK _ _ ?_)); clear hK)); refine hK _ _ ?_; clear hK))
    refine qapp tyok txtE D (121 :: (l.getD i default).new.w) (.cons (Sub.of_eq rfl) .nil) ?_ fun ad2 cp2 => ?_
    · simp only
      omega
    rw [ed']
    repeat (first | refine wKB ?_ | refine awp_seq_k (fun K hK => ?_) | refine areg_text mixed tyok (by decide +kernel) ?_ | refine qal tyok (fun bx => ?_) | refine qbox (fun bx => ?_) | refine qboxV (fun bx => ?_) | ((repeat ((fail_if_success (refine hK _ _ ?_)); clear hK)); refine hK _ _ ?_; clear hK))
    exact ⟨⟨(i + 1, (ad, cp), (ad2, cp2)), hlt⟩, (by (repeat (first | exact True.intro | refine ⟨⟨_, rfl, Sub.refl _⟩, ?_⟩ | refine ⟨⟨_, rfl, Sub.nilso _ _⟩, ?_⟩ | refine ⟨⟨_, rfl, sl_tail _ _ _ _ _⟩, ?_⟩ | refine ⟨⟨_, rfl, Sub.of_eq (by first | rfl | (congr 1; first | omega | (simp only; omega)) | (simp; done) | (simp; omega))⟩, ?_⟩ | refine ⟨⟨_, rfl, Sub.view _ _ _ _⟩, ?_⟩))), (by (first | exact ⟨0, rfl⟩ | exact ⟨1, rfl⟩ | exact ⟨2, rfl⟩ | exact ⟨3, rfl⟩ | exact ⟨4, rfl⟩)), by simp only; omega⟩
  · have hl1 : ¬ ((rep1 (r.eqs.count 59 + 1)).length : Int) = 1 := by omega
    have hc1 : ((r.eqs.count 59 + 1 : Nat) : Int) = 2 := by omega
    rw [hc1] at ep ed
    have ep' : P = parL (zipF (l.take (i + 1))) := by rw [ep]; exact (List.append_nil P).symm
    have ed' : D ++ [120 :: (l.getD i default).new.w, 121 :: (l.getD i default).new.w] = depL (zipF (l.take (i + 1))) := ed.symm
    repeat (first | refine wKB ?_ | refine awp_seq_k (fun K hK => ?_) | refine areg_text mixed tyok (by decide +kernel) ?_ | refine qal tyok (fun bx => ?_) | refine qbox (fun bx => ?_) | refine qboxV (fun bx => ?_) | refine TR.pcall rfl rfl rfl rfl True.intro rfl rfl (ge) ?_ | refine pco rfl rfl rfl rfl rfl rfl rfl rfl (fun _ => ge) ?_ | ((repeat ((fail_if_success (refine hK _ _ ?_)); clear hK)); refine hK _ _ ?_; clear hK))
    refine qappL tyok txtE D [120 :: (l.getD i default).new.w, 121 :: (l.getD i default).new.w] ?_ ?_ fun ad2 cp2 => ?_
    · intro j hj
      match j, hj with
      | 0, _ => exact .cons (Sub.of_eq rfl) .nil
      | 1, _ => exact .cons (Sub.of_eq rfl) .nil
      | j + 2, hj => exact absurd hj (by simp)
    · simp only [List.length_cons, List.length_nil]
      omega
    rw [ed', ep']
    repeat (first | refine wKB ?_ | refine awp_seq_k (fun K hK => ?_) | refine areg_text mixed tyok (by decide +kernel) ?_ | refine qal tyok (fun bx => ?_) | refine qbox (fun bx => ?_) | refine qboxV (fun bx => ?_) | ((repeat ((fail_if_success (refine hK _ _ ?_)); clear hK)); refine hK _ _ ?_; clear hK))
    exact ⟨⟨(i + 1, (a, cp), (ad2, cp2)), hlt⟩, (by (repeat (first | exact True.intro | refine ⟨⟨_, rfl, Sub.refl _⟩, ?_⟩ | refine ⟨⟨_, rfl, Sub.nilso _ _⟩, ?_⟩ | refine ⟨⟨_, rfl, sl_tail _ _ _ _ _⟩, ?_⟩ | refine ⟨⟨_, rfl, Sub.of_eq (by first | rfl | (congr 1; first | omega | (simp only; omega)) | (simp; done) | (simp; omega))⟩, ?_⟩ | refine ⟨⟨_, rfl, Sub.view _ _ _ _⟩, ?_⟩))), (by (first | exact ⟨0, rfl⟩ | exact ⟨1, rfl⟩ | exact ⟨2, rfl⟩ | exact ⟨3, rfl⟩ | exact ⟨4, rfl⟩)), by simp only; omega⟩

end Go.Proofs.YtjinaakebjfbiaaGreatDoor

/-
  The document's layout of a script (porismref25.Of).
-/
namespace Go.Proofs.YtjinaakebjfbiaaGreatDoor
open Go.Ab

/-- Where both names of each point stand. -/
def atF (all : List (List UInt8)) (ns : List (List UInt8)) : List (Int × Int) := ns.map fun w => (posF (120 :: w) all, posF (121 :: w) all)

theorem cbROf : Callable Tryz.prog 15 := fun _ _ => by kernel_rfl
set_option maxHeartbeats 1600000 in
set_option maxRecDepth 100000 in
theorem rof25_no (l : List StI) (hl : l.length ≤ 10000000000000000) (hA : ∀ x ∈ l, x.args.length ≤ 10000000000000000) (h : (lookF l).e ≠ 0) :
    PCalls Tryz.prog 15 [stmtsI l] (.tuple [layV [] [] 0 0, .int .i64 (lookF l).e]) := by
  refine pcalls_of_awp tyok cbROf Tryz.func15 rfl rfl ?_
  have g := look22_c l hl hA
  rw [lookR_of, if_neg h] at g
  simp only [oneV] at g
  unfold layV
  ((repeat (first | refine wKB ?_ | refine awp_seq_k (fun K hK => ?_) | refine areg_text mixed tyok (by decide +kernel) ?_ | refine TR.pcall rfl rfl rfl rfl True.intro rfl rfl (g) ?_ | refine pco rfl rfl rfl rfl rfl rfl rfl rfl (fun _ => g) ?_ | ((repeat ((fail_if_success (refine hK _ _ ?_)); clear hK)); refine hK _ _ ?_; clear hK))); ((first | refine qal tyok (fun b2 => ?_) | refine qbox (fun b2 => ?_) | refine qboxV (fun b2 => ?_))); (repeat (first | refine wKB ?_ | refine awp_seq_k (fun K hK => ?_) | refine areg_text mixed tyok (by decide +kernel) ?_ | refine TR.pcall rfl rfl rfl rfl True.intro rfl rfl (g) ?_ | refine pco rfl rfl rfl rfl rfl rfl rfl rfl (fun _ => g) ?_ | ((repeat ((fail_if_success (refine hK _ _ ?_)); clear hK)); refine hK _ _ ?_; clear hK))); ((first | refine qal tyok (fun b5 => ?_) | refine qbox (fun b5 => ?_) | refine qboxV (fun b5 => ?_))); (repeat (first | refine wKB ?_ | refine awp_seq_k (fun K hK => ?_) | refine areg_text mixed tyok (by decide +kernel) ?_ | refine qal tyok (fun bx => ?_) | refine qbox (fun bx => ?_) | refine qboxV (fun bx => ?_) | refine TR.pcall rfl rfl rfl rfl True.intro rfl rfl (g) ?_ | refine pco rfl rfl rfl rfl rfl rfl rfl rfl (fun _ => g) ?_ | ((repeat ((fail_if_success (refine hK _ _ ?_)); clear hK)); refine hK _ _ ?_; clear hK))))
  refine fnQ_ret 2 rfl (.cell rfl rfl (List.mem_of_getElem? (i := 1) rfl) rfl trivial (.tmp rfl .nil)) (Sub.tuple2 (subAgg (.cons (Sub.nilsv _ _) (.cons (Sub.nilsv _ _) (.cons (Sub.refl _) (.cons (Sub.refl _) .nil))))) (Sub.refl _)) ⟨rfl, rfl⟩

theorem atF_take {all ns : List (List UInt8)} {i : Nat} (h : i < ns.length) : atF all (ns.take (i + 1)) = atF all (ns.take i) ++ [(posF (120 :: ns.getD i default) all, posF (121 :: ns.getD i default) all)] := by
  unfold atF
  rw [List.take_succ_eq_append_getElem h, List.map_append, getD_at h]
  rfl

set_option maxHeartbeats 6400000 in
set_option maxRecDepth 100000 in
theorem rof25_c (l : List StI) (hl : l.length ≤ 1000000000000000) (hA : ∀ x ∈ l, x.args.length ≤ 1000000000000000) (hN : ∀ x ∈ l, x.new.w.length ≤ 1000000000000000) (hT : ∀ x ∈ l, ∀ t ∈ x.args, t.w.length ≤ 1000000000000000) (h : (lookF l).e = 0) :
    PCalls Tryz.prog 15 [stmtsI l] (.tuple [layV (namesF l) (atF (parL (zipF l) ++ depL (zipF l)) (namesF l)) (parL (zipF l)).length (parL (zipF l) ++ depL (zipF l)).length, .int .i64 0]) := by
  refine pcalls_of_awp tyok cbROf Tryz.func15 rfl rfl ?_
  obtain ⟨_, hlk, _, h40, _⟩ := lookF_id h
  have g := look22_c l (by omega) (fun x hx => by have := hA x hx; omega)
  rw [lookR_of, if_pos h, hlk] at g
  simp only [oneV] at g
  have gl := lists25_c l hl hA hN hT h
  have hps : (parL (zipF l)).length ≤ 80 ∧ (depL (zipF l)).length ≤ 80 := by
    have a := parL_len (zipF l)
    have b := depL_len (zipF l)
    rw [zipF_fst] at a b
    have := parN_bd (manyF l)
    have := depN_bd (manyF l)
    have := manyF_len l
    omega
  have hnw : ∀ x ∈ namesF l, x.length ≤ 1000000000000000 := by
    intro x hx
    obtain ⟨y, hy, hx⟩ := List.mem_flatMap.1 hx
    unfold namesOf at hx
    split at hx
    · obtain ⟨t, ht, rfl⟩ := List.mem_map.1 hx
      exact hT y hy t ht
    · split at hx
      · simp only [List.mem_singleton] at hx
        subst hx
        exact hN y hy
      · cases hx
  generalize parL (zipF l) = ps at gl hps ⊢
  generalize depL (zipF l) = ds at gl hps ⊢
  generalize namesF l = ns at g h40 hnw ⊢
  obtain ⟨hp80, hd80⟩ := hps
  unfold layV
  ((repeat (first | refine wKB ?_ | refine awp_seq_k (fun K hK => ?_) | refine areg_text mixed tyok (by decide +kernel) ?_ | refine TR.pcall rfl rfl rfl rfl True.intro rfl rfl (g) ?_ | refine TR.pcall rfl rfl rfl rfl True.intro rfl rfl (gl) ?_ | refine pco rfl rfl rfl rfl rfl rfl rfl rfl (fun _ => g) ?_ | refine pco rfl rfl rfl rfl rfl rfl rfl rfl (fun _ => gl) ?_ | ((repeat ((fail_if_success (refine hK _ _ ?_)); clear hK)); refine hK _ _ ?_; clear hK))); ((first | refine qal tyok (fun b2 => ?_) | refine qbox (fun b2 => ?_) | refine qboxV (fun b2 => ?_))); (repeat (first | refine wKB ?_ | refine awp_seq_k (fun K hK => ?_) | refine areg_text mixed tyok (by decide +kernel) ?_ | refine TR.pcall rfl rfl rfl rfl True.intro rfl rfl (g) ?_ | refine TR.pcall rfl rfl rfl rfl True.intro rfl rfl (gl) ?_ | refine pco rfl rfl rfl rfl rfl rfl rfl rfl (fun _ => g) ?_ | refine pco rfl rfl rfl rfl rfl rfl rfl rfl (fun _ => gl) ?_ | ((repeat ((fail_if_success (refine hK _ _ ?_)); clear hK)); refine hK _ _ ?_; clear hK))); ((first | refine qal tyok (fun b5 => ?_) | refine qbox (fun b5 => ?_) | refine qboxV (fun b5 => ?_))); (repeat (first | refine wKB ?_ | refine awp_seq_k (fun K hK => ?_) | refine areg_text mixed tyok (by decide +kernel) ?_ | refine qal tyok (fun bx => ?_) | refine qbox (fun bx => ?_) | refine qboxV (fun bx => ?_) | refine TR.pcall rfl rfl rfl rfl True.intro rfl rfl (g) ?_ | refine TR.pcall rfl rfl rfl rfl True.intro rfl rfl (gl) ?_ | refine pco rfl rfl rfl rfl rfl rfl rfl rfl (fun _ => g) ?_ | refine pco rfl rfl rfl rfl rfl rfl rfl rfl (fun _ => gl) ?_ | ((repeat ((fail_if_success (refine hK _ _ ?_)); clear hK)); refine hK _ _ ?_; clear hK))))
  refine qappF tyok txtE ps ?_ ?_ fun a1 c1 => ?_
  · intro j _
    exact SubL.refl _
  · simp only
    omega
  repeat (first | refine wKB ?_ | refine awp_seq_k (fun K hK => ?_) | refine areg_text mixed tyok (by decide +kernel) ?_ | refine qal tyok (fun bx => ?_) | refine qbox (fun bx => ?_) | refine qboxV (fun bx => ?_) | ((repeat ((fail_if_success (refine hK _ _ ?_)); clear hK)); refine hK _ _ ?_; clear hK))
  refine qappL tyok txtE ps ds ?_ ?_ fun a2 c2 => ?_
  · intro j _
    exact SubL.refl _
  · simp only
    omega
  have hal : (ps ++ ds).length ≤ 160 := by rw [List.length_append]; omega
  generalize hAll : ps ++ ds = all at hal ⊢
  ((repeat (first | refine wKB ?_ | refine awp_seq_k (fun K hK => ?_) | refine areg_text mixed tyok (by decide +kernel) ?_ | ((repeat ((fail_if_success (refine hK _ _ ?_)); clear hK)); refine hK _ _ ?_; clear hK))); ((first | refine qal tyok (fun b10 => ?_) | refine qbox (fun b10 => ?_) | refine qboxV (fun b10 => ?_))))
  (((repeat (first | refine wT ?_ | refine qal tyok (fun bx => ?_) | refine qbox (fun bx => ?_) | refine qboxV (fun bx => ?_)))); repeat (first | (with_reducible refine pQ_normal ?_) | (with_reducible refine thenQ_normal ?_) | (with_reducible refine blockQ_normal ?_) | (with_reducible refine thenQ_exit ?_) | (with_reducible refine blockQ_hit ?_) | refine blockQ_miss rfl ?_ | (with_reducible refine thenQ_ret ?_) | (with_reducible refine blockQ_ret ?_) | (with_reducible refine pQ_panic ?_) | (with_reducible refine thenQ_panic ?_) | (with_reducible refine blockQ_panic ?_)); ((repeat ((fail_if_success (refine hK _ _ ?_)); clear hK)); refine hK _ _ ?_; clear hK))
  refine awp_boxSub [] (v' := .agg [sl txtE 1 ns .view, sl cooE 2 [] (.own none 0), .int .i64 ps.length, .int .i64 all.length]) (subAgg (.cons (Sub.refl _) (.cons (Sub.sl_nil cooE 2) (.cons (Sub.refl _) (.cons (Sub.refl _) .nil))))) ?_
  refine awp_tok0 2 34 ?_
  repeat (first | refine wK ?_ | refine awp_seq_k (fun K hK => ?_) | refine areg_text mixed tyok (by decide +kernel) ?_ | refine qal tyok (fun bx => ?_) | refine qbox (fun bx => ?_) | refine qboxV (fun bx => ?_) | ((repeat ((fail_if_success (refine hK _ _ ?_)); clear hK)); refine hK _ _ ?_; clear hK))
  refine awp_loopP (ι := { y : Nat × Option Addr × Nat // y.1 ≤ ns.length })
    (fun y => [(2, .ptr b2 0), (4, sl txtE 1 ns .view), (9, sl txtE 1 all .view), (10, .ptr b10 0), (11, .int .i64 y.1.1)])
    (fun y => [.box b10 26 (.agg [sl txtE 1 ns .view, sl cooE 2 (atF all (ns.take y.1.1)) (.own y.1.2.1 y.1.2.2), .int .i64 ps.length, .int .i64 all.length]), .tok y.1.2.1 y.1.2.2 (atF all (ns.take y.1.1)).length 2 34, .box b2 26 (.agg [.nils, .nils, .int .i64 0, .int .i64 0])])
    (fun y => ns.length - y.1.1) ⟨(0, none, 0), Nat.zero_le _⟩ (by (repeat (first | exact True.intro | refine ⟨⟨_, rfl, Sub.refl _⟩, ?_⟩ | refine ⟨⟨_, rfl, Sub.nilso _ _⟩, ?_⟩ | refine ⟨⟨_, rfl, sl_tail _ _ _ _ _⟩, ?_⟩ | refine ⟨⟨_, rfl, Sub.of_eq (by first | rfl | (congr 1; first | omega | (simp only; omega)) | (simp; done) | (simp; omega))⟩, ?_⟩ | refine ⟨⟨_, rfl, Sub.view _ _ _ _⟩, ?_⟩))) (by (repeat (first | exact pickNil | refine pickD (by (first | exact .here | exact .there (.here) | exact .there (.there (.here)) | exact .there (.there (.there (.here))) | exact .there (.there (.there (.there (.here)))) | exact .there (.there (.there (.there (.there (.here))))) | exact .there (.there (.there (.there (.there (.there (.here)))))) | exact .there (.there (.there (.there (.there (.there (.there (.here))))))) | exact .there (.there (.there (.there (.there (.there (.there (.there (.here)))))))) | exact .there (.there (.there (.there (.there (.there (.there (.there (.there (.here))))))))))) ?_))) ?_
  rintro ⟨⟨i, a, cp⟩, hi⟩
  simp only at hi ⊢
  by_cases hlt : i < ns.length
  · have hlt' : (i : Int) < ns.length := by omega
    have hw := hnw _ (getD_in hlt)
    have hw' : (ns.getD ((i : Int)).toNat default).length ≤ 1000000000000000 := hw
    have hm1 : ({ data := #[120] } : ByteArray).data.toList.length = 1 := rfl
    have hm2 : ({ data := #[121] } : ByteArray).data.toList.length = 1 := rfl
    have p1 := pos25_c all (120 :: ns.getD i default) (by omega)
    have p2 := pos25_c all (121 :: ns.getD i default) (by omega)
    have hst := atF_take (all := all) hlt
    have hla : (atF all (ns.take i)).length = i := by unfold atF; rw [List.length_map, List.length_take]; omega
    repeat (first | refine wKB ?_ | refine awp_seq_k (fun K hK => ?_) | refine qal tyok (fun bx => ?_) | refine qbox (fun bx => ?_) | refine qboxV (fun bx => ?_) | ((repeat ((fail_if_success (refine hK _ _ ?_)); clear hK)); refine hK _ _ ?_; clear hK))
    refine areg_soft mixed tyok [8, 15] [(17, [])] [0, 1, 2, 3, 4, 5, 6, 7, 9, 10, 11, 12, 13, 14, 8, 15, 16, 17, 18, 19, 20] (by decide +kernel) ?_
    repeat (first | refine wKB ?_ | refine awp_seq_k (fun K hK => ?_) | refine areg_text mixed tyok (by decide +kernel) ?_ | refine qal tyok (fun bx => ?_) | refine qbox (fun bx => ?_) | refine qboxV (fun bx => ?_) | refine TR.pcall rfl rfl rfl rfl True.intro rfl rfl (p1) ?_ | refine TR.pcall rfl rfl rfl rfl True.intro rfl rfl (p2) ?_ | refine pco rfl rfl rfl rfl rfl rfl rfl rfl (fun _ => p1) ?_ | refine pco rfl rfl rfl rfl rfl rfl rfl rfl (fun _ => p2) ?_ | ((repeat ((fail_if_success (refine hK _ _ ?_)); clear hK)); refine hK _ _ ?_; clear hK))
    refine qapp tyok cooE (atF all (ns.take i)) (posF (120 :: ns.getD i default) all, posF (121 :: ns.getD i default) all) (SubL.refl _) ?_ fun ad c => ?_
    · simp only
      omega
    rw [← hst]
    repeat (first | refine wKB ?_ | refine awp_seq_k (fun K hK => ?_) | refine areg_text mixed tyok (by decide +kernel) ?_ | refine qal tyok (fun bx => ?_) | refine qbox (fun bx => ?_) | refine qboxV (fun bx => ?_) | ((repeat ((fail_if_success (refine hK _ _ ?_)); clear hK)); refine hK _ _ ?_; clear hK))
    exact ⟨⟨(i + 1, ad, c), hlt⟩, (by (repeat (first | exact True.intro | refine ⟨⟨_, rfl, Sub.refl _⟩, ?_⟩ | refine ⟨⟨_, rfl, Sub.nilso _ _⟩, ?_⟩ | refine ⟨⟨_, rfl, sl_tail _ _ _ _ _⟩, ?_⟩ | refine ⟨⟨_, rfl, Sub.of_eq (by first | rfl | (congr 1; first | omega | (simp only; omega)) | (simp; done) | (simp; omega))⟩, ?_⟩ | refine ⟨⟨_, rfl, Sub.view _ _ _ _⟩, ?_⟩))), (by (repeat (first | exact pickNil | refine pickD (by (first | exact .here | exact .there (.here) | exact .there (.there (.here)) | exact .there (.there (.there (.here))) | exact .there (.there (.there (.there (.here)))) | exact .there (.there (.there (.there (.there (.here))))) | exact .there (.there (.there (.there (.there (.there (.here)))))) | exact .there (.there (.there (.there (.there (.there (.there (.here))))))) | exact .there (.there (.there (.there (.there (.there (.there (.there (.here)))))))) | exact .there (.there (.there (.there (.there (.there (.there (.there (.there (.here))))))))))) ?_))), by simp only; omega⟩
  · have hge : ¬ (i : Int) < ns.length := by omega
    obtain rfl : i = ns.length := by omega
    rw [List.take_length]
    repeat (first | refine wKB ?_ | refine awp_seq_k (fun K hK => ?_) | refine areg_text mixed tyok (by decide +kernel) ?_ | refine qal tyok (fun bx => ?_) | refine qbox (fun bx => ?_) | refine qboxV (fun bx => ?_) | ((repeat ((fail_if_success (refine hK _ _ ?_)); clear hK)); refine hK _ _ ?_; clear hK))
    subst hAll
    refine fnQ_ret 3 rfl (.cell rfl rfl (List.mem_of_getElem? (i := 2) rfl) rfl trivial (.tmp rfl .nil)) (Sub.tuple2 (subAgg (.cons (Sub.refl _) (.cons (Sub.view _ _ _ _) (.cons (Sub.refl _) (.cons (Sub.refl _) .nil))))) (Sub.refl _)) ⟨rfl, rfl⟩

end Go.Proofs.YtjinaakebjfbiaaGreatDoor

/-
  The document's layout is the program's (plain law).
-/
namespace Go.Proofs.YtjinaakebjfbiaaGreatDoor
open Go.Ab

theorem at_pairs (z : List (Int × List UInt8)) (hf : Few (z.map Prod.fst)) (hn : (z.map Prod.snd).Nodup) : atF (parL z ++ depL z) (z.map Prod.snd) = pairsC (cel2 (z.map Prod.fst) 0 (parN (z.map Prod.fst))) := by
  have hl2 : (pairsC (cel2 (z.map Prod.fst) 0 (parN (z.map Prod.fst)))).length = z.length := pairsC_len _ _ (by rw [cel2_len, List.length_map])
  refine List.ext_getElem (by rw [hl2]; unfold atF; rw [List.length_map, List.length_map]) fun i h1 h2 => ?_
  have hi : i < z.length := by rw [hl2] at h2; exact h2
  have hz : z.take i ++ (z[i].1, z[i].2) :: z.drop (i + 1) = z := by
    rw [← List.drop_eq_getElem_cons hi, List.take_append_drop]
  have hg := cel2_get (z.map Prod.fst) 0 (parN (z.map Prod.fst)) i (by rw [List.length_map]; exact hi)
  rw [getD_at h2] at hg
  rw [hg]
  have hm : (z.map Prod.fst).getD i 0 = z[i].1 := by rw [List.getD_eq_getElem?_getD, List.getElem?_map, List.getElem?_eq_getElem hi]; rfl
  rw [hm, List.map_take.symm]
  have hne : ∀ j, (hj : j < z.length) → j ≠ i → z[j].2 ≠ z[i].2 := fun j hj hji e => by
    have hp := List.pairwise_iff_getElem.1 hn
    rcases Nat.lt_or_gt_of_ne hji with x | x
    · exact hp j i (by rw [List.length_map]; exact hj) (by rw [List.length_map]; exact hi) x (by simpa using e)
    · exact hp i j (by rw [List.length_map]; exact hi) (by rw [List.length_map]; exact hj) x (by simpa using e.symm)
  have hA : ∀ x ∈ z.take i, x.2 ≠ z[i].2 := fun x hx => by
    obtain ⟨j, hj, rfl⟩ := List.getElem_of_mem hx
    rw [List.length_take] at hj
    rw [List.getElem_take]
    exact hne j (by omega) (by omega)
  have hB : ∀ x ∈ z.drop (i + 1), x.2 ≠ z[i].2 := fun x hx => by
    obtain ⟨j, hj, rfl⟩ := List.getElem_of_mem hx
    rw [List.length_drop] at hj
    rw [List.getElem_drop]
    exact hne (i + 1 + j) (by omega) (by omega)
  have e := posF_at (z.take i) (z.drop (i + 1)) z[i].1 z[i].2 (hf _ (List.mem_map_of_mem (List.getElem_mem hi))) hA hB (parN (z.map Prod.fst)) (by rw [hz])
  rw [hz] at e
  have ea : (atF (parL z ++ depL z) (z.map Prod.snd))[i] = (posF (120 :: z[i].2) (parL z ++ depL z), posF (121 :: z[i].2) (parL z ++ depL z)) := by simp [atF]
  rw [ea, e.1, e.2]
  have hfi := hf _ (List.mem_map_of_mem (f := Prod.fst) (List.getElem_mem hi))
  generalize z[i].1 = n at hfi
  rcases hfi with rfl | rfl | rfl
  · simp
  · simp
  · simp

theorem at_eq {l : List StI} (h : (lookF l).e = 0) : atF (parL (zipF l) ++ depL (zipF l)) (namesF l) = pairsC (cel2 (manyF l) 0 (parN (manyF l))) := by
  obtain ⟨_, _, hn, _, _⟩ := lookF_id h
  have := at_pairs (zipF l) (by rw [zipF_fst]; exact few_of h) (by rw [zipF_snd]; exact hn)
  rw [zipF_fst, zipF_snd] at this
  exact this

theorem par_eq (l : List StI) : ((parL (zipF l)).length : Int) = parN (manyF l) := by rw [parL_len, zipF_fst]
theorem all_eq (l : List StI) : ((parL (zipF l) ++ depL (zipF l)).length : Int) = parN (manyF l) + depN (manyF l) := by
  rw [List.length_append, Int.natCast_add, parL_len, depL_len, zipF_fst]

theorem rof25_same (l : List StI) (hl : l.length ≤ 1000000000000000) (hA : ∀ x ∈ l, x.args.length ≤ 1000000000000000) (hN : ∀ x ∈ l, x.new.w.length ≤ 1000000000000000) (hT : ∀ x ∈ l, ∀ t ∈ x.args, t.w.length ≤ 1000000000000000) (h : (lookF l).e = 0) :
    PCalls Tryz.prog 15 [stmtsI l] (.tuple [layV (namesF l) (pairsC (cel2 (manyF l) 0 (parN (manyF l)))) (parN (manyF l)) (parN (manyF l) + depN (manyF l)), .int .i64 0]) := by
  have g := rof25_c l hl hA hN hT h
  rw [at_eq h, par_eq, all_eq] at g
  exact g

end Go.Proofs.YtjinaakebjfbiaaGreatDoor

/-
  CoordLays returns true.
-/
namespace Go.Proofs.YtjinaakebjfbiaaGreatDoor
open Go.Ab

theorem lay_lend (g : Nat) (ns : List (List UInt8)) (m : Nat) (P V : Int) {xs : List Int} (h : xs.length = 2 * m) : SubH g xs.length (fun j => .int .i64 (xs.getD j 0)) (.agg [sl txtE 1 ns .view, .mslice g 0 m m, .int .i64 P, .int .i64 V]) (layV ns (pairsC xs) P V) := by
  refine SubH.agg rfl fun j v v' h1 h2 => ?_
  match j, h1, h2 with
  | 0, h1, h2 => cases h1; cases h2; exact SubH.rfl' _
  | 1, h1, h2 => cases h1; cases h2; exact rowI_view h
  | 2, h1, h2 => cases h1; cases h2; exact SubH.rfl' _
  | 3, h1, h2 => cases h1; cases h2; exact SubH.rfl' _
  | j + 4, h1, _ => cases h1

theorem cbCdL : Callable Tryz.prog 3 := fun _ _ => by kernel_rfl
set_option maxHeartbeats 6400000 in
set_option maxRecDepth 100000 in
theorem coordLays_c (l : List StI) (ns : List (List UInt8)) (cs : List (Int × Int)) (p q v : Int) (w : List UInt8)
    (hl : l.length ≤ 1000000000000000) (hA : ∀ x ∈ l, x.args.length ≤ 1000000000000000) (hN : ∀ x ∈ l, x.new.w.length ≤ 1000000000000000) (hT : ∀ x ∈ l, ∀ t ∈ x.args, t.w.length ≤ 1000000000000000)
    (hn : ∀ x ∈ ns, x.length ≤ 1000000000000000) : PCalls Tryz.prog 3 [stmtsI l, layV ns cs p q, .int .i64 v, .str w] (.bool true) := by
  refine pcalls_of_awp tyok cbCdL Tryz.func3 rfl rfl ?_
  have g1 := great_c l hl hA hT
  have hA' : ∀ x ∈ l, x.args.length ≤ 10000000000000000 := fun x hx => by have := hA x hx; omega
  unfold layV
  cases h1 : decide (grL l > 1000) with
  | true =>
    rw [h1] at g1
    ((repeat (first | refine wKB ?_ | refine awp_seq_k (fun K hK => ?_) | refine areg_text mixed tyok (by decide +kernel) ?_ | refine TR.pcall rfl rfl rfl rfl True.intro rfl rfl (g1) ?_ | refine TR.pcall rfl rfl rfl rfl True.intro rfl rfl (known25_c) ?_ | refine pco rfl rfl rfl rfl rfl rfl rfl rfl (fun _ => g1) ?_ | refine pco rfl rfl rfl rfl rfl rfl rfl rfl (fun _ => known25_c) ?_ | ((repeat ((fail_if_success (refine hK _ _ ?_)); clear hK)); refine hK _ _ ?_; clear hK))); ((first | refine qal tyok (fun b5 => ?_) | refine qbox (fun b5 => ?_) | refine qboxV (fun b5 => ?_))); (repeat (first | refine wKB ?_ | refine awp_seq_k (fun K hK => ?_) | refine areg_text mixed tyok (by decide +kernel) ?_ | refine qal tyok (fun bx => ?_) | refine qbox (fun bx => ?_) | refine qboxV (fun bx => ?_) | refine TR.pcall rfl rfl rfl rfl True.intro rfl rfl (g1) ?_ | refine TR.pcall rfl rfl rfl rfl True.intro rfl rfl (known25_c) ?_ | refine pco rfl rfl rfl rfl rfl rfl rfl rfl (fun _ => g1) ?_ | refine pco rfl rfl rfl rfl rfl rfl rfl rfl (fun _ => known25_c) ?_ | ((repeat ((fail_if_success (refine hK _ _ ?_)); clear hK)); refine hK _ _ ?_; clear hK))))
    refine r1 ?_
    exact Sub.refl _
  | false =>
  rw [h1] at g1
  by_cases c1 : ns.length > 60
  · have c1' : (ns.length : Int) > 60 := by omega
    ((repeat (first | refine wKB ?_ | refine awp_seq_k (fun K hK => ?_) | refine areg_text mixed tyok (by decide +kernel) ?_ | refine TR.pcall rfl rfl rfl rfl True.intro rfl rfl (g1) ?_ | refine TR.pcall rfl rfl rfl rfl True.intro rfl rfl (known25_c) ?_ | refine pco rfl rfl rfl rfl rfl rfl rfl rfl (fun _ => g1) ?_ | refine pco rfl rfl rfl rfl rfl rfl rfl rfl (fun _ => known25_c) ?_ | ((repeat ((fail_if_success (refine hK _ _ ?_)); clear hK)); refine hK _ _ ?_; clear hK))); ((first | refine qal tyok (fun b5 => ?_) | refine qbox (fun b5 => ?_) | refine qboxV (fun b5 => ?_))); (repeat (first | refine wKB ?_ | refine awp_seq_k (fun K hK => ?_) | refine areg_text mixed tyok (by decide +kernel) ?_ | refine qal tyok (fun bx => ?_) | refine qbox (fun bx => ?_) | refine qboxV (fun bx => ?_) | refine TR.pcall rfl rfl rfl rfl True.intro rfl rfl (g1) ?_ | refine TR.pcall rfl rfl rfl rfl True.intro rfl rfl (known25_c) ?_ | refine pco rfl rfl rfl rfl rfl rfl rfl rfl (fun _ => g1) ?_ | refine pco rfl rfl rfl rfl rfl rfl rfl rfl (fun _ => known25_c) ?_ | ((repeat ((fail_if_success (refine hK _ _ ?_)); clear hK)); refine hK _ _ ?_; clear hK))))
    refine r1 ?_
    exact Sub.refl _
  have c1' : ¬ (ns.length : Int) > 60 := by omega
  by_cases c2 : cs.length > 60
  · have c2' : (cs.length : Int) > 60 := by omega
    ((repeat (first | refine wKB ?_ | refine awp_seq_k (fun K hK => ?_) | refine areg_text mixed tyok (by decide +kernel) ?_ | refine TR.pcall rfl rfl rfl rfl True.intro rfl rfl (g1) ?_ | refine TR.pcall rfl rfl rfl rfl True.intro rfl rfl (known25_c) ?_ | refine pco rfl rfl rfl rfl rfl rfl rfl rfl (fun _ => g1) ?_ | refine pco rfl rfl rfl rfl rfl rfl rfl rfl (fun _ => known25_c) ?_ | ((repeat ((fail_if_success (refine hK _ _ ?_)); clear hK)); refine hK _ _ ?_; clear hK))); ((first | refine qal tyok (fun b5 => ?_) | refine qbox (fun b5 => ?_) | refine qboxV (fun b5 => ?_))); (repeat (first | refine wKB ?_ | refine awp_seq_k (fun K hK => ?_) | refine areg_text mixed tyok (by decide +kernel) ?_ | refine qal tyok (fun bx => ?_) | refine qbox (fun bx => ?_) | refine qboxV (fun bx => ?_) | refine TR.pcall rfl rfl rfl rfl True.intro rfl rfl (g1) ?_ | refine TR.pcall rfl rfl rfl rfl True.intro rfl rfl (known25_c) ?_ | refine pco rfl rfl rfl rfl rfl rfl rfl rfl (fun _ => g1) ?_ | refine pco rfl rfl rfl rfl rfl rfl rfl rfl (fun _ => known25_c) ?_ | ((repeat ((fail_if_success (refine hK _ _ ?_)); clear hK)); refine hK _ _ ?_; clear hK))))
    refine r1 ?_
    exact Sub.refl _
  have c2' : ¬ (cs.length : Int) > 60 := by omega
  by_cases c3 : w.length > 100
  · have c3' : (w.length : Int) > 100 := by omega
    ((repeat (first | refine wKB ?_ | refine awp_seq_k (fun K hK => ?_) | refine areg_text mixed tyok (by decide +kernel) ?_ | refine TR.pcall rfl rfl rfl rfl True.intro rfl rfl (g1) ?_ | refine TR.pcall rfl rfl rfl rfl True.intro rfl rfl (known25_c) ?_ | refine pco rfl rfl rfl rfl rfl rfl rfl rfl (fun _ => g1) ?_ | refine pco rfl rfl rfl rfl rfl rfl rfl rfl (fun _ => known25_c) ?_ | ((repeat ((fail_if_success (refine hK _ _ ?_)); clear hK)); refine hK _ _ ?_; clear hK))); ((first | refine qal tyok (fun b5 => ?_) | refine qbox (fun b5 => ?_) | refine qboxV (fun b5 => ?_))); (repeat (first | refine wKB ?_ | refine awp_seq_k (fun K hK => ?_) | refine areg_text mixed tyok (by decide +kernel) ?_ | refine qal tyok (fun bx => ?_) | refine qbox (fun bx => ?_) | refine qboxV (fun bx => ?_) | refine TR.pcall rfl rfl rfl rfl True.intro rfl rfl (g1) ?_ | refine TR.pcall rfl rfl rfl rfl True.intro rfl rfl (known25_c) ?_ | refine pco rfl rfl rfl rfl rfl rfl rfl rfl (fun _ => g1) ?_ | refine pco rfl rfl rfl rfl rfl rfl rfl rfl (fun _ => known25_c) ?_ | ((repeat ((fail_if_success (refine hK _ _ ?_)); clear hK)); refine hK _ _ ?_; clear hK))))
    refine r1 ?_
    exact Sub.refl _
  have c3' : ¬ (w.length : Int) > 100 := by omega
  have n1 := name_c ns cs p q v (by omega) (by omega) hn
  have n2 := rname25_c ns cs p q v (by omega) (by omega) hn
  have f1 := find_c ns cs p q w (by omega) (by omega) hn
  have f2 := rfind25_c ns cs p q w (by omega) (by omega) hn
  unfold layV at n1 n2 f1 f2
  by_cases he : (lookF l).e = 0
  rotate_left
  · have go := of_no l (by omega) hA' he
    have gr := rof25_no l (by omega) hA' he
    have gs := same25_c [] [] 0 0 (by decide) (by decide)
    have h0 : ∀ x ∈ ([] : List (List UInt8)), x.length ≤ 1000000000000000 := fun x hx => by cases hx
    have n3 := name_c [] [] 0 0 v (by decide) (by decide) h0
    have n4 := rname25_c [] [] 0 0 v (by decide) (by decide) h0
    have f3 := find_c [] [] 0 0 w (by decide) (by decide) h0
    have f4 := rfind25_c [] [] 0 0 w (by decide) (by decide) h0
    unfold layV at gr gs n3 n4 f3 f4
    ((repeat (first | refine wKB ?_ | refine awp_seq_k (fun K hK => ?_) | refine TR.pcall rfl rfl rfl rfl True.intro rfl rfl (g1) ?_ | refine TR.pcall rfl rfl rfl rfl True.intro rfl rfl (go) ?_ | refine TR.pcall rfl rfl rfl rfl True.intro rfl rfl (gr) ?_ | refine TR.pcall rfl rfl rfl rfl True.intro rfl rfl (gs) ?_ | refine pco rfl rfl rfl rfl rfl rfl rfl rfl (fun _ => g1) ?_ | refine pco rfl rfl rfl rfl rfl rfl rfl rfl (fun _ => go) ?_ | refine pco rfl rfl rfl rfl rfl rfl rfl rfl (fun _ => gr) ?_ | refine pco rfl rfl rfl rfl rfl rfl rfl rfl (fun _ => gs) ?_ | ((repeat ((fail_if_success (refine hK _ _ ?_)); clear hK)); refine hK _ _ ?_; clear hK))); ((first | refine qal tyok (fun b5 => ?_) | refine qbox (fun b5 => ?_) | refine qboxV (fun b5 => ?_))); (repeat (first | refine wKB ?_ | refine awp_seq_k (fun K hK => ?_) | refine TR.pcall rfl rfl rfl rfl True.intro rfl rfl (g1) ?_ | refine TR.pcall rfl rfl rfl rfl True.intro rfl rfl (go) ?_ | refine TR.pcall rfl rfl rfl rfl True.intro rfl rfl (gr) ?_ | refine TR.pcall rfl rfl rfl rfl True.intro rfl rfl (gs) ?_ | refine pco rfl rfl rfl rfl rfl rfl rfl rfl (fun _ => g1) ?_ | refine pco rfl rfl rfl rfl rfl rfl rfl rfl (fun _ => go) ?_ | refine pco rfl rfl rfl rfl rfl rfl rfl rfl (fun _ => gr) ?_ | refine pco rfl rfl rfl rfl rfl rfl rfl rfl (fun _ => gs) ?_ | ((repeat ((fail_if_success (refine hK _ _ ?_)); clear hK)); refine hK _ _ ?_; clear hK))); ((first | refine qal tyok (fun b9 => ?_) | refine qbox (fun b9 => ?_) | refine qboxV (fun b9 => ?_))); (repeat (first | refine wKB ?_ | refine awp_seq_k (fun K hK => ?_) | refine TR.pcall rfl rfl rfl rfl True.intro rfl rfl (g1) ?_ | refine TR.pcall rfl rfl rfl rfl True.intro rfl rfl (go) ?_ | refine TR.pcall rfl rfl rfl rfl True.intro rfl rfl (gr) ?_ | refine TR.pcall rfl rfl rfl rfl True.intro rfl rfl (gs) ?_ | refine pco rfl rfl rfl rfl rfl rfl rfl rfl (fun _ => g1) ?_ | refine pco rfl rfl rfl rfl rfl rfl rfl rfl (fun _ => go) ?_ | refine pco rfl rfl rfl rfl rfl rfl rfl rfl (fun _ => gr) ?_ | refine pco rfl rfl rfl rfl rfl rfl rfl rfl (fun _ => gs) ?_ | ((repeat ((fail_if_success (refine hK _ _ ?_)); clear hK)); refine hK _ _ ?_; clear hK))); ((first | refine qal tyok (fun b11 => ?_) | refine qbox (fun b11 => ?_) | refine qboxV (fun b11 => ?_))); (repeat (first | refine wKB ?_ | refine awp_seq_k (fun K hK => ?_) | refine qal tyok (fun bx => ?_) | refine qbox (fun bx => ?_) | refine qboxV (fun bx => ?_) | refine TR.pcall rfl rfl rfl rfl True.intro rfl rfl (g1) ?_ | refine TR.pcall rfl rfl rfl rfl True.intro rfl rfl (go) ?_ | refine TR.pcall rfl rfl rfl rfl True.intro rfl rfl (gr) ?_ | refine TR.pcall rfl rfl rfl rfl True.intro rfl rfl (gs) ?_ | refine pco rfl rfl rfl rfl rfl rfl rfl rfl (fun _ => g1) ?_ | refine pco rfl rfl rfl rfl rfl rfl rfl rfl (fun _ => go) ?_ | refine pco rfl rfl rfl rfl rfl rfl rfl rfl (fun _ => gr) ?_ | refine pco rfl rfl rfl rfl rfl rfl rfl rfl (fun _ => gs) ?_ | ((repeat ((fail_if_success (refine hK _ _ ?_)); clear hK)); refine hK _ _ ?_; clear hK))))
    refine awp_loop0 (ι := Unit) (fun _ => [(5, .ptr b5 0), (11, .ptr b11 0), (2, .int .i64 v), (3, .str w), (55, .int .i64 0), (56, .int .i64 0)])
      (fun _ => [.box b11 26 (.agg [sl txtE 1 [] .view, sl cooE 2 [] .view, .int .i64 0, .int .i64 0]), .box b9 26 (.agg [sl txtE 1 [] .view, sl cooE 2 [] .view, .int .i64 0, .int .i64 0]), .box b5 26 (.agg [sl txtE 1 ns .view, sl cooE 2 cs .view, .int .i64 p, .int .i64 q])]) (fun _ => 0) () (by (repeat (first | exact True.intro | refine ⟨⟨_, rfl, Sub.refl _⟩, ?_⟩ | refine ⟨⟨_, rfl, Sub.nilso _ _⟩, ?_⟩ | refine ⟨⟨_, rfl, sl_tail _ _ _ _ _⟩, ?_⟩ | refine ⟨⟨_, rfl, Sub.of_eq (by first | rfl | (congr 1; first | omega | (simp only; omega)) | (simp; done) | (simp; omega))⟩, ?_⟩ | refine ⟨⟨_, rfl, Sub.view _ _ _ _⟩, ?_⟩))) (by (first | exact ⟨0, rfl⟩ | exact ⟨1, rfl⟩ | exact ⟨2, rfl⟩ | exact ⟨3, rfl⟩ | exact ⟨4, rfl⟩)) ?_
    rintro ⟨⟩
    repeat (first | refine wKB ?_ | refine awp_seq_k (fun K hK => ?_) | refine qal tyok (fun bx => ?_) | refine qbox (fun bx => ?_) | refine qboxV (fun bx => ?_) | ((repeat ((fail_if_success (refine hK _ _ ?_)); clear hK)); refine hK _ _ ?_; clear hK))
    refine areg_soft mixed tyok [2, 5, 10, 13, 19, 22, 28, 31, 35] [] [0, 1, 2, 3, 4, 5, 6, 7, 8, 9, 10, 11, 12, 13, 14, 15, 16, 17, 18, 19, 20, 21, 22, 23, 24, 25, 26, 27, 28, 29, 30, 31, 32, 33, 34, 35, 36, 37] (by decide +kernel) ?_
    repeat (first | refine wKE ?_ | refine awp_seq_k (fun K hK => ?_) | refine areg_text mixed tyok (by decide +kernel) ?_ | refine qal tyok (fun bx => ?_) | refine qbox (fun bx => ?_) | refine qboxV (fun bx => ?_) | refine TR.pcall rfl rfl rfl rfl True.intro rfl rfl (n1) ?_ | refine TR.pcall rfl rfl rfl rfl True.intro rfl rfl (n2) ?_ | refine TR.pcall rfl rfl rfl rfl True.intro rfl rfl (f1) ?_ | refine TR.pcall rfl rfl rfl rfl True.intro rfl rfl (f2) ?_ | refine TR.pcall rfl rfl rfl rfl True.intro rfl rfl (n3) ?_ | refine TR.pcall rfl rfl rfl rfl True.intro rfl rfl (n4) ?_ | refine TR.pcall rfl rfl rfl rfl True.intro rfl rfl (f3) ?_ | refine TR.pcall rfl rfl rfl rfl True.intro rfl rfl (f4) ?_ | refine TR.pcall rfl rfl rfl rfl True.intro rfl rfl (known25_c) ?_ | refine pco rfl rfl rfl rfl rfl rfl rfl rfl (fun _ => n1) ?_ | refine pco rfl rfl rfl rfl rfl rfl rfl rfl (fun _ => n2) ?_ | refine pco rfl rfl rfl rfl rfl rfl rfl rfl (fun _ => f1) ?_ | refine pco rfl rfl rfl rfl rfl rfl rfl rfl (fun _ => f2) ?_ | refine pco rfl rfl rfl rfl rfl rfl rfl rfl (fun _ => n3) ?_ | refine pco rfl rfl rfl rfl rfl rfl rfl rfl (fun _ => n4) ?_ | refine pco rfl rfl rfl rfl rfl rfl rfl rfl (fun _ => f3) ?_ | refine pco rfl rfl rfl rfl rfl rfl rfl rfl (fun _ => f4) ?_ | refine pco rfl rfl rfl rfl rfl rfl rfl rfl (fun _ => known25_c) ?_ | ((repeat ((fail_if_success (refine hK _ _ ?_)); clear hK)); refine hK _ _ ?_; clear hK))
    exact fnQ_ret 3 rfl (.tmp rfl .nil) (Sub.refl _) ⟨rfl, rfl⟩
  have go := of_c l (by omega) hA' he
  have gr := rof25_same l hl hA hN hT he
  obtain ⟨_, _, _, h40, _⟩ := lookF_id he
  have hml := manyF_len l
  have hcl := cel2_len (manyF l) 0 (parN (manyF l))
  have hbd : ∀ i, i < (manyF l).length → 0 ≤ (cel2 (manyF l) 0 (parN (manyF l))).getD (2 * i) 0 ∧ (cel2 (manyF l) 0 (parN (manyF l))).getD (2 * i) 0 ≤ 1000 := fun i hi => by
    have hP := parN_bd (manyF l)
    have hD := depN_bd (manyF l)
    have hi2 : i < (pairsC (cel2 (manyF l) 0 (parN (manyF l)))).length := by rw [pairsC_len _ _ hcl]; exact hi
    have hb := cel2_in (few_of he) (Int.le_refl 0) (show 0 + parN (manyF l) ≤ parN (manyF l) by omega) _ (List.getElem_mem hi2)
    rw [← getD_at hi2, pairsC_get _ i (by rw [hcl]; omega)] at hb
    simp only at hb
    omega
  have hnw : ∀ x ∈ namesF l, x.length ≤ 1000000000000000 := by
    intro x hx
    obtain ⟨y, hy, hx⟩ := List.mem_flatMap.1 hx
    unfold namesOf at hx
    split at hx
    · obtain ⟨t, ht, rfl⟩ := List.mem_map.1 hx
      exact hT y hy t ht
    · split at hx
      · simp only [List.mem_singleton] at hx
        subst hx
        exact hN y hy
      · cases hx
  have hgs := fun g => PCalls.lend (g := g) (t := 34) (Flat.bool true) (same25_c (namesF l) (pairsC (cel2 (manyF l) 0 (parN (manyF l)))) (parN (manyF l)) (parN (manyF l) + depN (manyF l)) (by omega) (by rw [pairsC_len _ _ hcl]; omega)) (.cons (lay_lend g (namesF l) (manyF l).length (parN (manyF l)) (parN (manyF l) + depN (manyF l)) hcl) (.same .nil))
  have n3 := name_c (namesF l) (pairsC (cel2 (manyF l) 0 (parN (manyF l)))) (parN (manyF l)) (parN (manyF l) + depN (manyF l)) v (by omega) (by rw [pairsC_len _ _ hcl]; omega) hnw
  have n4 := rname25_c (namesF l) (pairsC (cel2 (manyF l) 0 (parN (manyF l)))) (parN (manyF l)) (parN (manyF l) + depN (manyF l)) v (by omega) (by rw [pairsC_len _ _ hcl]; omega) hnw
  have f3 := find_c (namesF l) (pairsC (cel2 (manyF l) 0 (parN (manyF l)))) (parN (manyF l)) (parN (manyF l) + depN (manyF l)) w (by omega) (by rw [pairsC_len _ _ hcl]; omega) hnw
  have f4 := rfind25_c (namesF l) (pairsC (cel2 (manyF l) 0 (parN (manyF l)))) (parN (manyF l)) (parN (manyF l) + depN (manyF l)) w (by omega) (by rw [pairsC_len _ _ hcl]; omega) hnw
  generalize parN (manyF l) = P at *
  generalize depN (manyF l) = D at *
  generalize hxs : cel2 (manyF l) 0 P = xs at *
  generalize (manyF l).length = m at *
  generalize hNs : namesF l = Ns at *
  generalize pairsC xs = ps at gr hgs n3 n4 f3 f4
  unfold layV at gr hgs n3 n4 f3 f4
  ((repeat (first | refine wKB ?_ | refine awp_seq_k (fun K hK => ?_) | refine areg_text mixed tyok (by decide +kernel) ?_ | refine TR.pcall rfl rfl rfl rfl True.intro rfl rfl (g1) ?_ | refine pco rfl rfl rfl rfl rfl rfl rfl rfl (fun _ => g1) ?_ | ((repeat ((fail_if_success (refine hK _ _ ?_)); clear hK)); refine hK _ _ ?_; clear hK))); ((first | refine qal tyok (fun b5 => ?_) | refine qbox (fun b5 => ?_) | refine qboxV (fun b5 => ?_))); (repeat (first | refine wKB ?_ | refine awp_seq_k (fun K hK => ?_) | refine areg_text mixed tyok (by decide +kernel) ?_ | refine qal tyok (fun bx => ?_) | refine qbox (fun bx => ?_) | refine qboxV (fun bx => ?_) | refine TR.pcall rfl rfl rfl rfl True.intro rfl rfl (g1) ?_ | refine pco rfl rfl rfl rfl rfl rfl rfl rfl (fun _ => g1) ?_ | ((repeat ((fail_if_success (refine hK _ _ ?_)); clear hK)); refine hK _ _ ?_; clear hK))))
  refine qcallXV (G := [.box b5 26 (.agg [sl txtE 1 ns .view, sl cooE 2 cs .view, .int .i64 p, .int .i64 q])]) (Hc := []) (Hc' := fun g => [rowI g 34 xs])
    (H2 := fun g => [.box b5 26 (.agg [sl txtE 1 ns .view, sl cooE 2 cs .view, .int .i64 p, .int .i64 q]), rowI g 34 xs]) go fun g => ?_
  ((repeat (first | refine wKB ?_ | refine awp_seq_k (fun K hK => ?_) | refine areg_text mixed tyok (by decide +kernel) ?_ | ((repeat ((fail_if_success (refine hK _ _ ?_)); clear hK)); refine hK _ _ ?_; clear hK))); ((first | refine qal tyok (fun b9 => ?_) | refine qbox (fun b9 => ?_) | refine qboxV (fun b9 => ?_))))
  (((repeat (first | refine wT ?_ | refine qal tyok (fun bx => ?_) | refine qbox (fun bx => ?_) | refine qboxV (fun bx => ?_)))); repeat (first | (with_reducible refine pQ_normal ?_) | (with_reducible refine thenQ_normal ?_) | (with_reducible refine blockQ_normal ?_) | (with_reducible refine thenQ_exit ?_) | (with_reducible refine blockQ_hit ?_) | refine blockQ_miss rfl ?_ | (with_reducible refine thenQ_ret ?_) | (with_reducible refine blockQ_ret ?_) | (with_reducible refine pQ_panic ?_) | (with_reducible refine thenQ_panic ?_) | (with_reducible refine blockQ_panic ?_)); ((repeat ((fail_if_success (refine hK _ _ ?_)); clear hK)); refine hK _ _ ?_; clear hK))
  refine awp_boxSub [] (v' := .agg [sl txtE 1 Ns .view, .mslice g 0 m m, .int .i64 P, .int .i64 (P + D)]) (Sub.of_eq rfl) ?_
  ((repeat (first | refine wKB ?_ | refine awp_seq_k (fun K hK => ?_) | refine areg_text mixed tyok (by decide +kernel) ?_ | refine TR.pcall rfl rfl rfl rfl True.intro rfl rfl (gr) ?_ | refine pco rfl rfl rfl rfl rfl rfl rfl rfl (fun _ => gr) ?_ | ((repeat ((fail_if_success (refine hK _ _ ?_)); clear hK)); refine hK _ _ ?_; clear hK))); ((first | refine qal tyok (fun b11 => ?_) | refine qbox (fun b11 => ?_) | refine qboxV (fun b11 => ?_))))
  (((repeat (first | refine wT ?_ | refine qal tyok (fun bx => ?_) | refine qbox (fun bx => ?_) | refine qboxV (fun bx => ?_)))); repeat (first | (with_reducible refine pQ_normal ?_) | (with_reducible refine thenQ_normal ?_) | (with_reducible refine blockQ_normal ?_) | (with_reducible refine thenQ_exit ?_) | (with_reducible refine blockQ_hit ?_) | refine blockQ_miss rfl ?_ | (with_reducible refine thenQ_ret ?_) | (with_reducible refine blockQ_ret ?_) | (with_reducible refine pQ_panic ?_) | (with_reducible refine thenQ_panic ?_) | (with_reducible refine blockQ_panic ?_)); ((repeat ((fail_if_success (refine hK _ _ ?_)); clear hK)); refine hK _ _ ?_; clear hK))
  refine awp_boxSub [] (v' := .agg [sl txtE 1 Ns .view, sl cooE 2 ps .view, .int .i64 P, .int .i64 (P + D)]) (Sub.of_eq rfl) ?_
  have hg := hgs g
  repeat (first | refine wKB ?_ | refine awp_seq_k (fun K hK => ?_) | refine areg_text mixed tyok (by decide +kernel) ?_ | refine qal tyok (fun bx => ?_) | refine qbox (fun bx => ?_) | refine qboxV (fun bx => ?_) | ((repeat ((fail_if_success (refine hK _ _ ?_)); clear hK)); refine hK _ _ ?_; clear hK))
  refine qcallH (G := [_, _, _]) hg ?_
  repeat (first | refine wKB ?_ | refine awp_seq_k (fun K hK => ?_) | refine qal tyok (fun bx => ?_) | refine qbox (fun bx => ?_) | refine qboxV (fun bx => ?_) | ((repeat ((fail_if_success (refine hK _ _ ?_)); clear hK)); refine hK _ _ ?_; clear hK))
  refine awp_loop0 (ι := { y : Nat × List Int // y.1 ≤ m ∧ y.2.length = 2 * m ∧ y.2.drop (2 * y.1) = xs.drop (2 * y.1) })
    (fun y => [(5, .ptr b5 0), (9, .ptr b9 0), (11, .ptr b11 0), (2, .int .i64 v), (3, .str w), (55, .int .i64 m), (56, .int .i64 y.1.1)])
    (fun y => [.box b11 26 (.agg [sl txtE 1 Ns .view, sl cooE 2 ps .view, .int .i64 P, .int .i64 (P + D)]), .box b9 26 (.agg [sl txtE 1 Ns .view, .mslice g 0 m m, .int .i64 P, .int .i64 (P + D)]), .box b5 26 (.agg [sl txtE 1 ns .view, sl cooE 2 cs .view, .int .i64 p, .int .i64 q]), rowI g 34 y.1.2])
    (fun y => m - y.1.1) ⟨(0, xs), Nat.zero_le _, hcl, rfl⟩ (by (repeat (first | exact True.intro | refine ⟨⟨_, rfl, Sub.refl _⟩, ?_⟩ | refine ⟨⟨_, rfl, Sub.nilso _ _⟩, ?_⟩ | refine ⟨⟨_, rfl, sl_tail _ _ _ _ _⟩, ?_⟩ | refine ⟨⟨_, rfl, Sub.of_eq (by first | rfl | (congr 1; first | omega | (simp only; omega)) | (simp; done) | (simp; omega))⟩, ?_⟩ | refine ⟨⟨_, rfl, Sub.view _ _ _ _⟩, ?_⟩))) ⟨0, rfl⟩ ?_
  rintro ⟨⟨i, ys⟩, hi, hyl, hyd⟩
  simp only at hi hyl hyd ⊢
  by_cases hlt : i < m
  · have hlt' : (i : Int) < m := by omega
    have hx := hbd i hlt
    have hy : ys.getD (0 + ((i : Int)).toNat * 2 + 0) 0 = xs.getD (2 * i) 0 := by
      have e1 : (ys.drop (2 * i)).getD 0 0 = (xs.drop (2 * i)).getD 0 0 := by rw [hyd]
      rw [List.getD_eq_getElem?_getD, List.getD_eq_getElem?_getD, List.getElem?_drop, List.getElem?_drop, Nat.add_zero] at e1
      rw [List.getD_eq_getElem?_getD, List.getD_eq_getElem?_getD, ← e1, Int.toNat_natCast, Nat.zero_add, Nat.add_zero, Nat.mul_comm]
    rw [← hy] at hx
    have hyn : 0 + ((i : Int)).toNat * 2 + 0 < ys.length := by rw [hyl, Int.toNat_natCast]; omega
    have hput := rowI_put (g := g) (t := 34) (v := ys.getD (0 + ((i : Int)).toNat * 2 + 0) 0 + 1) hyn
    unfold rowI rowM
    repeat (first | refine wKB ?_ | refine awp_seq_k (fun K hK => ?_) | refine areg_text mixed tyok (by decide +kernel) ?_ | refine qal tyok (fun bx => ?_) | refine qbox (fun bx => ?_) | refine qboxV (fun bx => ?_) | ((repeat ((fail_if_success (refine hK _ _ ?_)); clear hK)); refine hK _ _ ?_; clear hK))
    refine qiaM tyok ?_
    repeat (first | refine wKB ?_ | refine awp_seq_k (fun K hK => ?_) | refine areg_text mixed tyok (by decide +kernel) ?_ | refine qal tyok (fun bx => ?_) | refine qbox (fun bx => ?_) | refine qboxV (fun bx => ?_) | ((repeat ((fail_if_success (refine hK _ _ ?_)); clear hK)); refine hK _ _ ?_; clear hK))
    refine qiaM tyok ?_
    repeat (first | refine wKB ?_ | refine awp_seq_k (fun K hK => ?_) | refine areg_text mixed tyok (by decide +kernel) ?_ | refine qal tyok (fun bx => ?_) | refine qbox (fun bx => ?_) | refine qboxV (fun bx => ?_) | ((repeat ((fail_if_success (refine hK _ _ ?_)); clear hK)); refine hK _ _ ?_; clear hK))
    refine ⟨⟨(i + 1, ys.set (0 + ((i : Int)).toNat * 2 + 0) (ys.getD (0 + ((i : Int)).toNat * 2 + 0) 0 + 1)), hlt, by simp only [List.length_set]; exact hyl, ?_⟩, (by (repeat (first | exact True.intro | refine ⟨⟨_, rfl, Sub.refl _⟩, ?_⟩ | refine ⟨⟨_, rfl, Sub.nilso _ _⟩, ?_⟩ | refine ⟨⟨_, rfl, sl_tail _ _ _ _ _⟩, ?_⟩ | refine ⟨⟨_, rfl, Sub.of_eq (by first | rfl | (congr 1; first | omega | (simp only; omega)) | (simp; done) | (simp; omega))⟩, ?_⟩ | refine ⟨⟨_, rfl, Sub.view _ _ _ _⟩, ?_⟩))), ⟨0, ?_⟩, by simp only; omega⟩
    · simp only
      rw [List.drop_set_of_lt (by rw [Int.toNat_natCast]; omega), show 2 * (i + 1) = 2 * i + 2 by omega, ← List.drop_drop, ← List.drop_drop, hyd]
    · exact congrArg (fun e => [_, _, _, e]) hput
  · have hge : ¬ (i : Int) < m := by omega
    repeat (first | refine wKB ?_ | refine awp_seq_k (fun K hK => ?_) | refine qal tyok (fun bx => ?_) | refine qbox (fun bx => ?_) | refine qboxV (fun bx => ?_) | ((repeat ((fail_if_success (refine hK _ _ ?_)); clear hK)); refine hK _ _ ?_; clear hK))
    refine areg_soft mixed tyok [2, 5, 10, 13, 19, 22, 28, 31, 35] [] [0, 1, 2, 3, 4, 5, 6, 7, 8, 9, 10, 11, 12, 13, 14, 15, 16, 17, 18, 19, 20, 21, 22, 23, 24, 25, 26, 27, 28, 29, 30, 31, 32, 33, 34, 35, 36, 37] (by decide +kernel) ?_
    repeat (first | refine wKE ?_ | refine awp_seq_k (fun K hK => ?_) | refine areg_text mixed tyok (by decide +kernel) ?_ | refine qal tyok (fun bx => ?_) | refine qbox (fun bx => ?_) | refine qboxV (fun bx => ?_) | refine TR.pcall rfl rfl rfl rfl True.intro rfl rfl (n1) ?_ | refine TR.pcall rfl rfl rfl rfl True.intro rfl rfl (n2) ?_ | refine TR.pcall rfl rfl rfl rfl True.intro rfl rfl (f1) ?_ | refine TR.pcall rfl rfl rfl rfl True.intro rfl rfl (f2) ?_ | refine TR.pcall rfl rfl rfl rfl True.intro rfl rfl (n3) ?_ | refine TR.pcall rfl rfl rfl rfl True.intro rfl rfl (n4) ?_ | refine TR.pcall rfl rfl rfl rfl True.intro rfl rfl (f3) ?_ | refine TR.pcall rfl rfl rfl rfl True.intro rfl rfl (f4) ?_ | refine TR.pcall rfl rfl rfl rfl True.intro rfl rfl (known25_c) ?_ | refine pco rfl rfl rfl rfl rfl rfl rfl rfl (fun _ => n1) ?_ | refine pco rfl rfl rfl rfl rfl rfl rfl rfl (fun _ => n2) ?_ | refine pco rfl rfl rfl rfl rfl rfl rfl rfl (fun _ => f1) ?_ | refine pco rfl rfl rfl rfl rfl rfl rfl rfl (fun _ => f2) ?_ | refine pco rfl rfl rfl rfl rfl rfl rfl rfl (fun _ => n3) ?_ | refine pco rfl rfl rfl rfl rfl rfl rfl rfl (fun _ => n4) ?_ | refine pco rfl rfl rfl rfl rfl rfl rfl rfl (fun _ => f3) ?_ | refine pco rfl rfl rfl rfl rfl rfl rfl rfl (fun _ => f4) ?_ | refine pco rfl rfl rfl rfl rfl rfl rfl rfl (fun _ => known25_c) ?_ | ((repeat ((fail_if_success (refine hK _ _ ?_)); clear hK)); refine hK _ _ ?_; clear hK))
    exact fnQ_ret 4 rfl (.tmp rfl .nil) (Sub.refl _) ⟨rfl, rfl⟩

end Go.Proofs.YtjinaakebjfbiaaGreatDoor
