/-
  The parser's reader: where it stands, the next word, all that is left.
-/
import Derived.Test.YtjinaakebjfbiaaGreatDoorPr0
import Derived.Test.YtjinaakebjfbiaaGreatDoorAbB
namespace Go.Proofs.YtjinaakebjfbiaaGreatDoor
open Go.Ab

def rdV (l : List TokR) (e : Nat × Nat) : AV := .agg [toksV l, .int .i64 e.1, .int .i64 e.2]
def rdB (b : Nat) (l : List TokR) (e : Nat × Nat) : Ent := .box b 191 (rdV l e)
def misV (p : Nat × Nat) : AV := .iface 156 (placeV p.1 p.2)

theorem sl_tail_eq {α : Type} [Inhabited α] (f : α → List AV) (sz : Nat) (x : α) (xs : List α) (o : Go.Ab.Own) :
    AV.slice sz ((x :: xs).length - (1 : Int).toNat) (fun i => f ((x :: xs).getD ((1 : Int).toNat + i) default)) o = sl f sz xs o := by
  unfold sl
  congr 1
  funext i
  rw [show (1 : Int).toNat + i = i + 1 by omega]
  rfl

theorem cbAt : Callable Tryz.prog 158 := fun _ _ => by kernel_rfl
set_option maxHeartbeats 1600000 in
theorem at_c (b : Nat) (l : List TokR) (e : Nat × Nat) : ACalls Tryz.prog 158 [.ptr b 0] [rdB b l e] (fun r H' => r = .ret (placeV (atP e l).1 (atP e l).2) ∧ H' = [rdB b l e]) := by
  refine acalls_of_awp tyok cbAt Tryz.func158 rfl rfl ?_
  unfold rdB
  cases l with
  | nil =>
    ((repeat (first | refine wKB ?_ | refine awp_seq_k (fun K hK => ?_) | refine areg_text mixed tyok (by decide +kernel) ?_ | ((repeat ((fail_if_success (refine hK _ _ ?_)); clear hK)); refine hK _ _ ?_; clear hK))); ((first | refine qal tyok (fun b2 => ?_) | refine qbox (fun b2 => ?_) | refine qboxV (fun b2 => ?_))); (repeat (first | refine wKB ?_ | refine awp_seq_k (fun K hK => ?_) | refine areg_text mixed tyok (by decide +kernel) ?_ | refine qal tyok (fun bx => ?_) | refine qbox (fun bx => ?_) | refine qboxV (fun bx => ?_) | ((repeat ((fail_if_success (refine hK _ _ ?_)); clear hK)); refine hK _ _ ?_; clear hK))))
    exact fnQ_ret 1 rfl (.cell rfl rfl (List.Mem.head _) rfl trivial .nil) (Sub.refl _) ⟨rfl, rfl⟩
  | cons t l =>
    have hl : (t :: l).length = l.length + 1 := rfl
    ((repeat (first | refine wKB ?_ | refine awp_seq_k (fun K hK => ?_) | refine areg_text mixed tyok (by decide +kernel) ?_ | ((repeat ((fail_if_success (refine hK _ _ ?_)); clear hK)); refine hK _ _ ?_; clear hK))); ((first | refine qal tyok (fun b2 => ?_) | refine qbox (fun b2 => ?_) | refine qboxV (fun b2 => ?_))); (repeat (first | refine wKB ?_ | refine awp_seq_k (fun K hK => ?_) | refine areg_text mixed tyok (by decide +kernel) ?_ | refine qal tyok (fun bx => ?_) | refine qbox (fun bx => ?_) | refine qboxV (fun bx => ?_) | ((repeat ((fail_if_success (refine hK _ _ ?_)); clear hK)); refine hK _ _ ?_; clear hK))))
    exact fnQ_ret 1 rfl (.cell rfl rfl (List.Mem.head _) rfl trivial .nil) (Sub.refl _) ⟨rfl, rfl⟩

theorem cbTake : Callable Tryz.prog 123 := fun _ _ => by kernel_rfl
set_option maxHeartbeats 1600000 in
theorem take_ok (b : Nat) (t : TokR) (l : List TokR) (e : Nat × Nat) : ACalls Tryz.prog 123 [.ptr b 0, .int .u8 t.k, .str []] [rdB b (t :: l) e]
    (fun r H' => r = .ret (.agg (tokE t)) ∧ H' = [rdB b l e]) := by
  refine acalls_of_awp tyok cbTake Tryz.func123 rfl rfl ?_
  unfold rdB
  have hl : (t :: l).length = l.length + 1 := rfl
  ((repeat (first | refine wKB ?_ | refine awp_seq_k (fun K hK => ?_) | refine areg_text mixed tyok (by decide +kernel) ?_ | ((repeat ((fail_if_success (refine hK _ _ ?_)); clear hK)); refine hK _ _ ?_; clear hK))); ((first | refine qal tyok (fun b6 => ?_) | refine qbox (fun b6 => ?_) | refine qboxV (fun b6 => ?_))); (repeat (first | refine wKB ?_ | refine awp_seq_k (fun K hK => ?_) | refine areg_text mixed tyok (by decide +kernel) ?_ | refine qal tyok (fun bx => ?_) | refine qbox (fun bx => ?_) | refine qboxV (fun bx => ?_) | ((repeat ((fail_if_success (refine hK _ _ ?_)); clear hK)); refine hK _ _ ?_; clear hK))))
  refine awp_cond rfl (fun h => absurd h (by simp)) (fun _ => ?_)
  ((repeat (first | refine wKB ?_ | refine awp_seq_k (fun K hK => ?_) | refine areg_text mixed tyok (by decide +kernel) ?_ | ((repeat ((fail_if_success (refine hK _ _ ?_)); clear hK)); refine hK _ _ ?_; clear hK))); ((first | refine qal tyok (fun b7 => ?_) | refine qbox (fun b7 => ?_) | refine qboxV (fun b7 => ?_))); (repeat (first | refine wKB ?_ | refine awp_seq_k (fun K hK => ?_) | refine areg_text mixed tyok (by decide +kernel) ?_ | refine qal tyok (fun bx => ?_) | refine qbox (fun bx => ?_) | refine qboxV (fun bx => ?_) | ((repeat ((fail_if_success (refine hK _ _ ?_)); clear hK)); refine hK _ _ ?_; clear hK))))
  refine fnQ_ret 2 rfl (.cell rfl rfl (List.Mem.tail _ (List.Mem.head _)) rfl trivial .nil) (Sub.refl _) ⟨rfl, ?_⟩
  exact congrArg (fun v => [Ent.box b 191 (.agg [v, .int .i64 e.1, .int .i64 e.2])]) (sl_tail_eq tokE 5 t l .view)

set_option maxHeartbeats 1600000 in
theorem take_no (b : Nat) (k : Int) (l : List TokR) (e : Nat × Nat) (h : ∀ t l', l = t :: l' → t.k ≠ k) : ACalls Tryz.prog 123 [.ptr b 0, .int .u8 k, .str []] [rdB b l e]
    (fun r _ => r = .panic (misV (atP e l))) := by
  refine acalls_of_awp tyok cbTake Tryz.func123 rfl rfl ?_
  have g := at_c b l e
  cases l with
  | nil =>
    ((repeat (first | refine wKB ?_ | refine awp_seq_k (fun K hK => ?_) | refine areg_text mixed tyok (by decide +kernel) ?_ | ((repeat ((fail_if_success (refine hK _ _ ?_)); clear hK)); refine hK _ _ ?_; clear hK))); ((first | refine qal tyok (fun b6 => ?_) | refine qbox (fun b6 => ?_) | refine qboxV (fun b6 => ?_))); (repeat (first | refine wKB ?_ | refine awp_seq_k (fun K hK => ?_) | refine areg_text mixed tyok (by decide +kernel) ?_ | refine qal tyok (fun bx => ?_) | refine qbox (fun bx => ?_) | refine qboxV (fun bx => ?_) | ((repeat ((fail_if_success (refine hK _ _ ?_)); clear hK)); refine hK _ _ ?_; clear hK))))
    refine TR.hcall rfl rfl rfl True.intro rfl rfl (List.Perm.swap _ _ _) g (fun v H' hK => ?_) (fun v H' hK => ?_)
    · obtain ⟨e1, rfl⟩ := hK
      cases e1
      repeat (first | refine wK ?_ | refine awp_seq_k (fun K hK => ?_) | refine areg_text mixed tyok (by decide +kernel) ?_ | refine qal tyok (fun bx => ?_) | refine qbox (fun bx => ?_) | refine qboxV (fun bx => ?_) | ((repeat ((fail_if_success (refine hK _ _ ?_)); clear hK)); refine hK _ _ ?_; clear hK))
      refine TR.panic rfl rfl rfl True.intro rfl ?_
      repeat (first | refine wK ?_ | refine awp_seq_k (fun K hK => ?_) | refine areg_text mixed tyok (by decide +kernel) ?_ | refine qal tyok (fun bx => ?_) | refine qbox (fun bx => ?_) | refine qboxV (fun bx => ?_) | ((repeat ((fail_if_success (refine hK _ _ ?_)); clear hK)); refine hK _ _ ?_; clear hK))
      exact ⟨0, rfl⟩
    · obtain ⟨e1, rfl⟩ := hK
      cases e1
  | cons t l =>
    have hl : (t :: l).length = l.length + 1 := rfl
    have hk := h t l rfl
    ((repeat (first | refine wKB ?_ | refine awp_seq_k (fun K hK => ?_) | refine areg_text mixed tyok (by decide +kernel) ?_ | ((repeat ((fail_if_success (refine hK _ _ ?_)); clear hK)); refine hK _ _ ?_; clear hK))); ((first | refine qal tyok (fun b6 => ?_) | refine qbox (fun b6 => ?_) | refine qboxV (fun b6 => ?_))); (repeat (first | refine wKB ?_ | refine awp_seq_k (fun K hK => ?_) | refine areg_text mixed tyok (by decide +kernel) ?_ | refine qal tyok (fun bx => ?_) | refine qbox (fun bx => ?_) | refine qboxV (fun bx => ?_) | ((repeat ((fail_if_success (refine hK _ _ ?_)); clear hK)); refine hK _ _ ?_; clear hK))))
    refine awp_cond rfl (fun _ => ?_) (fun h => absurd h (by simp [hk]))
    repeat (first | refine wKB ?_ | refine awp_seq_k (fun K hK => ?_) | refine areg_text mixed tyok (by decide +kernel) ?_ | refine qal tyok (fun bx => ?_) | refine qbox (fun bx => ?_) | refine qboxV (fun bx => ?_) | ((repeat ((fail_if_success (refine hK _ _ ?_)); clear hK)); refine hK _ _ ?_; clear hK))
    refine TR.hcall rfl rfl rfl True.intro rfl rfl (List.Perm.swap _ _ _) g (fun v H' hK => ?_) (fun v H' hK => ?_)
    · obtain ⟨e1, rfl⟩ := hK
      cases e1
      repeat (first | refine wK ?_ | refine awp_seq_k (fun K hK => ?_) | refine areg_text mixed tyok (by decide +kernel) ?_ | refine qal tyok (fun bx => ?_) | refine qbox (fun bx => ?_) | refine qboxV (fun bx => ?_) | ((repeat ((fail_if_success (refine hK _ _ ?_)); clear hK)); refine hK _ _ ?_; clear hK))
      refine TR.panic rfl rfl rfl True.intro rfl ?_
      repeat (first | refine wK ?_ | refine awp_seq_k (fun K hK => ?_) | refine areg_text mixed tyok (by decide +kernel) ?_ | refine qal tyok (fun bx => ?_) | refine qbox (fun bx => ?_) | refine qboxV (fun bx => ?_) | ((repeat ((fail_if_success (refine hK _ _ ?_)); clear hK)); refine hK _ _ ?_; clear hK))
      exact ⟨0, rfl⟩
    · obtain ⟨e1, rfl⟩ := hK
      cases e1

/-- The kinds that are let in. -/
def kinE (k : Int) : List AV := [.int .u8 k]
def kinsV (ks : List Int) : AV := sl kinE 1 ks .view

def anyK (ks : List Int) (j : Nat) (k : Int) : Bool := (ks.take j).any fun x => k == x

theorem anyK_succ (ks : List Int) (j : Nat) (k : Int) (h : j < ks.length) : anyK ks (j + 1) k = (anyK ks j k || k == ks.getD j default) := by
  unfold anyK
  rw [List.take_add_one, List.any_append, List.getElem?_eq_getElem h]
  simp [List.getD, List.getElem?_eq_getElem h]

theorem anyK_all (ks : List Int) (k : Int) : anyK ks ks.length k = ks.contains k := by
  unfold anyK
  rw [List.take_length, List.contains_eq_any_beq]

theorem cbRest : Callable Tryz.prog 124 := fun _ _ => by kernel_rfl
set_option maxHeartbeats 3200000 in
set_option maxRecDepth 100000 in
theorem rest_c (b : Nat) (l : List TokR) (e : Nat × Nat) (ks : List Int) (hks : ks.length ≤ 100) (hlen : l.length ≤ 1000000) : ACalls Tryz.prog 124 [.ptr b 0, kinsV ks] [rdB b l e]
    (fun r H' => match oddT ks l with
      | some t => r = .panic (misV (t.ln, t.co))
      | none => r = .ret (toksV l) ∧ H' = [rdB b [] e]) := by
  refine acalls_of_awp tyok cbRest Tryz.func124 rfl rfl ?_
  unfold rdB kinsV
  repeat (first | refine wK ?_ | refine awp_seq_k (fun K hK => ?_) | refine areg_text mixed tyok (by decide +kernel) ?_ | refine qal tyok (fun bx => ?_) | refine qbox (fun bx => ?_) | refine qboxV (fun bx => ?_) | ((repeat ((fail_if_success (refine hK _ _ ?_)); clear hK)); refine hK _ _ ?_; clear hK))
  refine awp_tok0 5 44 ?_
  refine awp_loop0 (ι := { x : List TokR × List TokR × Option Addr × Nat // x.1 ++ x.2.1 = l ∧ oddT ks l = oddT ks x.2.1 }) (fun i => [(0, .ptr b 0), (1, sl kinE 1 ks .view), (4, sl tokE 5 i.1.1 (.own i.1.2.2.1 i.1.2.2.2))])
    (fun i => [.tok i.1.2.2.1 i.1.2.2.2 i.1.1.length 5 44, .box b 191 (rdV i.1.2.1 e)]) (fun i => i.1.2.1.length) ⟨([], l, none, 0), rfl, rfl⟩ (by (repeat (first | exact True.intro | refine ⟨⟨_, rfl, Sub.refl _⟩, ?_⟩ | refine ⟨⟨_, rfl, Sub.nilso _ _⟩, ?_⟩ | refine ⟨⟨_, rfl, sl_tail _ _ _ _ _⟩, ?_⟩ | refine ⟨⟨_, rfl, Sub.of_eq (by first | rfl | (congr 1; first | omega | (simp only; omega)) | (simp; done) | (simp; omega))⟩, ?_⟩ | refine ⟨⟨_, rfl, Sub.view _ _ _ _⟩, ?_⟩))) ⟨0, rfl⟩ ?_
  rintro ⟨⟨ts, l2, a, cap⟩, hl, hodd⟩
  simp only at hl hodd
  have hll : ts.length + l2.length = l.length := by rw [← hl, List.length_append]
  cases l2 with
  | nil =>
    repeat (first | refine wKB ?_ | refine awp_seq_k (fun K hK => ?_) | refine areg_text mixed tyok (by decide +kernel) ?_ | refine qal tyok (fun bx => ?_) | refine qbox (fun bx => ?_) | refine qboxV (fun bx => ?_) | ((repeat ((fail_if_success (refine hK _ _ ?_)); clear hK)); refine hK _ _ ?_; clear hK))
    have ht : ts = l := by rw [← hl, List.append_nil]
    subst ht
    refine fnQ_ret 1 rfl (.tmp rfl .nil) (Sub.view _ _ _ _) ?_
    have hn : oddT ks ts = none := hodd
    simp only [hn]
    exact ⟨rfl, rfl⟩
  | cons t l2 =>
    have hl3 : (t :: l2).length = l2.length + 1 := rfl
    repeat (first | refine wKB ?_ | refine awp_seq_k (fun K hK => ?_) | refine areg_text mixed tyok (by decide +kernel) ?_ | refine qal tyok (fun bx => ?_) | refine qbox (fun bx => ?_) | refine qboxV (fun bx => ?_) | ((repeat ((fail_if_success (refine hK _ _ ?_)); clear hK)); refine hK _ _ ?_; clear hK))
    refine awp_loop0 (ι := Fin (ks.length + 1)) (fun j => [(0, .ptr b 0), (1, sl kinE 1 ks .view), (4, sl tokE 5 ts (.own a cap)), (5, .bool (anyK ks j t.k)), (14, sl kinE 1 ks .view), (15, .int .i64 ks.length), (16, .int .i64 j)])
      (fun _ => [.tok a cap ts.length 5 44, .box b 191 (rdV (t :: l2) e)]) (fun j => ks.length - j) ⟨0, by omega⟩ (by (repeat (first | exact True.intro | refine ⟨⟨_, rfl, Sub.refl _⟩, ?_⟩ | refine ⟨⟨_, rfl, Sub.nilso _ _⟩, ?_⟩ | refine ⟨⟨_, rfl, sl_tail _ _ _ _ _⟩, ?_⟩ | refine ⟨⟨_, rfl, Sub.of_eq (by first | rfl | (congr 1; first | omega | (simp only; omega)) | (simp; done) | (simp; omega))⟩, ?_⟩ | refine ⟨⟨_, rfl, Sub.view _ _ _ _⟩, ?_⟩))) ⟨0, rfl⟩ ?_
    rintro ⟨j, hj⟩
    by_cases hjl : j < ks.length
    · repeat (first | refine wKB ?_ | refine awp_seq_k (fun K hK => ?_) | refine areg_text mixed tyok (by decide +kernel) ?_ | refine qal tyok (fun bx => ?_) | refine qbox (fun bx => ?_) | refine qboxV (fun bx => ?_) | ((repeat ((fail_if_success (refine hK _ _ ?_)); clear hK)); refine hK _ _ ?_; clear hK))
      refine ⟨⟨j + 1, by omega⟩, ?_, ⟨0, rfl⟩, by simp only; omega⟩
      have hs := anyK_succ ks j t.k hjl
      refine ⟨⟨_, rfl, Sub.refl _⟩, ⟨_, rfl, Sub.refl _⟩, ⟨_, rfl, Sub.refl _⟩, ⟨_, rfl, Sub.of_eq ?_⟩, ⟨_, rfl, Sub.refl _⟩, ⟨_, rfl, Sub.refl _⟩, ⟨_, rfl, Sub.of_eq (by simp)⟩, trivial⟩
      simp only [hs]
      rfl
    · have hje : j = ks.length := by omega
      subst hje
      rw [anyK_all]
      repeat (first | refine wKB ?_ | refine awp_seq_k (fun K hK => ?_) | refine areg_text mixed tyok (by decide +kernel) ?_ | refine qal tyok (fun bx => ?_) | refine qbox (fun bx => ?_) | refine qboxV (fun bx => ?_) | ((repeat ((fail_if_success (refine hK _ _ ?_)); clear hK)); refine hK _ _ ?_; clear hK))
      refine awp_cond rfl (fun hb => ?_) (fun hb => ?_)
      · have hn : oddT ks l = some t := by
          rw [hodd]
          simp only [oddT]
          rw [if_neg (by simpa using hb)]
        repeat (first | refine wK ?_ | refine awp_seq_k (fun K hK => ?_) | refine areg_text mixed tyok (by decide +kernel) ?_ | refine qal tyok (fun bx => ?_) | refine qbox (fun bx => ?_) | refine qboxV (fun bx => ?_) | ((repeat ((fail_if_success (refine hK _ _ ?_)); clear hK)); refine hK _ _ ?_; clear hK))
        refine TR.hcall rfl rfl rfl True.intro rfl rfl (List.Perm.swap _ _ _) (at_c b (t :: l2) e) (fun v H' hK => ?_) (fun v H' hK => ?_)
        · obtain ⟨e1, rfl⟩ := hK
          cases e1
          repeat (first | refine wK ?_ | refine awp_seq_k (fun K hK => ?_) | refine areg_text mixed tyok (by decide +kernel) ?_ | refine qal tyok (fun bx => ?_) | refine qbox (fun bx => ?_) | refine qboxV (fun bx => ?_) | ((repeat ((fail_if_success (refine hK _ _ ?_)); clear hK)); refine hK _ _ ?_; clear hK))
          refine TR.panic rfl rfl rfl True.intro rfl ?_
          repeat (first | refine wK ?_ | refine awp_seq_k (fun K hK => ?_) | refine areg_text mixed tyok (by decide +kernel) ?_ | refine qal tyok (fun bx => ?_) | refine qbox (fun bx => ?_) | refine qboxV (fun bx => ?_) | ((repeat ((fail_if_success (refine hK _ _ ?_)); clear hK)); refine hK _ _ ?_; clear hK))
          refine ⟨0, ?_⟩
          simp only [hn]
          rfl
        · obtain ⟨e1, rfl⟩ := hK
          cases e1
      · have hn : oddT ks l = oddT ks l2 := by
          rw [hodd]
          simp only [oddT]
          rw [if_pos (by simpa using hb)]
        repeat (first | refine wK ?_ | refine awp_seq_k (fun K hK => ?_) | refine qal tyok (fun bx => ?_) | refine qbox (fun bx => ?_) | refine qboxV (fun bx => ?_) | ((repeat ((fail_if_success (refine hK _ _ ?_)); clear hK)); refine hK _ _ ?_; clear hK))
        refine areg_draw mixed tyok [0, 1, 2, 3, 4, 5, 6, 7, 10, 11, 12, 13, 14, 16, 17, 8, 9, 15, 18] (by kernel_rfl) ?_
        repeat (first | refine wK ?_ | refine awp_seq_k (fun K hK => ?_) | refine areg_text mixed tyok (by decide +kernel) ?_ | refine qal tyok (fun bx => ?_) | refine qbox (fun bx => ?_) | refine qboxV (fun bx => ?_) | ((repeat ((fail_if_success (refine hK _ _ ?_)); clear hK)); refine hK _ _ ?_; clear hK))
        refine qapp tyok tokE ts t (SubL.refl _) ?_ fun ad cp => ?_
        · simp only
          omega
        repeat (first | refine wK ?_ | refine awp_seq_k (fun K hK => ?_) | refine areg_text mixed tyok (by decide +kernel) ?_ | refine qal tyok (fun bx => ?_) | refine qbox (fun bx => ?_) | refine qboxV (fun bx => ?_) | ((repeat ((fail_if_success (refine hK _ _ ?_)); clear hK)); refine hK _ _ ?_; clear hK))
        refine ⟨⟨(ts ++ [t], l2, ad, cp), by simp [← hl], hn⟩, ⟨⟨_, rfl, Sub.refl _⟩, ⟨_, rfl, Sub.refl _⟩, ⟨_, rfl, Sub.refl _⟩, trivial⟩, ⟨0, ?_⟩, by simp⟩
        exact congrArg (fun v => [Ent.tok ad cp (ts ++ [t]).length 5 44, Ent.box b 191 (.agg [v, .int .i64 e.1, .int .i64 e.2])]) (sl_tail_eq tokE 5 t l2 .view)

end Go.Proofs.YtjinaakebjfbiaaGreatDoor
