/-
  The looker: what was met first, the points.
-/
import Derived.Test.YtjinaakebjfbiaaGreatDoorShL
import Derived.Test.YtjinaakebjfbiaaGreatDoorAb24
import Derived.Test.YtjinaakebjfbiaaGreatDoorFg8
namespace Go.Proofs.YtjinaakebjfbiaaGreatDoor
open Go.Ab

def lkV (m : Nat) (a : Option Addr) (cap : Nat) (s : LkR) : AV := .agg [.int .i64 s.ln, .int .i64 s.co, .int .i64 s.e, .mapv (some m), sl txtE 1 s.ns (.own a cap)]
def lkH (b m : Nat) (a : Option Addr) (cap : Nat) (s : LkR) : AHeap := [.box b 119 (lkV m a cap s), .obj m (keyObj s.ns), .tok a cap s.ns.length 1 9]

theorem lkH_meet (b m : Nat) (a : Option Addr) (cap : Nat) (s : LkR) (is : Bool) (e l c : Int) : lkH b m a cap (s.meet is e l c) = [.box b 119 (lkV m a cap (s.meet is e l c)), .obj m (keyObj s.ns), .tok a cap s.ns.length 1 9] := by
  unfold lkH
  rw [meet_ns]

theorem cbMeet : Callable Tryz.prog 98 := fun _ _ => by kernel_rfl
set_option maxHeartbeats 1600000 in
set_option maxRecDepth 100000 in
theorem meet_c (b m : Nat) (a : Option Addr) (cap : Nat) (s : LkR) (is : Bool) (e l c : Int) :
    ACalls Tryz.prog 98 [.ptr b 0, .bool is, .int .i64 e, placeV l c] (lkH b m a cap s) (fun r H' => r = .ret (.tuple []) ∧ H' = lkH b m a cap (s.meet is e l c)) := by
  refine acalls_of_awp tyok cbMeet Tryz.func98 rfl rfl ?_
  rw [lkH_meet]
  unfold lkH lkV
  cases is with
  | false =>
    ((repeat (first | refine wKB ?_ | refine awp_seq_k (fun K hK => ?_) | refine areg_text mixed tyok (by decide +kernel) ?_ | ((repeat ((fail_if_success (refine hK _ _ ?_)); clear hK)); refine hK _ _ ?_; clear hK))); ((first | refine qal tyok (fun b7 => ?_) | refine qbox (fun b7 => ?_) | refine qboxV (fun b7 => ?_))); (repeat (first | refine wKB ?_ | refine awp_seq_k (fun K hK => ?_) | refine areg_text mixed tyok (by decide +kernel) ?_ | refine qal tyok (fun bx => ?_) | refine qbox (fun bx => ?_) | refine qboxV (fun bx => ?_) | ((repeat ((fail_if_success (refine hK _ _ ?_)); clear hK)); refine hK _ _ ?_; clear hK))))
    exact fnQ_ret 1 rfl .nil (Sub.refl _) ⟨rfl, rfl⟩
  | true =>
    by_cases h : s.e = 0
    · rw [meet_true h]
      ((repeat (first | refine wKB ?_ | refine awp_seq_k (fun K hK => ?_) | ((repeat ((fail_if_success (refine hK _ _ ?_)); clear hK)); refine hK _ _ ?_; clear hK))); ((first | refine qal tyok (fun b7 => ?_) | refine qbox (fun b7 => ?_) | refine qboxV (fun b7 => ?_))); (repeat (first | refine wKB ?_ | refine awp_seq_k (fun K hK => ?_) | refine qal tyok (fun bx => ?_) | refine qbox (fun bx => ?_) | refine qboxV (fun bx => ?_) | ((repeat ((fail_if_success (refine hK _ _ ?_)); clear hK)); refine hK _ _ ?_; clear hK))))
      refine areg_kept mixed tyok [(6, [119])] [0, 1, 2, 3, 4, 5, 6, 7, 8, 9] (by decide +kernel) ?_
      repeat (first | refine wKB ?_ | refine awp_seq_k (fun K hK => ?_) | refine areg_text mixed tyok (by decide +kernel) ?_ | refine qal tyok (fun bx => ?_) | refine qbox (fun bx => ?_) | refine qboxV (fun bx => ?_) | ((repeat ((fail_if_success (refine hK _ _ ?_)); clear hK)); refine hK _ _ ?_; clear hK))
      exact fnQ_ret 1 rfl .nil (Sub.refl _) ⟨rfl, rfl⟩
    · rw [meet_dead h]
      ((repeat (first | refine wKB ?_ | refine awp_seq_k (fun K hK => ?_) | refine areg_text mixed tyok (by decide +kernel) ?_ | ((repeat ((fail_if_success (refine hK _ _ ?_)); clear hK)); refine hK _ _ ?_; clear hK))); ((first | refine qal tyok (fun b7 => ?_) | refine qbox (fun b7 => ?_) | refine qboxV (fun b7 => ?_))); (repeat (first | refine wKB ?_ | refine awp_seq_k (fun K hK => ?_) | refine areg_text mixed tyok (by decide +kernel) ?_ | refine qal tyok (fun bx => ?_) | refine qbox (fun bx => ?_) | refine qboxV (fun bx => ?_) | ((repeat ((fail_if_success (refine hK _ _ ?_)); clear hK)); refine hK _ _ ?_; clear hK))))
      exact fnQ_ret 1 rfl .nil (Sub.refl _) ⟨rfl, rfl⟩

theorem cbLkHas : Callable Tryz.prog 159 := fun _ _ => by kernel_rfl
set_option maxHeartbeats 1600000 in
set_option maxRecDepth 100000 in
theorem lkhas_c (b m : Nat) (a : Option Addr) (cap : Nat) (s : LkR) (w : List UInt8) :
    ACalls Tryz.prog 159 [.ptr b 0, .str w] (lkH b m a cap s) (fun r H' => r = .ret (.bool (s.ns.contains w)) ∧ H' = lkH b m a cap s) := by
  refine acalls_of_awp tyok cbLkHas Tryz.func159 rfl rfl ?_
  unfold lkH lkV
  repeat (first | refine wK ?_ | refine awp_seq_k (fun K hK => ?_) | refine areg_text mixed tyok (by decide +kernel) ?_ | refine qal tyok (fun bx => ?_) | refine qbox (fun bx => ?_) | refine qboxV (fun bx => ?_) | ((repeat ((fail_if_success (refine hK _ _ ?_)); clear hK)); refine hK _ _ ?_; clear hK))
  refine qlkp tyok ?_
  ((repeat (first | refine wK ?_ | refine awp_seq_k (fun K hK => ?_) | refine areg_text mixed tyok (by decide +kernel) ?_ | ((repeat ((fail_if_success (refine hK _ _ ?_)); clear hK)); refine hK _ _ ?_; clear hK))); ((first | refine qal tyok (fun b5 => ?_) | refine qbox (fun b5 => ?_) | refine qboxV (fun b5 => ?_))); (repeat (first | refine wK ?_ | refine awp_seq_k (fun K hK => ?_) | refine areg_text mixed tyok (by decide +kernel) ?_ | refine qal tyok (fun bx => ?_) | refine qbox (fun bx => ?_) | refine qboxV (fun bx => ?_) | ((repeat ((fail_if_success (refine hK _ _ ?_)); clear hK)); refine hK _ _ ?_; clear hK))))
  exact fnQ_ret 1 rfl (.tmp rfl .nil) (Sub.refl _) ⟨rfl, rfl⟩

theorem cbFresh : Callable Tryz.prog 126 := fun _ _ => by kernel_rfl
set_option maxHeartbeats 1600000 in
set_option maxRecDepth 100000 in
theorem fresh_c (b m : Nat) (a : Option Addr) (cap : Nat) (s : LkR) (t : TokI) :
    ACalls Tryz.prog 126 [.ptr b 0, .agg (tokEI t)] (lkH b m a cap s) (fun r H' => r = .ret (.tuple []) ∧ H' = lkH b m a cap (s.fresh t)) := by
  refine acalls_of_awp tyok cbFresh Tryz.func126 rfl rfl ?_
  ((repeat (first | refine wK ?_ | refine awp_seq_k (fun K hK => ?_) | ((repeat ((fail_if_success (refine hK _ _ ?_)); clear hK)); refine hK _ _ ?_; clear hK))); ((first | refine qal tyok (fun b3 => ?_) | refine qbox (fun b3 => ?_) | refine qboxV (fun b3 => ?_))); (repeat (first | refine wK ?_ | refine awp_seq_k (fun K hK => ?_) | refine qal tyok (fun bx => ?_) | refine qbox (fun bx => ?_) | refine qboxV (fun bx => ?_) | ((repeat ((fail_if_success (refine hK _ _ ?_)); clear hK)); refine hK _ _ ?_; clear hK))))
  refine areg_kept mixed tyok [(6, [])] [0, 1, 2, 3, 4, 5, 7, 8, 6, 9] (by decide +kernel) ?_
  repeat (first | refine wK ?_ | refine awp_seq_k (fun K hK => ?_) | refine areg_text mixed tyok (by decide +kernel) ?_ | refine qal tyok (fun bx => ?_) | refine qbox (fun bx => ?_) | refine qboxV (fun bx => ?_) | ((repeat ((fail_if_success (refine hK _ _ ?_)); clear hK)); refine hK _ _ ?_; clear hK))
  refine qcallH (G := [_]) (lkhas_c b m a cap s t.w) ?_
  repeat (first | refine wK ?_ | refine awp_seq_k (fun K hK => ?_) | refine areg_text mixed tyok (by decide +kernel) ?_ | refine qal tyok (fun bx => ?_) | refine qbox (fun bx => ?_) | refine qboxV (fun bx => ?_) | ((repeat ((fail_if_success (refine hK _ _ ?_)); clear hK)); refine hK _ _ ?_; clear hK))
  refine qcallH (G := [_]) (meet_c b m a cap s _ 6 t.ln t.co) ?_
  repeat (first | refine wK ?_ | refine awp_seq_k (fun K hK => ?_) | refine areg_text mixed tyok (by decide +kernel) ?_ | refine qal tyok (fun bx => ?_) | refine qbox (fun bx => ?_) | refine qboxV (fun bx => ?_) | ((repeat ((fail_if_success (refine hK _ _ ?_)); clear hK)); refine hK _ _ ?_; clear hK))
  refine qcallH (G := [_]) (meet_c b m a cap (s.meet (s.ns.contains t.w) 6 t.ln t.co) _ 13 t.ln t.co) ?_
  repeat (first | refine wK ?_ | refine awp_seq_k (fun K hK => ?_) | refine areg_text mixed tyok (by decide +kernel) ?_ | refine qal tyok (fun bx => ?_) | refine qbox (fun bx => ?_) | refine qboxV (fun bx => ?_) | ((repeat ((fail_if_success (refine hK _ _ ?_)); clear hK)); refine hK _ _ ?_; clear hK))
  refine fnQ_ret 1 rfl .nil (Sub.refl _) ⟨rfl, ?_⟩
  unfold LkR.fresh
  rw [meet_ns]
  rfl

theorem cbLkAdd : Callable Tryz.prog 127 := fun _ _ => by kernel_rfl
set_option maxHeartbeats 1600000 in
set_option maxRecDepth 100000 in
theorem add_c (b m : Nat) (a : Option Addr) (cap : Nat) (s : LkR) (t : TokI) (hno : s.e = 0 → s.ns.contains t.w = false) (hl : s.ns.length ≤ 40) :
    ACalls Tryz.prog 127 [.ptr b 0, .agg (tokEI t)] (lkH b m a cap s) (fun r H' => r = .ret (.tuple []) ∧ ∃ q : Option Addr × Nat, H' = lkH b m q.1 q.2 (s.add t)) := by
  refine acalls_of_awp tyok cbLkAdd Tryz.func127 rfl rfl ?_
  by_cases h : s.e = 0
  · rw [add_live h]
    unfold lkH lkV
    ((repeat (first | refine wKB ?_ | refine awp_seq_k (fun K hK => ?_) | refine areg_text mixed tyok (by decide +kernel) ?_ | ((repeat ((fail_if_success (refine hK _ _ ?_)); clear hK)); refine hK _ _ ?_; clear hK))); ((first | refine qal tyok (fun b3 => ?_) | refine qbox (fun b3 => ?_) | refine qboxV (fun b3 => ?_))); (repeat (first | refine wKB ?_ | refine awp_seq_k (fun K hK => ?_) | refine areg_text mixed tyok (by decide +kernel) ?_ | refine qal tyok (fun bx => ?_) | refine qbox (fun bx => ?_) | refine qboxV (fun bx => ?_) | ((repeat ((fail_if_success (refine hK _ _ ?_)); clear hK)); refine hK _ _ ?_; clear hK))))
    refine qupd tyok (hno h) ?_
    repeat (first | refine wK ?_ | refine awp_seq_k (fun K hK => ?_) | refine qal tyok (fun bx => ?_) | refine qbox (fun bx => ?_) | refine qboxV (fun bx => ?_) | ((repeat ((fail_if_success (refine hK _ _ ?_)); clear hK)); refine hK _ _ ?_; clear hK))
    refine areg_kept mixed tyok [(7, []), (8, [])] [0, 1, 2, 3, 4, 5, 6, 7, 8, 9, 10, 11] (by decide +kernel) ?_
    repeat (first | refine wK ?_ | refine awp_seq_k (fun K hK => ?_) | refine areg_text mixed tyok (by decide +kernel) ?_ | refine qal tyok (fun bx => ?_) | refine qbox (fun bx => ?_) | refine qboxV (fun bx => ?_) | ((repeat ((fail_if_success (refine hK _ _ ?_)); clear hK)); refine hK _ _ ?_; clear hK))
    refine qapp tyok txtE s.ns t.w (SubL.refl _) ?_ fun ad cp => ?_
    · simp only
      omega
    repeat (first | refine wK ?_ | refine awp_seq_k (fun K hK => ?_) | refine areg_text mixed tyok (by decide +kernel) ?_ | refine qal tyok (fun bx => ?_) | refine qbox (fun bx => ?_) | refine qboxV (fun bx => ?_) | ((repeat ((fail_if_success (refine hK _ _ ?_)); clear hK)); refine hK _ _ ?_; clear hK))
    exact fnQ_ret 1 rfl .nil (Sub.refl _) ⟨rfl, (ad, cp), rfl⟩
  · rw [add_dead h]
    unfold lkH lkV
    ((repeat (first | refine wKB ?_ | refine awp_seq_k (fun K hK => ?_) | refine areg_text mixed tyok (by decide +kernel) ?_ | ((repeat ((fail_if_success (refine hK _ _ ?_)); clear hK)); refine hK _ _ ?_; clear hK))); ((first | refine qal tyok (fun b3 => ?_) | refine qbox (fun b3 => ?_) | refine qboxV (fun b3 => ?_))); (repeat (first | refine wKB ?_ | refine awp_seq_k (fun K hK => ?_) | refine areg_text mixed tyok (by decide +kernel) ?_ | refine qal tyok (fun bx => ?_) | refine qbox (fun bx => ?_) | refine qboxV (fun bx => ?_) | ((repeat ((fail_if_success (refine hK _ _ ?_)); clear hK)); refine hK _ _ ?_; clear hK))))
    exact fnQ_ret 1 rfl .nil (Sub.refl _) ⟨rfl, (a, cap), rfl⟩

end Go.Proofs.YtjinaakebjfbiaaGreatDoor
