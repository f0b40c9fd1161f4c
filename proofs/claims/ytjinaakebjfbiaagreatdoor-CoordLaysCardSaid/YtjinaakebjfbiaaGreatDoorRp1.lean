/-
  The document's parser: a word's end, its place, its kind, the first that is odd.
-/
import Derived.Test.YtjinaakebjfbiaaGreatDoorPr3
namespace Go.Proofs.YtjinaakebjfbiaaGreatDoor
open Go.Ab

theorem cbBeh : Callable Tryz.prog 104 := fun _ _ => by kernel_rfl
theorem behind_c (t : TokR) (h : t.co + t.w.length ≤ 1000000000000) : PCalls Tryz.prog 104 [.agg (tokE t)] (placeV t.ln (t.co + t.w.length)) := by
  refine pcalls_of_awp tyok cbBeh Tryz.func104 rfl rfl ?_
  ((repeat (first | refine wKB ?_ | refine awp_seq_k (fun K hK => ?_) | refine areg_text mixed tyok (by decide +kernel) ?_ | ((repeat ((fail_if_success (refine hK _ _ ?_)); clear hK)); refine hK _ _ ?_; clear hK))); ((first | refine qal tyok (fun b1 => ?_) | refine qbox (fun b1 => ?_) | refine qboxV (fun b1 => ?_))); (repeat (first | refine wKB ?_ | refine awp_seq_k (fun K hK => ?_) | refine areg_text mixed tyok (by decide +kernel) ?_ | ((repeat ((fail_if_success (refine hK _ _ ?_)); clear hK)); refine hK _ _ ?_; clear hK))); ((first | refine qal tyok (fun b2 => ?_) | refine qbox (fun b2 => ?_) | refine qboxV (fun b2 => ?_))); (repeat (first | refine wKB ?_ | refine awp_seq_k (fun K hK => ?_) | refine areg_text mixed tyok (by decide +kernel) ?_ | refine qal tyok (fun bx => ?_) | refine qbox (fun bx => ?_) | refine qboxV (fun bx => ?_) | ((repeat ((fail_if_success (refine hK _ _ ?_)); clear hK)); refine hK _ _ ?_; clear hK))))
  exact fnQ_c1 2 0 rfl rfl rfl rfl rfl rfl rfl trivial (Sub.refl _)

def kindF (l : List TokR) (i : Nat) : Int := if i < l.length then (l.getD i default).k else 0

theorem cbKin : Callable Tryz.prog 105 := fun _ _ => by kernel_rfl
theorem kind_c (l : List TokR) (i : Nat) : PCalls Tryz.prog 105 [toksV l, .int .i64 i] (.int .u8 (kindF l i)) := by
  refine pcalls_of_awp tyok cbKin Tryz.func105 rfl rfl ?_
  unfold kindF
  by_cases h : i < l.length
  · rw [if_pos h]
    repeat (first | refine wKB ?_ | refine awp_seq_k (fun K hK => ?_) | refine areg_text mixed tyok (by decide +kernel) ?_ | refine qal tyok (fun bx => ?_) | refine qbox (fun bx => ?_) | refine qboxV (fun bx => ?_) | ((repeat ((fail_if_success (refine hK _ _ ?_)); clear hK)); refine hK _ _ ?_; clear hK))
    refine r1 ?_
    exact Sub.refl _
  · rw [if_neg h]
    repeat (first | refine wKB ?_ | refine awp_seq_k (fun K hK => ?_) | refine areg_text mixed tyok (by decide +kernel) ?_ | refine qal tyok (fun bx => ?_) | refine qbox (fun bx => ?_) | refine qboxV (fun bx => ?_) | ((repeat ((fail_if_success (refine hK _ _ ?_)); clear hK)); refine hK _ _ ?_; clear hK))
    refine r1 ?_
    exact Sub.refl _

def placeI (l : List TokR) (i : Nat) : Nat × Nat := if i < l.length then ((l.getD i default).ln, (l.getD i default).co) else endOf l

theorem cbPla : Callable Tryz.prog 76 := fun _ _ => by kernel_rfl
set_option maxHeartbeats 1600000 in
theorem place_c (l : List TokR) (i : Nat) (hne : l ≠ []) (hb : ∀ t ∈ l, t.co + t.w.length ≤ 1000000000000) (hlen : l.length ≤ 1000000000000) : PCalls Tryz.prog 76 [toksV l, .int .i64 i] (placeV (placeI l i).1 (placeI l i).2) := by
  refine pcalls_of_awp tyok cbPla Tryz.func76 rfl rfl ?_
  unfold placeI
  by_cases h : i < l.length
  · rw [if_pos h]
    ((repeat (first | refine wKB ?_ | refine awp_seq_k (fun K hK => ?_) | refine areg_text mixed tyok (by decide +kernel) ?_ | ((repeat ((fail_if_success (refine hK _ _ ?_)); clear hK)); refine hK _ _ ?_; clear hK))); ((first | refine qal tyok (fun b4 => ?_) | refine qbox (fun b4 => ?_) | refine qboxV (fun b4 => ?_))); (repeat (first | refine wKB ?_ | refine awp_seq_k (fun K hK => ?_) | refine areg_text mixed tyok (by decide +kernel) ?_ | refine qal tyok (fun bx => ?_) | refine qbox (fun bx => ?_) | refine qboxV (fun bx => ?_) | ((repeat ((fail_if_success (refine hK _ _ ?_)); clear hK)); refine hK _ _ ?_; clear hK))))
    exact fnQ_c1 1 0 rfl rfl rfl rfl rfl rfl rfl trivial (Sub.refl _)
  · rw [if_neg h]
    obtain ⟨t0, r0, rfl⟩ := List.exists_cons_of_ne_nil hne
    have hl0 : (t0 :: r0).length = r0.length + 1 := rfl
    have hlast : (((t0 :: r0).length : Int) - 1).toNat = r0.length := by omega
    have hX : (t0 :: r0).getD (((t0 :: r0).length : Int) - 1).toNat default = (t0 :: r0).getLastD tok0 := by rw [hlast, getLastD_getD]
    have g := behind_c ((t0 :: r0).getLastD tok0) (hb _ (getLastD_mem hne))
    rw [← hX] at g
    ((repeat (first | refine wKB ?_ | refine awp_seq_k (fun K hK => ?_) | refine areg_text mixed tyok (by decide +kernel) ?_ | refine TR.pcall rfl rfl rfl rfl True.intro rfl rfl (g) ?_ | refine pco rfl rfl rfl rfl rfl rfl rfl rfl (fun _ => g) ?_ | ((repeat ((fail_if_success (refine hK _ _ ?_)); clear hK)); refine hK _ _ ?_; clear hK))); ((first | refine qal tyok (fun b4 => ?_) | refine qbox (fun b4 => ?_) | refine qboxV (fun b4 => ?_))); (repeat (first | refine wKB ?_ | refine awp_seq_k (fun K hK => ?_) | refine areg_text mixed tyok (by decide +kernel) ?_ | refine qal tyok (fun bx => ?_) | refine qbox (fun bx => ?_) | refine qboxV (fun bx => ?_) | refine TR.pcall rfl rfl rfl rfl True.intro rfl rfl (g) ?_ | refine pco rfl rfl rfl rfl rfl rfl rfl rfl (fun _ => g) ?_ | ((repeat ((fail_if_success (refine hK _ _ ?_)); clear hK)); refine hK _ _ ?_; clear hK))))
    refine fnQ_c1 1 0 rfl rfl rfl rfl rfl rfl rfl trivial (Sub.of_eq ?_)
    unfold endOf
    rw [← hX]
    rfl

def oddN (a b : Int) : Nat → List TokR → Option Nat
  | _, [] => none
  | n, t :: l => if t.k != a && t.k != b then some n else oddN a b (n + 1) l

def oddV : Option Nat → Int
  | some i => i
  | none => -1

theorem cbOdd : Callable Tryz.prog 106 := fun _ _ => by kernel_rfl
set_option maxHeartbeats 1600000 in
theorem odd_c (l : List TokR) (n : Nat) (a b : Int) (hlen : l.length ≤ 1000000000000) (_hn : n ≤ 1000000000000) : PCalls Tryz.prog 106 [toksV l, .int .i64 n, .int .u8 a, .int .u8 b] (.int .i64 (oddV (oddN a b n (l.drop n)))) := by
  refine pcalls_of_awp tyok cbOdd Tryz.func106 rfl rfl ?_
  repeat (first | refine wK ?_ | refine awp_seq_k (fun K hK => ?_) | refine areg_text mixed tyok (by decide +kernel) ?_ | refine qal tyok (fun bx => ?_) | refine qbox (fun bx => ?_) | refine qboxV (fun bx => ?_) | ((repeat ((fail_if_success (refine hK _ _ ?_)); clear hK)); refine hK _ _ ?_; clear hK))
  refine awp_loop0 (ι := { i : Nat // n ≤ i ∧ (i ≤ l.length ∨ i = n) ∧ oddN a b i (l.drop i) = oddN a b n (l.drop n) }) (fun i => [(9, .int .i64 i.1), (0, toksV l), (2, .int .u8 a), (3, .int .u8 b)]) (fun _ => []) (fun i => l.length - i.1) ⟨n, Nat.le_refl _, .inr rfl, rfl⟩ (by (repeat (first | exact True.intro | refine ⟨⟨_, rfl, Sub.refl _⟩, ?_⟩ | refine ⟨⟨_, rfl, Sub.nilso _ _⟩, ?_⟩ | refine ⟨⟨_, rfl, sl_tail _ _ _ _ _⟩, ?_⟩ | refine ⟨⟨_, rfl, Sub.of_eq (by first | rfl | (congr 1; first | omega | (simp only; omega)) | (simp; done) | (simp; omega))⟩, ?_⟩ | refine ⟨⟨_, rfl, Sub.view _ _ _ _⟩, ?_⟩))) ⟨0, rfl⟩ ?_
  rintro ⟨i, h1, h2, h3⟩
  by_cases h : i < l.length
  · have hd : l.drop i = l.getD i default :: l.drop (i + 1) := by
      rw [List.getD_eq_getElem?_getD, List.getElem?_eq_getElem h]
      exact List.drop_eq_getElem_cons h
    rw [hd, oddN] at h3
    repeat (first | refine wKB ?_ | refine awp_seq_k (fun K hK => ?_) | refine areg_text mixed tyok (by decide +kernel) ?_ | refine qal tyok (fun bx => ?_) | refine qbox (fun bx => ?_) | refine qboxV (fun bx => ?_) | ((repeat ((fail_if_success (refine hK _ _ ?_)); clear hK)); refine hK _ _ ?_; clear hK))
    refine awp_cond rfl (fun hb => ?_) (fun hb => ?_)
    · have hb' : ((l.getD i default).k != a && (l.getD i default).k != b) = true := hb
      rw [if_pos hb'] at h3
      repeat (first | refine wK ?_ | refine awp_seq_k (fun K hK => ?_) | refine areg_text mixed tyok (by decide +kernel) ?_ | refine qal tyok (fun bx => ?_) | refine qbox (fun bx => ?_) | refine qboxV (fun bx => ?_) | ((repeat ((fail_if_success (refine hK _ _ ?_)); clear hK)); refine hK _ _ ?_; clear hK))
      refine r1 ?_
      exact Sub.of_eq (congrArg (fun x => AV.int .i64 (oddV x)) h3)
    · have hb' : ((l.getD i default).k != a && (l.getD i default).k != b) = false := hb
      rw [if_neg (by rw [hb']; simp)] at h3
      repeat (first | refine wKB ?_ | refine awp_seq_k (fun K hK => ?_) | refine areg_text mixed tyok (by decide +kernel) ?_ | refine qal tyok (fun bx => ?_) | refine qbox (fun bx => ?_) | refine qboxV (fun bx => ?_) | ((repeat ((fail_if_success (refine hK _ _ ?_)); clear hK)); refine hK _ _ ?_; clear hK))
      refine ⟨⟨i + 1, by omega, .inl (by omega), h3⟩, ⟨⟨_, rfl, Sub.of_eq (by simp)⟩, ⟨_, rfl, Sub.refl _⟩, ⟨_, rfl, Sub.refl _⟩, ⟨_, rfl, Sub.refl _⟩, trivial⟩, ⟨0, rfl⟩, by simp only; omega⟩
  · repeat (first | refine wKB ?_ | refine awp_seq_k (fun K hK => ?_) | refine areg_text mixed tyok (by decide +kernel) ?_ | refine qal tyok (fun bx => ?_) | refine qbox (fun bx => ?_) | refine qboxV (fun bx => ?_) | ((repeat ((fail_if_success (refine hK _ _ ?_)); clear hK)); refine hK _ _ ?_; clear hK))
    refine r1 ?_
    have hd : l.drop i = [] := List.drop_eq_nil_iff.2 (by omega)
    rw [hd, oddN] at h3
    exact Sub.of_eq (by rw [← h3]; rfl)

end Go.Proofs.YtjinaakebjfbiaaGreatDoor
