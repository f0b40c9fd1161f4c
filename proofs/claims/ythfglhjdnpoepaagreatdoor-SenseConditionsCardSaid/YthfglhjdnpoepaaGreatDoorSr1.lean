/-
  The document's answer for layer 24 (porismref24): spots, ways, cross and dot.
-/
import Derived.Test.YthfglhjdnpoepaaGreatDoorNzM
import Derived.Test.YthfglhjdnpoepaaGreatDoorSeM
namespace Go.Proofs.YthfglhjdnpoepaaGreatDoor
open Go.Ab

/-- Where a point is, as the document has it. -/
structure SQ where
  x : QR
  y : QR
deriving Inhabited
structure SQOk (k : Nat) (s : SQ) : Prop where
  x : QROk k s.x
  y : QROk k s.y
def sqE (s : SQ) : List AV := qE s.x ++ qE s.y
abbrev spotsQ (l : List SQ) : AV := sl sqE 8 l .view
def SQ.p (s : SQ) : Rat × Rat := (s.x.q, s.y.q)
theorem SQOk.p {k : Nat} {s : SQ} (h : SQOk k s) : POk k s.p := ⟨h.x.q, h.y.q⟩
def ofSpot (s : SpotR) : SQ := ⟨ofQ s.x, ofQ s.y⟩
def ratQ (l : List Rat) : AV := sl (fun q => qE (qrC q)) 4 l .view

theorem cbR24Same : Callable Tryz.prog 17 := fun _ _ => by kernel_rfl
set_option maxHeartbeats 3200000 in
set_option maxRecDepth 100000 in
/-- The same values, as data? (of values that are told shortened) -/
theorem r24Same_c (k : Nat) (a b : List Rat) (hk : k ≤ 1000000) (_ : a.length ≤ 1000000) (hb : b.length ≤ 1000000) (h1 : ∀ q ∈ a, QOk k q) (h2 : ∀ q ∈ b, QOk k q) : PCalls Tryz.prog 17 [ratL a, ratQ b] (.bool (decide (a = b))) := by
  refine pcalls_of_awp tyok cbR24Same Tryz.func17 rfl rfl ?_
  unfold ratL ratQ
  by_cases hl : a.length = b.length
  rotate_left
  · have hl' : ¬ (a.length : Int) = b.length := by omega
    have hr : decide (a = b) = false := decide_eq_false fun e => hl (by rw [e])
    repeat (first | refine wKB ?_ | refine awp_seq_k (fun K hK => ?_) | refine areg_text mixed tyok (by decide +kernel) ?_ | refine qal tyok (fun bx => ?_) | refine qbox (fun bx => ?_) | refine qboxV (fun bx => ?_) | ((repeat ((fail_if_success (refine hK _ _ ?_)); clear hK)); refine hK _ _ ?_; clear hK))
    refine r1 ?_
    exact Sub.of_eq (by rw [hr])
  have hl' : (a.length : Int) = b.length := by omega
  repeat (first | refine wKB ?_ | refine awp_seq_k (fun K hK => ?_) | refine areg_text mixed tyok (by decide +kernel) ?_ | refine qal tyok (fun bx => ?_) | refine qbox (fun bx => ?_) | refine qboxV (fun bx => ?_) | ((repeat ((fail_if_success (refine hK _ _ ?_)); clear hK)); refine hK _ _ ?_; clear hK))
  refine awp_loop0 (ι := { i : Nat // i ≤ a.length ∧ a.take i = b.take i }) (fun i => [(0, sl (fun q => ratEs (ratC q)) 4 a .view), (1, sl (fun q => qE (qrC q)) 4 b .view), (5, .int .i64 i.1)]) (fun _ => []) (fun i => a.length - i.1) ⟨0, Nat.zero_le _, rfl⟩ (by (repeat (first | exact True.intro | refine ⟨⟨_, rfl, Sub.refl _⟩, ?_⟩ | refine ⟨⟨_, rfl, Sub.nilso _ _⟩, ?_⟩ | refine ⟨⟨_, rfl, sl_tail _ _ _ _ _⟩, ?_⟩ | refine ⟨⟨_, rfl, Sub.of_eq (by first | rfl | (congr 1; first | omega | (simp only; omega)) | (simp; done) | (simp; omega))⟩, ?_⟩ | refine ⟨⟨_, rfl, Sub.view _ _ _ _⟩, ?_⟩))) (by (first | exact ⟨0, rfl⟩ | exact ⟨1, rfl⟩ | exact ⟨2, rfl⟩ | exact ⟨3, rfl⟩ | exact ⟨4, rfl⟩)) ?_
  rintro ⟨i, hi, he⟩
  simp only at hi he ⊢
  by_cases hlt : i < a.length
  · have hlt' : (i : Int) < a.length := by omega
    have hlb : i < b.length := by omega
    have hlb' : (i : Int) < b.length := by omega
    have ga : a.getD i default = a[i] := by
      rw [List.getD_eq_getElem?_getD, List.getElem?_eq_getElem hlt]
      rfl
    have gb : b.getD i default = b[i] := by
      rw [List.getD_eq_getElem?_getD, List.getElem?_eq_getElem hlb]
      rfl
    have oa := h1 _ (getD_mem hlt)
    have ob := h2 _ (getD_mem hlb)
    have g1 := qRat_c k (qrC (b.getD i default)) hk (qrC_ok ob)
    rw [qrC_q] at g1
    have g2 := qSame_c (ratC (a.getD i default)) (ratC (b.getD i default)) ((ratC_ok oa).mono (by omega)) ((ratC_ok ob).mono (by omega))
    rw [sameR_C] at g2
    by_cases hx : a[i] = b[i]
    · rw [decide_eq_true (show a.getD i default = b.getD i default by rw [ga, gb, hx])] at g2
      repeat (first | refine wKB ?_ | refine awp_seq_k (fun K hK => ?_) | refine qal tyok (fun bx => ?_) | refine qbox (fun bx => ?_) | refine qboxV (fun bx => ?_) | ((repeat ((fail_if_success (refine hK _ _ ?_)); clear hK)); refine hK _ _ ?_; clear hK))
      refine areg_soft mixed tyok [8, 9] [] (List.range 11) (by decide +kernel) ?_
      repeat (first | refine wKB ?_ | refine awp_seq_k (fun K hK => ?_) | refine areg_text mixed tyok (by decide +kernel) ?_ | refine qal tyok (fun bx => ?_) | refine qbox (fun bx => ?_) | refine qboxV (fun bx => ?_) | refine TR.pcall rfl rfl rfl rfl True.intro rfl rfl (g1) ?_ | refine TR.pcall rfl rfl rfl rfl True.intro rfl rfl (g2) ?_ | refine pco rfl rfl rfl rfl rfl rfl rfl rfl (fun _ => g1) ?_ | refine pco rfl rfl rfl rfl rfl rfl rfl rfl (fun _ => g2) ?_ | ((repeat ((fail_if_success (refine hK _ _ ?_)); clear hK)); refine hK _ _ ?_; clear hK))
      exact ⟨⟨i + 1, hlt, by rw [List.take_succ_eq_append_getElem hlt, List.take_succ_eq_append_getElem hlb, he, hx]⟩, (by (repeat (first | exact True.intro | refine ⟨⟨_, rfl, Sub.refl _⟩, ?_⟩ | refine ⟨⟨_, rfl, Sub.nilso _ _⟩, ?_⟩ | refine ⟨⟨_, rfl, sl_tail _ _ _ _ _⟩, ?_⟩ | refine ⟨⟨_, rfl, Sub.of_eq (by first | rfl | (congr 1; first | omega | (simp only; omega)) | (simp; done) | (simp; omega))⟩, ?_⟩ | refine ⟨⟨_, rfl, Sub.view _ _ _ _⟩, ?_⟩))), (by (first | exact ⟨0, rfl⟩ | exact ⟨1, rfl⟩ | exact ⟨2, rfl⟩ | exact ⟨3, rfl⟩ | exact ⟨4, rfl⟩)), by simp only; omega⟩
    · rw [decide_eq_false (show ¬ a.getD i default = b.getD i default by rw [ga, gb]; exact hx)] at g2
      have hr : decide (a = b) = false := decide_eq_false fun e => by
        subst e
        exact hx rfl
      repeat (first | refine wKB ?_ | refine awp_seq_k (fun K hK => ?_) | refine qal tyok (fun bx => ?_) | refine qbox (fun bx => ?_) | refine qboxV (fun bx => ?_) | ((repeat ((fail_if_success (refine hK _ _ ?_)); clear hK)); refine hK _ _ ?_; clear hK))
      refine areg_soft mixed tyok [8, 9] [] (List.range 11) (by decide +kernel) ?_
      repeat (first | refine wKB ?_ | refine awp_seq_k (fun K hK => ?_) | refine areg_text mixed tyok (by decide +kernel) ?_ | refine qal tyok (fun bx => ?_) | refine qbox (fun bx => ?_) | refine qboxV (fun bx => ?_) | refine TR.pcall rfl rfl rfl rfl True.intro rfl rfl (g1) ?_ | refine TR.pcall rfl rfl rfl rfl True.intro rfl rfl (g2) ?_ | refine pco rfl rfl rfl rfl rfl rfl rfl rfl (fun _ => g1) ?_ | refine pco rfl rfl rfl rfl rfl rfl rfl rfl (fun _ => g2) ?_ | ((repeat ((fail_if_success (refine hK _ _ ?_)); clear hK)); refine hK _ _ ?_; clear hK))
      refine r1 ?_
      exact Sub.of_eq (by rw [hr])
  · have hge : ¬ (i : Int) < a.length := by omega
    have hr : decide (a = b) = true := decide_eq_true (by
      rw [List.take_of_length_le (by omega), List.take_of_length_le (by omega)] at he
      exact he)
    repeat (first | refine wKB ?_ | refine awp_seq_k (fun K hK => ?_) | refine areg_text mixed tyok (by decide +kernel) ?_ | refine qal tyok (fun bx => ?_) | refine qbox (fun bx => ?_) | refine qboxV (fun bx => ?_) | ((repeat ((fail_if_success (refine hK _ _ ?_)); clear hK)); refine hK _ _ ?_; clear hK))
    refine r1 ?_
    exact Sub.of_eq (by rw [hr])

end Go.Proofs.YthfglhjdnpoepaaGreatDoor
