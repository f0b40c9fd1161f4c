/-
  The document's word (porismref19): it is the lexer's.
-/
import Derived.Test.YtjinaakebjfbiaaGreatDoorLx2
import Derived.Test.YtjinaakebjfbiaaGreatDoorNm
import Derived.Test.YtjinaakebjfbiaaGreatDoorAbB
namespace Go.Proofs.YtjinaakebjfbiaaGreatDoor
open Go.Ab

theorem cbRsm : Callable Tryz.prog 131 := fun _ _ => by kernel_rfl
theorem rsmall_c (c : Int) : PCalls Tryz.prog 131 [.int .u8 c] (.bool (decide (c ≥ 97) && decide (c ≤ 122))) := by
  refine pcalls_of_awp tyok cbRsm Tryz.func131 rfl rfl ?_
  repeat (first | refine wK ?_ | refine awp_seq_k (fun K hK => ?_) | refine areg_text mixed tyok (by decide +kernel) ?_ | refine qal tyok (fun bx => ?_) | refine qbox (fun bx => ?_) | refine qboxV (fun bx => ?_) | ((repeat ((fail_if_success (refine hK _ _ ?_)); clear hK)); refine hK _ _ ?_; clear hK))
  refine r1 ?_
  exact Sub.refl _

theorem cbRcap : Callable Tryz.prog 130 := fun _ _ => by kernel_rfl
theorem rcapital_c (c : Int) : PCalls Tryz.prog 130 [.int .u8 c] (.bool (decide (c ≥ 65) && decide (c ≤ 90))) := by
  refine pcalls_of_awp tyok cbRcap Tryz.func130 rfl rfl ?_
  repeat (first | refine wK ?_ | refine awp_seq_k (fun K hK => ?_) | refine areg_text mixed tyok (by decide +kernel) ?_ | refine qal tyok (fun bx => ?_) | refine qbox (fun bx => ?_) | refine qboxV (fun bx => ?_) | ((repeat ((fail_if_success (refine hK _ _ ?_)); clear hK)); refine hK _ _ ?_; clear hK))
  refine r1 ?_
  exact Sub.refl _

theorem cbRdig : Callable Tryz.prog 132 := fun _ _ => by kernel_rfl
theorem rdigit_c (c : Int) : PCalls Tryz.prog 132 [.int .u8 c] (.bool (decide (c ≥ 48) && decide (c ≤ 57))) := by
  refine pcalls_of_awp tyok cbRdig Tryz.func132 rfl rfl ?_
  repeat (first | refine wK ?_ | refine awp_seq_k (fun K hK => ?_) | refine areg_text mixed tyok (by decide +kernel) ?_ | refine qal tyok (fun bx => ?_) | refine qbox (fun bx => ?_) | refine qboxV (fun bx => ?_) | ((repeat ((fail_if_success (refine hK _ _ ?_)); clear hK)); refine hK _ _ ?_; clear hK))
  refine r1 ?_
  exact Sub.refl _

def numV (w : List UInt8) : AV := match refNum w with
  | some v => .tuple [.int .i64 v, .bool true]
  | none => .tuple [.int .i64 0, .bool false]

theorem digit_bool (b : UInt8) : (decide (((b.toNat : Nat) : Int) ≥ 48) && decide (((b.toNat : Nat) : Int) ≤ 57)) = (Lib.digitVal b).isSome := by
  unfold Lib.digitVal
  rw [Bool.eq_iff_iff]
  simp only [Bool.and_eq_true, decide_eq_true_eq]
  split <;> simp <;> omega

theorem decFrom_step {d : List UInt8} {i : Nat} (hi : i < d.length) {n : Nat} (h : Lib.decFrom 0 (d.take i) = some n) : Lib.decFrom 0 (d.take (i + 1)) = match Lib.digitVal (d.getD i 0) with
    | some x => some (n * 10 + x)
    | none => none := by
  rw [List.take_succ_eq_append_getElem hi, decFrom_append, h, show d[i] = d.getD i 0 by simp [List.getD, hi]]
  cases Lib.digitVal (d.getD i 0) <;> rfl

theorem decFrom_none {d : List UInt8} {i : Nat} (hi : i < d.length) (h : Lib.digitVal (d.getD i 0) = none) : Lib.decFrom 0 d = none := by
  cases hd : Lib.decFrom 0 d with
  | none => rfl
  | some n =>
    obtain ⟨x, hx⟩ := Lib.digit_of_decFrom d 0 n hd i (d.getD i 0) (by simp [List.getD, hi])
    rw [h] at hx
    cases hx

theorem cbNum : Callable Tryz.prog 133 := fun _ _ => by kernel_rfl
set_option maxHeartbeats 1600000 in
set_option maxRecDepth 100000 in
theorem number_c (w : List UInt8) (hw : w.length ≤ 1000000000) : PCalls Tryz.prog 133 [.str w] (numV w) := by
  refine pcalls_of_awp tyok cbNum Tryz.func133 rfl rfl ?_
  have he : ∃ minus d, minus = (decide ((w.length : Int) > 0) && ((w.getD 0 0).toNat == 45)) ∧ d = (if minus then w.drop 1 else w) := ⟨_, _, rfl, rfl⟩
  obtain ⟨minus, d, hm, hd⟩ := he
  have hmi : minus = (decide ((w.length : Int) > 0) && (((w.getD 0 0).toNat : Int) == 45)) := by
    rw [hm]
    congr 1
    rw [Bool.eq_iff_iff, beq_iff_eq, beq_iff_eq]
    omega
  have hnum : refNum w = if d.length = 0 ∨ d.length > 7 ∨ ((d.getD 0 0).toNat = 48 ∧ (minus = true ∨ d.length > 1)) then none
      else match Lib.decFrom 0 d with
        | none => none
        | some n => if n > 1000000 then none else some (if minus then -(n : Int) else n) := by
    rw [hd, hm]
    rfl
  repeat (first | refine wK ?_ | refine awp_seq_k (fun K hK => ?_) | refine areg_text mixed tyok (by decide +kernel) ?_ | refine qal tyok (fun bx => ?_) | refine qbox (fun bx => ?_) | refine qboxV (fun bx => ?_) | ((repeat ((fail_if_success (refine hK _ _ ?_)); clear hK)); refine hK _ _ ?_; clear hK))
  refine (have hr := cutK (Wk := [(4, .str d), (5, .bool minus)]) (H0 := []) hK ?_; ?_)
  · clear hK
    have hdl : d.length ≤ w.length := by rw [hd]; split <;> simp
    repeat (first | refine wK ?_ | refine awp_seq_k (fun K hK => ?_) | refine areg_text mixed tyok (by decide +kernel) ?_ | refine qal tyok (fun bx => ?_) | refine qbox (fun bx => ?_) | refine qboxV (fun bx => ?_) | ((repeat ((fail_if_success (refine hK _ _ ?_)); clear hK)); refine hK _ _ ?_; clear hK))
    refine awp_cond rfl (fun hb => ?_) (fun hb => ?_)
    · have hv : numV w = .tuple [.int .i64 0, .bool false] := by
        unfold numV
        rw [hnum, if_pos]
        simp only [Bool.or_eq_true, Bool.and_eq_true, beq_iff_eq, decide_eq_true_eq, Int.toNat_zero] at hb
        clear hnum hmi hm hd hdl
        generalize (d.getD 0 0).toNat = z at hb ⊢
        generalize d.length = L at hb ⊢
        rcases Bool.eq_false_or_eq_true minus with hmn | hmn <;> simp only [hmn, true_or, false_or, and_true, Bool.false_eq_true] at hb ⊢ <;> omega
      repeat (first | refine wK ?_ | refine awp_seq_k (fun K hK => ?_) | refine areg_text mixed tyok (by decide +kernel) ?_ | refine qal tyok (fun bx => ?_) | refine qbox (fun bx => ?_) | refine qboxV (fun bx => ?_) | ((repeat ((fail_if_success (refine hK _ _ ?_)); clear hK)); refine hK _ _ ?_; clear hK))
      rw [hv]
      refine r2 ?_ ?_
      · exact Sub.refl _
      · exact Sub.refl _
    · have hc : ¬ (d.length = 0 ∨ d.length > 7 ∨ ((d.getD 0 0).toNat = 48 ∧ (minus = true ∨ d.length > 1))) := by
        rw [← Bool.not_eq_true] at hb
        simp only [Bool.or_eq_true, Bool.and_eq_true, beq_iff_eq, decide_eq_true_eq, Int.toNat_zero] at hb
        clear hnum hmi hm hd hdl
        generalize (d.getD 0 0).toNat = z at hb ⊢
        generalize d.length = L at hb ⊢
        rcases Bool.eq_false_or_eq_true minus with hmn | hmn <;> simp only [hmn, true_or, false_or, and_true, Bool.false_eq_true] at hb ⊢ <;> omega
      rw [if_neg hc] at hnum
      have h7 : d.length ≤ 7 := by omega
      repeat (first | refine wK ?_ | refine awp_seq_k (fun K hK => ?_) | refine areg_text mixed tyok (by decide +kernel) ?_ | refine qal tyok (fun bx => ?_) | refine qbox (fun bx => ?_) | refine qboxV (fun bx => ?_) | ((repeat ((fail_if_success (refine hK _ _ ?_)); clear hK)); refine hK _ _ ?_; clear hK))
      refine awp_loop0 (ι := { x : Nat × Nat // x.1 ≤ d.length ∧ Lib.decFrom 0 (d.take x.1) = some x.2 }) (fun x => [(4, .str d), (5, .bool minus), (6, .int .i64 x.1.2), (7, .int .i64 x.1.1)]) (fun _ => []) (fun x => d.length - x.1.1)
        ⟨(0, 0), Nat.zero_le _, rfl⟩ ?_ (by (first | exact ⟨0, rfl⟩ | exact ⟨1, rfl⟩ | exact ⟨2, rfl⟩ | exact ⟨3, rfl⟩ | exact ⟨4, rfl⟩)) ?_
      · (repeat (first | exact True.intro | refine ⟨⟨_, rfl, Sub.refl _⟩, ?_⟩ | refine ⟨⟨_, rfl, Sub.nilso _ _⟩, ?_⟩ | refine ⟨⟨_, rfl, sl_tail _ _ _ _ _⟩, ?_⟩ | refine ⟨⟨_, rfl, Sub.of_eq (by first | rfl | (congr 1; first | omega | (simp only; omega)) | (simp; done) | (simp; omega))⟩, ?_⟩ | refine ⟨⟨_, rfl, Sub.view _ _ _ _⟩, ?_⟩))
      rintro ⟨⟨i, n⟩, hi, hn⟩
      simp only at hi hn ⊢
      have hnb : n < 10000000 := by
        have h1 := Lib.decFrom_lt _ _ _ hn
        have h2 : (d.take i).length ≤ 7 := by simp; omega
        have h3 : 10 ^ (d.take i).length ≤ 10 ^ 7 := Nat.pow_le_pow_right (by omega) h2
        omega
      repeat (first | refine wK ?_ | refine awp_seq_k (fun K hK => ?_) | refine areg_text mixed tyok (by decide +kernel) ?_ | refine qal tyok (fun bx => ?_) | refine qbox (fun bx => ?_) | refine qboxV (fun bx => ?_) | ((repeat ((fail_if_success (refine hK _ _ ?_)); clear hK)); refine hK _ _ ?_; clear hK))
      refine awp_cond rfl (fun hb2 => ?_) (fun hb2 => ?_)
      · have hlt : i < d.length := by simpa using hb2
        cases hdv : Lib.digitVal (d.getD i 0) with
        | none =>
          have hv : numV w = .tuple [.int .i64 0, .bool false] := by
            unfold numV
            rw [hnum, decFrom_none hlt hdv]
          have g := rdigit_c ((d.getD i 0).toNat)
          rw [digit_bool, hdv] at g
          repeat (first | refine wK ?_ | refine awp_seq_k (fun K hK => ?_) | refine areg_text mixed tyok (by decide +kernel) ?_ | refine qal tyok (fun bx => ?_) | refine qbox (fun bx => ?_) | refine qboxV (fun bx => ?_) | refine TR.pcall rfl rfl rfl rfl True.intro rfl rfl (g) ?_ | refine pco rfl rfl rfl rfl rfl rfl rfl rfl (fun _ => g) ?_ | ((repeat ((fail_if_success (refine hK _ _ ?_)); clear hK)); refine hK _ _ ?_; clear hK))
          rw [hv]
          refine r2 ?_ ?_
          · exact Sub.refl _
          · exact Sub.refl _
        | some x =>
          have g := rdigit_c ((d.getD i 0).toNat)
          rw [digit_bool, hdv] at g
          obtain ⟨x1, x2, x3⟩ := Lib.digitVal_eq hdv
          have hw1 : IntKind.u8.wrap (((d.getD i 0).toNat : Int) - 48) = ((d.getD i 0).toNat : Int) - 48 := wrap_inK (by simp only [inK]; omega)
          have hw2 : IntKind.i64.wrap (IntKind.u8.wrap (((d.getD i 0).toNat : Int) - 48)) = ((d.getD i 0).toNat : Int) - 48 := by
            rw [hw1]
            exact wrap_inK (by simp only [inK]; omega)
          have hw3 : IntKind.i64.wrap (IntKind.u8.wrap (((d.getD ((i : Int)).toNat 0).toNat : Int) - 48)) = ((d.getD i 0).toNat : Int) - 48 := hw2
          repeat (first | refine wK ?_ | refine awp_seq_k (fun K hK => ?_) | refine areg_text mixed tyok (by decide +kernel) ?_ | refine qal tyok (fun bx => ?_) | refine qbox (fun bx => ?_) | refine qboxV (fun bx => ?_) | refine TR.pcall rfl rfl rfl rfl True.intro rfl rfl (g) ?_ | refine pco rfl rfl rfl rfl rfl rfl rfl rfl (fun _ => g) ?_ | ((repeat ((fail_if_success (refine hK _ _ ?_)); clear hK)); refine hK _ _ ?_; clear hK))
          refine ⟨⟨(i + 1, n * 10 + x), hlt, ?_⟩, ?_, (by (first | exact ⟨0, rfl⟩ | exact ⟨1, rfl⟩ | exact ⟨2, rfl⟩ | exact ⟨3, rfl⟩ | exact ⟨4, rfl⟩)), ?_⟩
          · rw [decFrom_step hlt hn, hdv]
          · (repeat (first | exact True.intro | refine ⟨⟨_, rfl, Sub.refl _⟩, ?_⟩ | refine ⟨⟨_, rfl, Sub.nilso _ _⟩, ?_⟩ | refine ⟨⟨_, rfl, sl_tail _ _ _ _ _⟩, ?_⟩ | refine ⟨⟨_, rfl, Sub.of_eq (by first | rfl | (congr 1; first | omega | (simp only; omega)) | (simp; done) | (simp; omega))⟩, ?_⟩ | refine ⟨⟨_, rfl, Sub.view _ _ _ _⟩, ?_⟩))
          · simp only; omega
      · have hie : i = d.length := by
          have : ¬ (i : Int) < d.length := by simpa using hb2
          omega
        rw [hie, List.take_length] at hn
        rw [hn] at hnum
        simp only at hnum
        repeat (first | refine wK ?_ | refine awp_seq_k (fun K hK => ?_) | refine areg_text mixed tyok (by decide +kernel) ?_ | refine qal tyok (fun bx => ?_) | refine qbox (fun bx => ?_) | refine qboxV (fun bx => ?_) | ((repeat ((fail_if_success (refine hK _ _ ?_)); clear hK)); refine hK _ _ ?_; clear hK))
        refine awp_cond rfl (fun hb3 => ?_) (fun hb3 => ?_)
        · have hgt : n > 1000000 := by
            have : (n : Int) > 1000000 := by simpa using hb3
            omega
          rw [if_pos hgt] at hnum
          have hv : numV w = .tuple [.int .i64 0, .bool false] := by unfold numV; rw [hnum]
          repeat (first | refine wK ?_ | refine awp_seq_k (fun K hK => ?_) | refine areg_text mixed tyok (by decide +kernel) ?_ | refine qal tyok (fun bx => ?_) | refine qbox (fun bx => ?_) | refine qboxV (fun bx => ?_) | ((repeat ((fail_if_success (refine hK _ _ ?_)); clear hK)); refine hK _ _ ?_; clear hK))
          rw [hv]
          refine r2 ?_ ?_
          · exact Sub.refl _
          · exact Sub.refl _
        · have hgt : ¬ n > 1000000 := by
            have : ¬ (n : Int) > 1000000 := by simpa using hb3
            omega
          rw [if_neg hgt] at hnum
          cases minus
          · have hv : numV w = .tuple [.int .i64 n, .bool true] := by unfold numV; rw [hnum]; rfl
            repeat (first | refine wK ?_ | refine awp_seq_k (fun K hK => ?_) | refine areg_text mixed tyok (by decide +kernel) ?_ | refine qal tyok (fun bx => ?_) | refine qbox (fun bx => ?_) | refine qboxV (fun bx => ?_) | ((repeat ((fail_if_success (refine hK _ _ ?_)); clear hK)); refine hK _ _ ?_; clear hK))
            rw [hv]
            refine r2 ?_ ?_
            · exact Sub.refl _
            · exact Sub.refl _
          · have hv : numV w = .tuple [.int .i64 (0 - (n : Int)), .bool true] := by unfold numV; rw [hnum]; simp
            repeat (first | refine wK ?_ | refine awp_seq_k (fun K hK => ?_) | refine areg_text mixed tyok (by decide +kernel) ?_ | refine qal tyok (fun bx => ?_) | refine qbox (fun bx => ?_) | refine qboxV (fun bx => ?_) | ((repeat ((fail_if_success (refine hK _ _ ?_)); clear hK)); refine hK _ _ ?_; clear hK))
            rw [hv]
            refine r2 ?_ ?_
            · exact Sub.refl _
            · exact Sub.refl _
  clear hK
  refine awp_cond rfl (fun hb => ?_) (fun hb => ?_)
  · have hmt : minus = true := by rw [hmi]; exact hb
    have hwl : 1 ≤ w.length := by
      simp only [Bool.and_eq_true, decide_eq_true_eq] at hb
      omega
    repeat (first | refine wK ?_ | refine awp_seq_k (fun K hK => ?_) | refine areg_text mixed tyok (by decide +kernel) ?_ | refine qal tyok (fun bx => ?_) | refine qbox (fun bx => ?_) | refine qboxV (fun bx => ?_) | ((repeat ((fail_if_success (refine hK _ _ ?_)); clear hK)); refine hK _ _ ?_; clear hK))
    refine hr _ ?_
    rw [hmt] at hd
    simp only [if_true] at hd
    rw [hd, hmi]
    (repeat (first | exact True.intro | refine ⟨⟨_, rfl, Sub.refl _⟩, ?_⟩ | refine ⟨⟨_, rfl, Sub.nilso _ _⟩, ?_⟩ | refine ⟨⟨_, rfl, sl_tail _ _ _ _ _⟩, ?_⟩ | refine ⟨⟨_, rfl, Sub.of_eq (by first | rfl | (congr 1; first | omega | (simp only; omega)) | (simp; done) | (simp; omega))⟩, ?_⟩ | refine ⟨⟨_, rfl, Sub.view _ _ _ _⟩, ?_⟩))
  · have hmt : minus = false := by rw [hmi]; exact hb
    repeat (first | refine wK ?_ | refine awp_seq_k (fun K hK => ?_) | refine areg_text mixed tyok (by decide +kernel) ?_ | refine qal tyok (fun bx => ?_) | refine qbox (fun bx => ?_) | refine qboxV (fun bx => ?_) | ((repeat ((fail_if_success (refine hK _ _ ?_)); clear hK)); refine hK _ _ ?_; clear hK))
    refine hr _ ?_
    rw [hmt] at hd
    simp only [Bool.false_eq_true, if_false] at hd
    rw [hd, hmi]
    (repeat (first | exact True.intro | refine ⟨⟨_, rfl, Sub.refl _⟩, ?_⟩ | refine ⟨⟨_, rfl, Sub.nilso _ _⟩, ?_⟩ | refine ⟨⟨_, rfl, sl_tail _ _ _ _ _⟩, ?_⟩ | refine ⟨⟨_, rfl, Sub.of_eq (by first | rfl | (congr 1; first | omega | (simp only; omega)) | (simp; done) | (simp; omega))⟩, ?_⟩ | refine ⟨⟨_, rfl, Sub.view _ _ _ _⟩, ?_⟩))

def capB (c : Int) : Bool := decide (c ≥ 65) && decide (c ≤ 90)
def nmB (c : Int) : Bool := ((decide (c ≥ 97) && decide (c ≤ 122)) || (decide (c ≥ 65) && decide (c ≤ 90))) || (decide (c ≥ 48) && decide (c ≤ 57))

theorem take_all {s : List UInt8} {i : Nat} (h : i < s.length) (p : UInt8 → Bool) : (s.take (i + 1)).all p = ((s.take i).all p && p (s.getD i 0)) := by
  rw [List.take_succ_eq_append_getElem h, List.all_append]
  simp [List.getD, h]

theorem letters_eq (s : List UInt8) : ((decide ((s.length : Int) > 0) && decide ((s.length : Int) ≤ 16)) && s.all fun b => smallR b.toNat) = allF smallR s 1 16 := by
  unfold allF
  exact Bool.and_comm _ _

theorem names_eq (s : List UInt8) : (((decide ((s.length : Int) > 0) && decide ((s.length : Int) ≤ 8)) && capB (s.getD 0 0).toNat) && s.all fun b => namedR b.toNat) = kind3 s := by
  unfold kind3 allF capB
  have h : decide ((s.length : Int) > 0) = decide ((s.length : Int) ≥ 1) := by
    rw [Bool.eq_iff_iff]
    simp only [decide_eq_true_eq]
    omega
  rw [h]
  cases decide ((s.length : Int) ≥ 1) <;> cases decide ((s.length : Int) ≤ 8) <;> cases decide (((s.getD 0 0).toNat : Int) ≥ 65) <;> cases decide (((s.getD 0 0).toNat : Int) ≤ 90) <;> simp

theorem tokF_eq (w : List UInt8) : tokF w = if w == [61] then some (4, 0) else if allF smallR w 1 16 then some (2, 0) else if kind3 w then some (1, 0) else (refNum w).map fun v => (3, v) := by
  unfold tokF
  rw [← tokNum]
  cases Lib.atoiAll w with
  | ok v =>
    simp only
    by_cases hc : ((!(Lib.itoa v == w) || decide (v > 1000000)) || decide (v < -1000000)) = true
    · rw [if_pos hc, if_pos hc]; rfl
    · rw [if_neg hc, if_neg hc]; rfl
  | _ => rfl

theorem cbRtok : Callable Tryz.prog 103 := fun _ _ => by kernel_rfl
set_option maxHeartbeats 1600000 in
set_option maxRecDepth 100000 in
theorem rtok_c (s : List UInt8) (hs : s.length ≤ 1000000000) : PCalls Tryz.prog 103 [.str s] (tokV s) := by
  refine pcalls_of_awp tyok cbRtok Tryz.func103 rfl rfl ?_
  ((repeat (first | refine wK ?_ | refine awp_seq_k (fun K hK => ?_) | refine areg_text mixed tyok (by decide +kernel) ?_ | ((repeat ((fail_if_success (refine hK _ _ ?_)); clear hK)); refine hK _ _ ?_; clear hK))); ((first | refine qal tyok (fun b2 => ?_) | refine qbox (fun b2 => ?_) | refine qboxV (fun b2 => ?_))); (repeat (first | refine wK ?_ | refine awp_seq_k (fun K hK => ?_) | refine areg_text mixed tyok (by decide +kernel) ?_ | refine qal tyok (fun bx => ?_) | refine qbox (fun bx => ?_) | refine qboxV (fun bx => ?_) | ((repeat ((fail_if_success (refine hK _ _ ?_)); clear hK)); refine hK _ _ ?_; clear hK))))
  refine awp_cond rfl (fun h61 => ?_) (fun h61 => ?_)
  · repeat (first | refine wK ?_ | refine awp_seq_k (fun K hK => ?_) | refine areg_text mixed tyok (by decide +kernel) ?_ | refine qal tyok (fun bx => ?_) | refine qbox (fun bx => ?_) | refine qboxV (fun bx => ?_) | ((repeat ((fail_if_success (refine hK _ _ ?_)); clear hK)); refine hK _ _ ?_; clear hK))
    refine fnQ_ret 1 rfl (.cell rfl rfl (List.Mem.head _) rfl trivial (.tmp rfl .nil)) (Sub.of_eq ?_) ⟨rfl, rfl⟩
    unfold tokV
    rw [tokF_eq, if_pos h61]
    rfl
  · repeat (first | refine wK ?_ | refine awp_seq_k (fun K hK => ?_) | refine areg_text mixed tyok (by decide +kernel) ?_ | refine qal tyok (fun bx => ?_) | refine qbox (fun bx => ?_) | refine qboxV (fun bx => ?_) | refine TR.pcall rfl rfl rfl rfl True.intro rfl rfl (rcapital_c _) ?_ | refine pco rfl rfl rfl rfl rfl rfl rfl rfl (fun _ => rcapital_c _) ?_ | ((repeat ((fail_if_success (refine hK _ _ ?_)); clear hK)); refine hK _ _ ?_; clear hK))
    refine awp_loop0 (ι := { i : Nat // i ≤ s.length }) (fun i => [(4, .bool ((decide ((s.length : Int) > 0) && decide ((s.length : Int) ≤ 16)) && (s.take i.1).all fun b => smallR b.toNat)),
        (5, .bool (((decide ((s.length : Int) > 0) && decide ((s.length : Int) ≤ 8)) && capB (s.getD 0 0).toNat) && (s.take i.1).all fun b => namedR b.toNat)), (0, .str s), (2, .ptr b2 0), (3, .bool false), (6, .int .i64 i.1)])
      (fun _ => [.box b2 44 (.agg (encT 0 [] 0 0 0))]) (fun i => s.length - i.1) ⟨0, Nat.zero_le _⟩ ?_ (by (first | exact ⟨0, rfl⟩ | exact ⟨1, rfl⟩ | exact ⟨2, rfl⟩ | exact ⟨3, rfl⟩ | exact ⟨4, rfl⟩)) ?_
    · refine ⟨⟨_, rfl, Sub.of_eq (by simp)⟩, ⟨_, rfl, Sub.of_eq (by simp [capB])⟩, ?_⟩
      (repeat (first | exact True.intro | refine ⟨⟨_, rfl, Sub.refl _⟩, ?_⟩ | refine ⟨⟨_, rfl, Sub.nilso _ _⟩, ?_⟩ | refine ⟨⟨_, rfl, sl_tail _ _ _ _ _⟩, ?_⟩ | refine ⟨⟨_, rfl, Sub.of_eq (by first | rfl | (congr 1; first | omega | (simp only; omega)) | (simp; done) | (simp; omega))⟩, ?_⟩ | refine ⟨⟨_, rfl, Sub.view _ _ _ _⟩, ?_⟩))
    rintro ⟨i, hi⟩
    simp only at hi ⊢
    repeat (first | refine wK ?_ | refine awp_seq_k (fun K hK => ?_) | refine areg_text mixed tyok (by decide +kernel) ?_ | refine qal tyok (fun bx => ?_) | refine qbox (fun bx => ?_) | refine qboxV (fun bx => ?_) | ((repeat ((fail_if_success (refine hK _ _ ?_)); clear hK)); refine hK _ _ ?_; clear hK))
    refine awp_cond rfl (fun hb => ?_) (fun hb => ?_)
    · have hlt : i < s.length := by simpa using hb
      repeat (first | refine wK ?_ | refine awp_seq_k (fun K hK => ?_) | refine areg_text mixed tyok (by decide +kernel) ?_ | refine qal tyok (fun bx => ?_) | refine qbox (fun bx => ?_) | refine qboxV (fun bx => ?_) | refine TR.pcall rfl rfl rfl rfl True.intro rfl rfl (rsmall_c _) ?_ | refine TR.pcall rfl rfl rfl rfl True.intro rfl rfl (rcapital_c _) ?_ | refine TR.pcall rfl rfl rfl rfl True.intro rfl rfl (rdigit_c _) ?_ | refine pco rfl rfl rfl rfl rfl rfl rfl rfl (fun _ => rsmall_c _) ?_ | refine pco rfl rfl rfl rfl rfl rfl rfl rfl (fun _ => rcapital_c _) ?_ | refine pco rfl rfl rfl rfl rfl rfl rfl rfl (fun _ => rdigit_c _) ?_ | ((repeat ((fail_if_success (refine hK _ _ ?_)); clear hK)); refine hK _ _ ?_; clear hK))
      refine ⟨⟨i + 1, hlt⟩, ⟨⟨_, rfl, Sub.of_eq ?_⟩, ⟨_, rfl, Sub.of_eq ?_⟩, ?_⟩, (by (first | exact ⟨0, rfl⟩ | exact ⟨1, rfl⟩ | exact ⟨2, rfl⟩ | exact ⟨3, rfl⟩ | exact ⟨4, rfl⟩)), ?_⟩
      · rw [take_all hlt]
        exact congrArg AV.bool (Bool.and_assoc _ _ _)
      · rw [take_all hlt]
        exact congrArg AV.bool (Bool.and_assoc _ _ _)
      · (repeat (first | exact True.intro | refine ⟨⟨_, rfl, Sub.refl _⟩, ?_⟩ | refine ⟨⟨_, rfl, Sub.nilso _ _⟩, ?_⟩ | refine ⟨⟨_, rfl, sl_tail _ _ _ _ _⟩, ?_⟩ | refine ⟨⟨_, rfl, Sub.of_eq (by first | rfl | (congr 1; first | omega | (simp only; omega)) | (simp; done) | (simp; omega))⟩, ?_⟩ | refine ⟨⟨_, rfl, Sub.view _ _ _ _⟩, ?_⟩))
      · simp only; omega
    · have hie : i = s.length := by
        have : ¬ (i : Int) < s.length := by simpa using hb
        omega
      repeat (first | refine wK ?_ | refine awp_seq_k (fun K hK => ?_) | refine areg_text mixed tyok (by decide +kernel) ?_ | refine qal tyok (fun bx => ?_) | refine qbox (fun bx => ?_) | refine qboxV (fun bx => ?_) | ((repeat ((fail_if_success (refine hK _ _ ?_)); clear hK)); refine hK _ _ ?_; clear hK))
      have e4 : ((decide ((s.length : Int) > 0) && decide ((s.length : Int) ≤ 16)) && (s.take i).all fun b => smallR b.toNat) = allF smallR s 1 16 := by
        rw [hie, List.take_length]; exact letters_eq s
      have e5 : (((decide ((s.length : Int) > 0) && decide ((s.length : Int) ≤ 8)) && capB (s.getD 0 0).toNat) && (s.take i).all fun b => namedR b.toNat) = kind3 s := by
        rw [hie, List.take_length]; exact names_eq s
      refine awp_weaken (T' := [(66, .bool (allF smallR s 1 16)), (5, .bool (kind3 s)), (0, .str s), (2, .ptr b2 0), (3, .bool false)]) (Weak.spec ⟨⟨_, rfl, Sub.of_eq (by rw [e4])⟩, ⟨_, rfl, Sub.of_eq (by rw [e5])⟩, by (repeat (first | exact True.intro | refine ⟨⟨_, rfl, Sub.refl _⟩, ?_⟩ | refine ⟨⟨_, rfl, Sub.nilso _ _⟩, ?_⟩ | refine ⟨⟨_, rfl, sl_tail _ _ _ _ _⟩, ?_⟩ | refine ⟨⟨_, rfl, Sub.of_eq (by first | rfl | (congr 1; first | omega | (simp only; omega)) | (simp; done) | (simp; omega))⟩, ?_⟩ | refine ⟨⟨_, rfl, Sub.view _ _ _ _⟩, ?_⟩))⟩) ?_
      have ht := tokF_eq s
      rw [if_neg (by rw [show (s == [61]) = false from h61]; simp)] at ht
      clear e4 e5 hb
      cases hl : allF smallR s 1 16
      · cases hn : kind3 s
        · rw [hl, hn] at ht
          simp only [Bool.false_eq_true, if_false] at ht
          have g := number_c s hs
          unfold numV at g
          cases hr : refNum s with
          | none =>
            rw [hr] at g ht
            repeat (first | refine wK ?_ | refine awp_seq_k (fun K hK => ?_) | refine areg_text mixed tyok (by decide +kernel) ?_ | refine qal tyok (fun bx => ?_) | refine qbox (fun bx => ?_) | refine qboxV (fun bx => ?_) | refine TR.pcall rfl rfl rfl rfl True.intro rfl rfl (g) ?_ | refine pco rfl rfl rfl rfl rfl rfl rfl rfl (fun _ => g) ?_ | ((repeat ((fail_if_success (refine hK _ _ ?_)); clear hK)); refine hK _ _ ?_; clear hK))
            refine fnQ_ret 1 rfl (.cell rfl rfl (List.Mem.head _) rfl trivial (.tmp rfl .nil)) (Sub.of_eq ?_) ⟨rfl, rfl⟩
            unfold tokV
            rw [ht]
            rfl
          | some v =>
            rw [hr] at g ht
            repeat (first | refine wK ?_ | refine awp_seq_k (fun K hK => ?_) | refine areg_text mixed tyok (by decide +kernel) ?_ | refine qal tyok (fun bx => ?_) | refine qbox (fun bx => ?_) | refine qboxV (fun bx => ?_) | refine TR.pcall rfl rfl rfl rfl True.intro rfl rfl (g) ?_ | refine pco rfl rfl rfl rfl rfl rfl rfl rfl (fun _ => g) ?_ | ((repeat ((fail_if_success (refine hK _ _ ?_)); clear hK)); refine hK _ _ ?_; clear hK))
            refine fnQ_ret 1 rfl (.cell rfl rfl (List.Mem.head _) rfl trivial (.tmp rfl .nil)) (Sub.of_eq ?_) ⟨rfl, rfl⟩
            unfold tokV
            rw [ht]
            rfl
        · rw [hl, hn] at ht
          repeat (first | refine wK ?_ | refine awp_seq_k (fun K hK => ?_) | refine areg_text mixed tyok (by decide +kernel) ?_ | refine qal tyok (fun bx => ?_) | refine qbox (fun bx => ?_) | refine qboxV (fun bx => ?_) | ((repeat ((fail_if_success (refine hK _ _ ?_)); clear hK)); refine hK _ _ ?_; clear hK))
          refine fnQ_ret 1 rfl (.cell rfl rfl (List.Mem.head _) rfl trivial (.tmp rfl .nil)) (Sub.of_eq ?_) ⟨rfl, rfl⟩
          unfold tokV
          rw [ht]
          rfl
      · rw [hl] at ht
        repeat (first | refine wK ?_ | refine awp_seq_k (fun K hK => ?_) | refine areg_text mixed tyok (by decide +kernel) ?_ | refine qal tyok (fun bx => ?_) | refine qbox (fun bx => ?_) | refine qboxV (fun bx => ?_) | ((repeat ((fail_if_success (refine hK _ _ ?_)); clear hK)); refine hK _ _ ?_; clear hK))
        refine fnQ_ret 1 rfl (.cell rfl rfl (List.Mem.head _) rfl trivial (.tmp rfl .nil)) (Sub.of_eq ?_) ⟨rfl, rfl⟩
        unfold tokV
        rw [ht]
        rfl

end Go.Proofs.YtjinaakebjfbiaaGreatDoor
