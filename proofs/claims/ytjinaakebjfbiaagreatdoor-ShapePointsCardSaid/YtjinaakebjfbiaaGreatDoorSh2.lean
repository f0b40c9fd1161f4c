/-
  The looker: a figure's arguments.
-/
import Derived.Test.YtjinaakebjfbiaaGreatDoorSh1
namespace Go.Proofs.YtjinaakebjfbiaaGreatDoor
open Go.Ab

/-- The place of the first one of which something is true; less than nought: none. -/
def idxP {α : Type} (p : α → Bool) : List α → Int
  | [] => -1
  | x :: l => if p x = true then 0 else if idxP p l < 0 then -1 else idxP p l + 1

theorem idxP_iff {α : Type} (p : α → Bool) : ∀ l : List α, 0 ≤ idxP p l ↔ l.any p = true
  | [] => by simp [idxP]
  | x :: l => by
    have ih := idxP_iff p l
    simp only [idxP, List.any_cons, Bool.or_eq_true]
    by_cases h : p x = true
    · rw [if_pos h]
      exact ⟨fun _ => .inl h, fun _ => by decide⟩
    · rw [if_neg h]
      by_cases h0 : idxP p l < 0
      · rw [if_pos h0]
        refine ⟨fun h1 => absurd h1 (by decide), fun h1 => ?_⟩
        have := ih.2 (h1.resolve_left h)
        omega
      · rw [if_neg h0]
        exact ⟨fun _ => .inr (ih.1 (by omega)), fun _ => by omega⟩
theorem idxP_any {α : Type} (p : α → Bool) (l : List α) : decide (0 ≤ idxP p l) = l.any p := by
  rw [Bool.eq_iff_iff, decide_eq_true_eq]
  exact idxP_iff p l

theorem idxP_hit {α : Type} [Inhabited α] (p : α → Bool) : ∀ (l : List α) (i : Nat), i < l.length → p (l.getD i default) = true → (∀ j, j < i → p (l.getD j default) = false) → idxP p l = i
  | x :: l, 0, _, h, _ => by
    simp only [idxP]
    rw [if_pos (by simpa using h)]
    rfl
  | x :: l, i + 1, hi, h, hn => by
    have h0 := hn 0 (by omega)
    have ih := idxP_hit p l i (by simpa using hi) (by simpa using h) (fun j hj => by simpa using hn (j + 1) (by omega))
    simp only [idxP]
    rw [if_neg (by simpa using h0), ih, if_neg (by omega)]
    omega

theorem idxP_miss {α : Type} [Inhabited α] (p : α → Bool) : ∀ (l : List α), (∀ j, j < l.length → p (l.getD j default) = false) → idxP p l = -1
  | [], _ => rfl
  | x :: l, hn => by
    have h0 := hn 0 (by simp)
    have ih := idxP_miss p l (fun j hj => by simpa using hn (j + 1) (by simpa using hj))
    simp only [idxP]
    rw [if_neg (by simpa using h0), ih, if_pos (by decide)]

theorem cbIxP : Callable Tryz.prog 173 := fun _ _ => by kernel_rfl
set_option maxHeartbeats 1600000 in
set_option maxRecDepth 100000 in
theorem indexP_c (xs : List (Int × Int)) (f : FuncId) (cap : List AV) (p : Int × Int → Bool) (hl : xs.length ≤ 1000000000) (hp : ∀ j, j < xs.length → PCalls Tryz.prog f (.agg (pairE (xs.getD j default)) :: cap) (.bool (p (xs.getD j default)))) :
    PCalls Tryz.prog 173 [sl pairE 2 xs .view, .func (.func f) [] cap] (.int .i64 (idxP p xs)) := by
  refine pcalls_of_awp tyok cbIxP Tryz.func173 rfl rfl ?_
  repeat (first | refine wK ?_ | refine awp_seq_k (fun K hK => ?_) | refine areg_text mixed tyok (by decide +kernel) ?_ | refine qal tyok (fun bx => ?_) | refine qbox (fun bx => ?_) | refine qboxV (fun bx => ?_) | ((repeat ((fail_if_success (refine hK _ _ ?_)); clear hK)); refine hK _ _ ?_; clear hK))
  refine awp_loop0 (ι := { i : Nat // i ≤ xs.length ∧ ∀ j, j < i → p (xs.getD j default) = false })
    (fun i => [(0, sl pairE 2 xs .view), (1, .func (.func f) [] cap), (7, .int .i64 xs.length), (8, .int .i64 i.1)]) (fun _ => []) (fun i => xs.length - i.1) ⟨0, Nat.zero_le _, fun j hj => absurd hj (by omega)⟩ ?_ (by (first | exact ⟨0, rfl⟩ | exact ⟨1, rfl⟩ | exact ⟨2, rfl⟩ | exact ⟨3, rfl⟩ | exact ⟨4, rfl⟩)) ?_
  · (repeat (first | exact True.intro | refine ⟨⟨_, rfl, Sub.refl _⟩, ?_⟩ | refine ⟨⟨_, rfl, Sub.nilso _ _⟩, ?_⟩ | refine ⟨⟨_, rfl, sl_tail _ _ _ _ _⟩, ?_⟩ | refine ⟨⟨_, rfl, Sub.of_eq (by first | rfl | (congr 1; first | omega | (simp only; omega)) | (simp; done) | (simp; omega))⟩, ?_⟩ | refine ⟨⟨_, rfl, Sub.view _ _ _ _⟩, ?_⟩))
  rintro ⟨i, hi, hn⟩
  simp only at hi hn ⊢
  by_cases hlt : i < xs.length
  · have hlt' : (i : Int) < xs.length := by omega
    have g : PCalls Tryz.prog f ([] ++ [.agg (pairE (xs.getD ((i : Int)).toNat default))] ++ cap) (.bool (p (xs.getD i default))) := hp i hlt
    repeat (first | refine wKB ?_ | refine awp_seq_k (fun K hK => ?_) | refine areg_text mixed tyok (by decide +kernel) ?_ | refine qal tyok (fun bx => ?_) | refine qbox (fun bx => ?_) | refine qboxV (fun bx => ?_) | refine TR.pcall rfl rfl rfl rfl True.intro rfl rfl (g) ?_ | refine pco rfl rfl rfl rfl rfl rfl rfl rfl (fun _ => g) ?_ | ((repeat ((fail_if_success (refine hK _ _ ?_)); clear hK)); refine hK _ _ ?_; clear hK))
    cases hb : p (xs.getD i default) with
    | true =>
      repeat (first | refine wK ?_ | refine awp_seq_k (fun K hK => ?_) | refine areg_text mixed tyok (by decide +kernel) ?_ | refine qal tyok (fun bx => ?_) | refine qbox (fun bx => ?_) | refine qboxV (fun bx => ?_) | ((repeat ((fail_if_success (refine hK _ _ ?_)); clear hK)); refine hK _ _ ?_; clear hK))
      refine r1 ?_
      exact Sub.of_eq (by rw [idxP_hit p xs i hlt hb hn])
    | false =>
      repeat (first | refine wK ?_ | refine awp_seq_k (fun K hK => ?_) | refine areg_text mixed tyok (by decide +kernel) ?_ | refine qal tyok (fun bx => ?_) | refine qbox (fun bx => ?_) | refine qboxV (fun bx => ?_) | ((repeat ((fail_if_success (refine hK _ _ ?_)); clear hK)); refine hK _ _ ?_; clear hK))
      refine ⟨⟨i + 1, hlt, fun j hj => ?_⟩, ?_, (by (first | exact ⟨0, rfl⟩ | exact ⟨1, rfl⟩ | exact ⟨2, rfl⟩ | exact ⟨3, rfl⟩ | exact ⟨4, rfl⟩)), ?_⟩
      · by_cases e : j = i
        · rw [e]; exact hb
        · exact hn j (by omega)
      · (repeat (first | exact True.intro | refine ⟨⟨_, rfl, Sub.refl _⟩, ?_⟩ | refine ⟨⟨_, rfl, Sub.nilso _ _⟩, ?_⟩ | refine ⟨⟨_, rfl, sl_tail _ _ _ _ _⟩, ?_⟩ | refine ⟨⟨_, rfl, Sub.of_eq (by first | rfl | (congr 1; first | omega | (simp only; omega)) | (simp; done) | (simp; omega))⟩, ?_⟩ | refine ⟨⟨_, rfl, Sub.view _ _ _ _⟩, ?_⟩))
      · simp only; omega
  · have hge : ¬ (i : Int) < xs.length := by omega
    repeat (first | refine wKB ?_ | refine awp_seq_k (fun K hK => ?_) | refine areg_text mixed tyok (by decide +kernel) ?_ | refine qal tyok (fun bx => ?_) | refine qbox (fun bx => ?_) | refine qboxV (fun bx => ?_) | ((repeat ((fail_if_success (refine hK _ _ ?_)); clear hK)); refine hK _ _ ?_; clear hK))
    refine r1 ?_
    exact Sub.of_eq (by rw [idxP_miss p xs fun j hj => hn j (by omega)])

theorem cbCtP : Callable Tryz.prog 161 := fun _ _ => by kernel_rfl
theorem containsP_c (xs : List (Int × Int)) (f : FuncId) (cap : List AV) (p : Int × Int → Bool) (hl : xs.length ≤ 1000000000) (hp : ∀ j, j < xs.length → PCalls Tryz.prog f (.agg (pairE (xs.getD j default)) :: cap) (.bool (p (xs.getD j default)))) :
    PCalls Tryz.prog 161 [sl pairE 2 xs .view, .func (.func f) [] cap] (.bool (xs.any p)) := by
  refine pcalls_of_awp tyok cbCtP Tryz.func161 rfl rfl ?_
  have g := indexP_c xs f cap p hl hp
  repeat (first | refine wK ?_ | refine awp_seq_k (fun K hK => ?_) | refine areg_text mixed tyok (by decide +kernel) ?_ | refine qal tyok (fun bx => ?_) | refine qbox (fun bx => ?_) | refine qboxV (fun bx => ?_) | refine TR.pcall rfl rfl rfl rfl True.intro rfl rfl (g) ?_ | refine pco rfl rfl rfl rfl rfl rfl rfl rfl (fun _ => g) ?_ | ((repeat ((fail_if_success (refine hK _ _ ?_)); clear hK)); refine hK _ _ ?_; clear hK))
  refine r1 ?_
  exact Sub.of_eq (congrArg AV.bool (idxP_any p xs))

theorem cbAr1 : Callable Tryz.prog 160 := fun _ _ => by kernel_rfl
set_option maxHeartbeats 1600000 in
set_option maxRecDepth 100000 in
theorem args1_c (u : Int × Int) (i : Nat) (x : StI) (t : TokI) (h0 : 0 ≤ u.1) (h1 : u.1 < u.2) (hi : i < x.args.length) :
    PCalls Tryz.prog 160 [.agg (pairE u), .rptr [.int .i64 i], .rptr (stmtEI x), .rptr (tokEI t)] (.bool (alike x.args i t.w u)) := by
  refine pcalls_of_awp tyok cbAr1 Tryz.func160 rfl rfl ?_
  by_cases h : u.2 = (i : Int)
  · have e : alike x.args i t.w u = ((x.args.getD u.1.toNat default).w == t.w) := by
      unfold alike
      rw [decide_eq_true h]
      rfl
    rw [e]
    ((repeat (first | refine wKB ?_ | refine awp_seq_k (fun K hK => ?_) | refine areg_text mixed tyok (by decide +kernel) ?_ | ((repeat ((fail_if_success (refine hK _ _ ?_)); clear hK)); refine hK _ _ ?_; clear hK))); ((first | refine qal tyok (fun b4 => ?_) | refine qbox (fun b4 => ?_) | refine qboxV (fun b4 => ?_))); (repeat (first | refine wKB ?_ | refine awp_seq_k (fun K hK => ?_) | refine areg_text mixed tyok (by decide +kernel) ?_ | refine qal tyok (fun bx => ?_) | refine qbox (fun bx => ?_) | refine qboxV (fun bx => ?_) | ((repeat ((fail_if_success (refine hK _ _ ?_)); clear hK)); refine hK _ _ ?_; clear hK))))
    refine r1 ?_
    exact Sub.refl _
  · have e : alike x.args i t.w u = false := by
      unfold alike
      rw [decide_eq_false h]
      rfl
    rw [e]
    ((repeat (first | refine wKB ?_ | refine awp_seq_k (fun K hK => ?_) | refine areg_text mixed tyok (by decide +kernel) ?_ | ((repeat ((fail_if_success (refine hK _ _ ?_)); clear hK)); refine hK _ _ ?_; clear hK))); ((first | refine qal tyok (fun b4 => ?_) | refine qbox (fun b4 => ?_) | refine qboxV (fun b4 => ?_))); (repeat (first | refine wKB ?_ | refine awp_seq_k (fun K hK => ?_) | refine areg_text mixed tyok (by decide +kernel) ?_ | refine qal tyok (fun bx => ?_) | refine qbox (fun bx => ?_) | refine qboxV (fun bx => ?_) | ((repeat ((fail_if_success (refine hK _ _ ?_)); clear hK)); refine hK _ _ ?_; clear hK))))
    refine r1 ?_
    exact Sub.refl _

/-- What a figure out of the tables is. -/
def figOk (f : FigR) : Bool := decide (0 ≤ f.pts ∧ f.pts ≤ 8 ∧ 0 ≤ f.nums ∧ f.nums ≤ 2) && (Nat.ble f.unl.length 3 && f.unl.all fun u => decide (0 ≤ u.1 ∧ u.1 < u.2 ∧ u.2 ≤ 8))
def rowsCk (R : List (List UInt8) → Option FigR) (t : List UInt8) : Bool := (rowsF t).all fun l => match R l with
  | none => true
  | some f => figOk f

set_option maxRecDepth 100000 in
theorem made_ck : rowsCk conR made21 = true := by decide +kernel
set_option maxRecDepth 100000 in
theorem asked_ck : rowsCk preR asked21 = true := by decide +kernel

theorem rowsCk_at {R : List (List UInt8) → Option FigR} {t w : List UInt8} {l : List (List UInt8)} {f : FigR} (h : rowsCk R t = true) (hr : rowF t w = some l) (hf : R l = some f) : figOk f = true := by
  have := List.all_eq_true.1 h l (rowG_mem hr)
  rw [hf] at this
  exact this

theorem fig0_con (w : List UInt8) : figOk (fig0 (conF w)) = true := by
  unfold conF
  cases hr : rowF made21 w with
  | none => rfl
  | some l =>
    simp only
    cases hf : conR l with
    | none => rfl
    | some f =>
      have := rowsCk_at made_ck hr hf
      exact this
theorem fig0_pre (w : List UInt8) : figOk (fig0 (preF w)) = true := by
  unfold preF
  cases hr : rowF asked21 w with
  | none => rfl
  | some l =>
    simp only
    cases hf : preR l with
    | none => rfl
    | some f =>
      have := rowsCk_at asked_ck hr hf
      exact this

theorem figOk_b {f : FigR} (h : figOk f = true) : 0 ≤ f.pts ∧ f.pts ≤ 8 ∧ 0 ≤ f.nums ∧ f.nums ≤ 2 := by
  simp only [figOk, Bool.and_eq_true, decide_eq_true_eq] at h
  exact h.1
theorem figOk_u {f : FigR} (h : figOk f = true) : f.unl.length ≤ 3 ∧ ∀ j, j < f.unl.length → 0 ≤ (f.unl.getD j default).1 ∧ (f.unl.getD j default).1 < (f.unl.getD j default).2 := by
  simp only [figOk, Bool.and_eq_true, decide_eq_true_eq, List.all_eq_true] at h
  refine ⟨Nat.le_of_ble_eq_true h.2.1, fun j hj => ?_⟩
  have := h.2.2 (f.unl.getD j default) (by rw [getD_at hj]; exact List.getElem_mem hj)
  exact ⟨this.1, this.2.1⟩

theorem argsG_end (f : FigR) (A : List TokI) (el ec : Int) (i : Nat) (s : LkR) : argsG f A el ec i [] s = s.meet (decide ((A.length : Int) < f.pts + f.nums)) 13 el ec := rfl
theorem argsG_many {f : FigR} {A : List TokI} {el ec : Int} {i : Nat} {t : TokI} {l : List TokI} {s : LkR} (h : f.pts + f.nums ≤ (i : Int)) : argsG f A el ec i (t :: l) s = s.meet true 13 t.ln t.co := by
  simp only [argsG]
  rw [if_pos h]
theorem argsG_num {f : FigR} {A : List TokI} {el ec : Int} {i : Nat} {t : TokI} {l : List TokI} {s : LkR} (h : ¬ f.pts + f.nums ≤ (i : Int)) (h2 : f.pts ≤ (i : Int)) : argsG f A el ec i (t :: l) s = argsG f A el ec (i + 1) l (numM f i t s) := by
  simp only [argsG]
  rw [if_neg h, if_pos h2]
theorem argsG_pt {f : FigR} {A : List TokI} {el ec : Int} {i : Nat} {t : TokI} {l : List TokI} {s : LkR} (h : ¬ f.pts + f.nums ≤ (i : Int)) (h2 : ¬ f.pts ≤ (i : Int)) : argsG f A el ec i (t :: l) s = argsG f A el ec (i + 1) l (ptM f A i t s) := by
  simp only [argsG]
  rw [if_neg h, if_neg h2]

theorem bne_dec (a b : Int) : (a != b) = decide (a ≠ b) := by
  by_cases h : a = b
  · simp [h]
  · simp [h]

theorem numM_true {f : FigR} {i : Nat} {t : TokI} {s : LkR} (h : (i : Int) = f.pts + f.nums - 1) : numM f i t s = (s.meet (t.k != 3) 14 t.ln t.co).meet (t.n == 0) 4 t.ln t.co := by
  unfold numM
  rw [decide_eq_true h, Bool.true_and, bne_dec]
  rfl
theorem numM_false {f : FigR} {i : Nat} {t : TokI} {s : LkR} (h : ¬ (i : Int) = f.pts + f.nums - 1) : numM f i t s = (s.meet (t.k != 3) 14 t.ln t.co).meet false 4 t.ln t.co := by
  unfold numM
  rw [decide_eq_false h, Bool.false_and, bne_dec]
theorem ptM_eq {f : FigR} {A : List TokI} {i : Nat} {t : TokI} {s : LkR} : ptM f A i t s = ((s.meet (t.k != 1) 14 t.ln t.co).meet (!(s.meet (t.k != 1) 14 t.ln t.co).ns.contains t.w) 5 t.ln t.co).meet (f.unl.any (alike A i t.w)) 15 t.ln t.co := by
  unfold ptM
  rw [meet_ns, bne_dec]

theorem cbArgs : Callable Tryz.prog 128 := fun _ _ => by kernel_rfl
set_option maxHeartbeats 6400000 in
set_option maxRecDepth 100000 in
theorem args_c (b m : Nat) (a : Option Addr) (cap : Nat) (s : LkR) (x : StI) (f : FigR) (hf : figOk f = true) (hx : x.args.length ≤ 10000000000000000) :
    ACalls Tryz.prog 128 [.ptr b 0, .agg (stmtEI x), .agg (figE f)] (lkH b m a cap s) (fun r H' => r = .ret (.tuple []) ∧ H' = lkH b m a cap (argsF f x s)) := by
  refine acalls_of_awp tyok cbArgs Tryz.func128 rfl rfl ?_
  obtain ⟨f1, f2, f3, f4⟩ := figOk_b hf
  obtain ⟨f5, f6⟩ := figOk_u hf
  ((repeat (first | refine wK ?_ | refine awp_seq_k (fun K hK => ?_) | refine areg_text mixed tyok (by decide +kernel) ?_ | ((repeat ((fail_if_success (refine hK _ _ ?_)); clear hK)); refine hK _ _ ?_; clear hK))); ((first | refine qal tyok (fun b4 => ?_) | refine qbox (fun b4 => ?_) | refine qboxV (fun b4 => ?_))); (repeat (first | refine wK ?_ | refine awp_seq_k (fun K hK => ?_) | refine areg_text mixed tyok (by decide +kernel) ?_ | ((repeat ((fail_if_success (refine hK _ _ ?_)); clear hK)); refine hK _ _ ?_; clear hK))); ((first | refine qal tyok (fun b5 => ?_) | refine qbox (fun b5 => ?_) | refine qboxV (fun b5 => ?_))))
  (((repeat (first | refine wT ?_ | refine qal tyok (fun bx => ?_) | refine qbox (fun bx => ?_) | refine qboxV (fun bx => ?_)))); repeat (first | (with_reducible refine pQ_normal ?_) | (with_reducible refine thenQ_normal ?_) | (with_reducible refine blockQ_normal ?_) | (with_reducible refine thenQ_exit ?_) | (with_reducible refine blockQ_hit ?_) | refine blockQ_miss rfl ?_ | (with_reducible refine thenQ_ret ?_) | (with_reducible refine blockQ_ret ?_) | (with_reducible refine pQ_panic ?_) | (with_reducible refine thenQ_panic ?_) | (with_reducible refine blockQ_panic ?_)); ((repeat ((fail_if_success (refine hK _ _ ?_)); clear hK)); refine hK _ _ ?_; clear hK))
  refine awp_freeze [_] (s := 4) rfl rfl ?_
  repeat (first | refine wKB ?_ | refine awp_seq_k (fun K hK => ?_) | refine areg_text mixed tyok (by decide +kernel) ?_ | refine qal tyok (fun bx => ?_) | refine qbox (fun bx => ?_) | refine qboxV (fun bx => ?_) | ((repeat ((fail_if_success (refine hK _ _ ?_)); clear hK)); refine hK _ _ ?_; clear hK))
  refine awp_loop0 (ι := { y : Nat × LkR // y.1 ≤ x.args.length ∧ argsG f x.args x.l2 x.c2 y.1 (x.args.drop y.1) y.2 = argsF f x s })
    (fun y => [(0, .ptr b 0), (4, .rptr (stmtEI x)), (5, .ptr b5 0), (6, .int .i64 (f.pts + f.nums)), (16, sl tokEI 5 x.args .view), (17, .int .i64 x.args.length), (18, .int .i64 y.1.1)])
    (fun y => .box b5 54 (.agg (figE f)) :: lkH b m a cap y.1.2) (fun y => x.args.length - y.1.1) ⟨(0, s), Nat.zero_le _, rfl⟩ (by (repeat (first | exact True.intro | refine ⟨⟨_, rfl, Sub.refl _⟩, ?_⟩ | refine ⟨⟨_, rfl, Sub.nilso _ _⟩, ?_⟩ | refine ⟨⟨_, rfl, sl_tail _ _ _ _ _⟩, ?_⟩ | refine ⟨⟨_, rfl, Sub.of_eq (by first | rfl | (congr 1; first | omega | (simp only; omega)) | (simp; done) | (simp; omega))⟩, ?_⟩ | refine ⟨⟨_, rfl, Sub.view _ _ _ _⟩, ?_⟩))) ⟨0, rfl⟩ ?_
  rintro ⟨⟨i, s1⟩, hi, hs1⟩
  simp only at hi hs1 ⊢
  by_cases hlt : i < x.args.length
  · have hlt' : (i : Int) < x.args.length := by omega
    rw [List.drop_eq_getElem_cons hlt, ← getD_at hlt] at hs1
    ((repeat (first | refine wKB ?_ | refine awp_seq_k (fun K hK => ?_) | refine areg_text mixed tyok (by decide +kernel) ?_ | ((repeat ((fail_if_success (refine hK _ _ ?_)); clear hK)); refine hK _ _ ?_; clear hK))); ((first | refine qal tyok (fun b7 => ?_) | refine qbox (fun b7 => ?_) | refine qboxV (fun b7 => ?_))); (repeat (first | refine wKB ?_ | refine awp_seq_k (fun K hK => ?_) | refine areg_text mixed tyok (by decide +kernel) ?_ | ((repeat ((fail_if_success (refine hK _ _ ?_)); clear hK)); refine hK _ _ ?_; clear hK))); ((first | refine qal tyok (fun b8 => ?_) | refine qbox (fun b8 => ?_) | refine qboxV (fun b8 => ?_))))
    (((repeat (first | refine wT ?_ | refine qal tyok (fun bx => ?_) | refine qbox (fun bx => ?_) | refine qboxV (fun bx => ?_)))); repeat (first | (with_reducible refine pQ_normal ?_) | (with_reducible refine thenQ_normal ?_) | (with_reducible refine blockQ_normal ?_) | (with_reducible refine thenQ_exit ?_) | (with_reducible refine blockQ_hit ?_) | refine blockQ_miss rfl ?_ | (with_reducible refine thenQ_ret ?_) | (with_reducible refine blockQ_ret ?_) | (with_reducible refine pQ_panic ?_) | (with_reducible refine thenQ_panic ?_) | (with_reducible refine blockQ_panic ?_)); ((repeat ((fail_if_success (refine hK _ _ ?_)); clear hK)); refine hK _ _ ?_; clear hK))
    refine awp_boxSub [] (v' := .agg (tokEI (x.args.getD i default))) (Sub.of_eq rfl) ?_
    refine awp_freeze [] (s := 8) rfl rfl ?_
    refine awp_freeze [] (s := 7) rfl rfl ?_
    generalize x.args.getD i default = t at hs1 ⊢
    by_cases hA : f.pts + f.nums ≤ (i : Int)
    · rw [argsG_many hA] at hs1
      repeat (first | refine wKB ?_ | refine awp_seq_k (fun K hK => ?_) | refine areg_text mixed tyok (by decide +kernel) ?_ | refine qal tyok (fun bx => ?_) | refine qbox (fun bx => ?_) | refine qboxV (fun bx => ?_) | ((repeat ((fail_if_success (refine hK _ _ ?_)); clear hK)); refine hK _ _ ?_; clear hK))
      refine qcallH (G := [_]) (meet_c b m a cap s1 true 13 t.ln t.co) ?_
      repeat (first | refine wKB ?_ | refine awp_seq_k (fun K hK => ?_) | refine areg_text mixed tyok (by decide +kernel) ?_ | refine qal tyok (fun bx => ?_) | refine qbox (fun bx => ?_) | refine qboxV (fun bx => ?_) | ((repeat ((fail_if_success (refine hK _ _ ?_)); clear hK)); refine hK _ _ ?_; clear hK))
      exact fnQ_ret 1 rfl .nil (Sub.refl _) ⟨rfl, by rw [← hs1]; rfl⟩
    by_cases hB : f.pts ≤ (i : Int)
    · rw [argsG_num hA hB] at hs1
      repeat (first | refine wKB ?_ | refine awp_seq_k (fun K hK => ?_) | refine areg_text mixed tyok (by decide +kernel) ?_ | refine qal tyok (fun bx => ?_) | refine qbox (fun bx => ?_) | refine qboxV (fun bx => ?_) | ((repeat ((fail_if_success (refine hK _ _ ?_)); clear hK)); refine hK _ _ ?_; clear hK))
      refine qcallH (G := [_]) (meet_c b m a cap s1 _ 14 t.ln t.co) ?_
      by_cases hC : (i : Int) = f.pts + f.nums - 1
      · repeat (first | refine wKB ?_ | refine awp_seq_k (fun K hK => ?_) | refine areg_text mixed tyok (by decide +kernel) ?_ | refine qal tyok (fun bx => ?_) | refine qbox (fun bx => ?_) | refine qboxV (fun bx => ?_) | ((repeat ((fail_if_success (refine hK _ _ ?_)); clear hK)); refine hK _ _ ?_; clear hK))
        refine qcallH (G := [_]) (meet_c b m a cap _ _ 4 t.ln t.co) ?_
        repeat (first | refine wKB ?_ | refine awp_seq_k (fun K hK => ?_) | refine areg_text mixed tyok (by decide +kernel) ?_ | refine qal tyok (fun bx => ?_) | refine qbox (fun bx => ?_) | refine qboxV (fun bx => ?_) | ((repeat ((fail_if_success (refine hK _ _ ?_)); clear hK)); refine hK _ _ ?_; clear hK))
        rw [numM_true hC] at hs1
        exact ⟨⟨(i + 1, _), hlt, hs1⟩, (by (repeat (first | exact True.intro | refine ⟨⟨_, rfl, Sub.refl _⟩, ?_⟩ | refine ⟨⟨_, rfl, Sub.nilso _ _⟩, ?_⟩ | refine ⟨⟨_, rfl, sl_tail _ _ _ _ _⟩, ?_⟩ | refine ⟨⟨_, rfl, Sub.of_eq (by first | rfl | (congr 1; first | omega | (simp only; omega)) | (simp; done) | (simp; omega))⟩, ?_⟩ | refine ⟨⟨_, rfl, Sub.view _ _ _ _⟩, ?_⟩))), ⟨0, rfl⟩, by simp only; omega⟩
      · repeat (first | refine wKB ?_ | refine awp_seq_k (fun K hK => ?_) | refine areg_text mixed tyok (by decide +kernel) ?_ | refine qal tyok (fun bx => ?_) | refine qbox (fun bx => ?_) | refine qboxV (fun bx => ?_) | ((repeat ((fail_if_success (refine hK _ _ ?_)); clear hK)); refine hK _ _ ?_; clear hK))
        refine qcallH (G := [_]) (meet_c b m a cap _ _ 4 t.ln t.co) ?_
        repeat (first | refine wKB ?_ | refine awp_seq_k (fun K hK => ?_) | refine areg_text mixed tyok (by decide +kernel) ?_ | refine qal tyok (fun bx => ?_) | refine qbox (fun bx => ?_) | refine qboxV (fun bx => ?_) | ((repeat ((fail_if_success (refine hK _ _ ?_)); clear hK)); refine hK _ _ ?_; clear hK))
        rw [numM_false hC] at hs1
        exact ⟨⟨(i + 1, _), hlt, hs1⟩, (by (repeat (first | exact True.intro | refine ⟨⟨_, rfl, Sub.refl _⟩, ?_⟩ | refine ⟨⟨_, rfl, Sub.nilso _ _⟩, ?_⟩ | refine ⟨⟨_, rfl, sl_tail _ _ _ _ _⟩, ?_⟩ | refine ⟨⟨_, rfl, Sub.of_eq (by first | rfl | (congr 1; first | omega | (simp only; omega)) | (simp; done) | (simp; omega))⟩, ?_⟩ | refine ⟨⟨_, rfl, Sub.view _ _ _ _⟩, ?_⟩))), ⟨0, rfl⟩, by simp only; omega⟩
    · rw [argsG_pt hA hB] at hs1
      repeat (first | refine wKB ?_ | refine awp_seq_k (fun K hK => ?_) | refine areg_text mixed tyok (by decide +kernel) ?_ | refine qal tyok (fun bx => ?_) | refine qbox (fun bx => ?_) | refine qboxV (fun bx => ?_) | ((repeat ((fail_if_success (refine hK _ _ ?_)); clear hK)); refine hK _ _ ?_; clear hK))
      refine qcallH (G := [_]) (meet_c b m a cap s1 _ 14 t.ln t.co) ?_
      repeat (first | refine wKB ?_ | refine awp_seq_k (fun K hK => ?_) | refine qal tyok (fun bx => ?_) | refine qbox (fun bx => ?_) | refine qboxV (fun bx => ?_) | ((repeat ((fail_if_success (refine hK _ _ ?_)); clear hK)); refine hK _ _ ?_; clear hK))
      refine areg_kept mixed tyok [(6, [])] [0, 1, 2, 3, 4, 5, 8, 9, 6, 7, 10] (by decide +kernel) ?_
      repeat (first | refine wKB ?_ | refine awp_seq_k (fun K hK => ?_) | refine areg_text mixed tyok (by decide +kernel) ?_ | refine qal tyok (fun bx => ?_) | refine qbox (fun bx => ?_) | refine qboxV (fun bx => ?_) | ((repeat ((fail_if_success (refine hK _ _ ?_)); clear hK)); refine hK _ _ ?_; clear hK))
      refine qcallH (G := [_]) (lkhas_c b m a cap _ t.w) ?_
      repeat (first | refine wKB ?_ | refine awp_seq_k (fun K hK => ?_) | refine areg_text mixed tyok (by decide +kernel) ?_ | refine qal tyok (fun bx => ?_) | refine qbox (fun bx => ?_) | refine qboxV (fun bx => ?_) | ((repeat ((fail_if_success (refine hK _ _ ?_)); clear hK)); refine hK _ _ ?_; clear hK))
      refine qcallH (G := [_]) (meet_c b m a cap _ _ 5 t.ln t.co) ?_
      have g := containsP_c f.unl 160 [.rptr [.int .i64 i], .rptr (stmtEI x), .rptr (tokEI t)] (alike x.args i t.w) (by omega) fun j hj => args1_c _ i x t (f6 j hj).1 (f6 j hj).2 hlt
      repeat (first | refine wKB ?_ | refine awp_seq_k (fun K hK => ?_) | refine qal tyok (fun bx => ?_) | refine qbox (fun bx => ?_) | refine qboxV (fun bx => ?_) | ((repeat ((fail_if_success (refine hK _ _ ?_)); clear hK)); refine hK _ _ ?_; clear hK))
      refine areg_kept mixed tyok [] [0, 1, 2, 3, 4, 5, 7, 8, 6, 9] (by decide +kernel) ?_
      repeat (first | refine wKB ?_ | refine awp_seq_k (fun K hK => ?_) | refine areg_text mixed tyok (by decide +kernel) ?_ | refine qal tyok (fun bx => ?_) | refine qbox (fun bx => ?_) | refine qboxV (fun bx => ?_) | refine TR.pcall rfl rfl rfl rfl True.intro rfl rfl (g) ?_ | refine pco rfl rfl rfl rfl rfl rfl rfl rfl (fun _ => g) ?_ | ((repeat ((fail_if_success (refine hK _ _ ?_)); clear hK)); refine hK _ _ ?_; clear hK))
      refine qcallH (G := [_]) (meet_c b m a cap _ _ 15 t.ln t.co) ?_
      repeat (first | refine wKB ?_ | refine awp_seq_k (fun K hK => ?_) | refine areg_text mixed tyok (by decide +kernel) ?_ | refine qal tyok (fun bx => ?_) | refine qbox (fun bx => ?_) | refine qboxV (fun bx => ?_) | ((repeat ((fail_if_success (refine hK _ _ ?_)); clear hK)); refine hK _ _ ?_; clear hK))
      rw [ptM_eq] at hs1
      exact ⟨⟨(i + 1, _), hlt, hs1⟩, (by (repeat (first | exact True.intro | refine ⟨⟨_, rfl, Sub.refl _⟩, ?_⟩ | refine ⟨⟨_, rfl, Sub.nilso _ _⟩, ?_⟩ | refine ⟨⟨_, rfl, sl_tail _ _ _ _ _⟩, ?_⟩ | refine ⟨⟨_, rfl, Sub.of_eq (by first | rfl | (congr 1; first | omega | (simp only; omega)) | (simp; done) | (simp; omega))⟩, ?_⟩ | refine ⟨⟨_, rfl, Sub.view _ _ _ _⟩, ?_⟩))), ⟨0, rfl⟩, by simp only; omega⟩
  · have hge : ¬ (i : Int) < x.args.length := by omega
    obtain rfl : i = x.args.length := by omega
    rw [List.drop_length, argsG_end] at hs1
    repeat (first | refine wKB ?_ | refine awp_seq_k (fun K hK => ?_) | refine areg_text mixed tyok (by decide +kernel) ?_ | refine qal tyok (fun bx => ?_) | refine qbox (fun bx => ?_) | refine qboxV (fun bx => ?_) | ((repeat ((fail_if_success (refine hK _ _ ?_)); clear hK)); refine hK _ _ ?_; clear hK))
    refine qcallH (G := [_]) (meet_c b m a cap s1 _ 13 x.l2 x.c2) ?_
    repeat (first | refine wKB ?_ | refine awp_seq_k (fun K hK => ?_) | refine areg_text mixed tyok (by decide +kernel) ?_ | refine qal tyok (fun bx => ?_) | refine qbox (fun bx => ?_) | refine qboxV (fun bx => ?_) | ((repeat ((fail_if_success (refine hK _ _ ?_)); clear hK)); refine hK _ _ ?_; clear hK))
    refine fnQ_ret 1 rfl .nil (Sub.refl _) ⟨rfl, ?_⟩
    rw [← hs1]
    rfl

end Go.Proofs.YtjinaakebjfbiaaGreatDoor
