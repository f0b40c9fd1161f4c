/-
  The printer: whether words are what their texts say; a statement's words; whether two scripts are the same; limits and mode.
-/
import Derived.Test.YtjinaakebjfbiaaGreatDoorLn
import Derived.Test.YtjinaakebjfbiaaGreatDoorShM
import Derived.Test.YtjinaakebjfbiaaGreatDoorAbC
import Derived.Test.YtjinaakebjfbiaaGreatDoorRsM
import Derived.Test.YtjinaakebjfbiaaGreatDoorBd
namespace Go.Proofs.YtjinaakebjfbiaaGreatDoor
open Go.Ab

/-- Is a word what its text says? -/
def wordOk (t : TokI) : Bool := match tokF t.w with
  | none => false
  | some (k, n) => k == t.k && n == t.n

theorem cbIsW : Callable Tryz.prog 57 := fun _ _ => by kernel_rfl
set_option maxHeartbeats 1600000 in
set_option maxRecDepth 100000 in
theorem isWord_c (t : TokI) (ht : t.w.length ≤ 1000000000) : PCalls Tryz.prog 57 [.agg (tokEI t)] (.bool (wordOk t)) := by
  refine pcalls_of_awp tyok cbIsW Tryz.func57 rfl rfl ?_
  have g := tok_c t.w ht
  unfold tokV at g
  unfold wordOk
  cases h : tokF t.w with
  | none =>
    rw [h] at g
    ((repeat (first | refine wKB ?_ | refine awp_seq_k (fun K hK => ?_) | refine areg_text mixed tyok (by decide +kernel) ?_ | refine TR.pcall rfl rfl rfl rfl True.intro rfl rfl (g) ?_ | refine pco rfl rfl rfl rfl rfl rfl rfl rfl (fun _ => g) ?_ | ((repeat ((fail_if_success (refine hK _ _ ?_)); clear hK)); refine hK _ _ ?_; clear hK))); ((first | refine qal tyok (fun b1 => ?_) | refine qbox (fun b1 => ?_) | refine qboxV (fun b1 => ?_))); (repeat (first | refine wKB ?_ | refine awp_seq_k (fun K hK => ?_) | refine areg_text mixed tyok (by decide +kernel) ?_ | refine TR.pcall rfl rfl rfl rfl True.intro rfl rfl (g) ?_ | refine pco rfl rfl rfl rfl rfl rfl rfl rfl (fun _ => g) ?_ | ((repeat ((fail_if_success (refine hK _ _ ?_)); clear hK)); refine hK _ _ ?_; clear hK))); ((first | refine qal tyok (fun b3 => ?_) | refine qbox (fun b3 => ?_) | refine qboxV (fun b3 => ?_))); (repeat (first | refine wKB ?_ | refine awp_seq_k (fun K hK => ?_) | refine areg_text mixed tyok (by decide +kernel) ?_ | refine qal tyok (fun bx => ?_) | refine qbox (fun bx => ?_) | refine qboxV (fun bx => ?_) | refine TR.pcall rfl rfl rfl rfl True.intro rfl rfl (g) ?_ | refine pco rfl rfl rfl rfl rfl rfl rfl rfl (fun _ => g) ?_ | ((repeat ((fail_if_success (refine hK _ _ ?_)); clear hK)); refine hK _ _ ?_; clear hK))))
    refine r1 ?_
    exact Sub.refl _
  | some q =>
    obtain ⟨k, n⟩ := q
    rw [h] at g
    ((repeat (first | refine wKB ?_ | refine awp_seq_k (fun K hK => ?_) | refine areg_text mixed tyok (by decide +kernel) ?_ | refine TR.pcall rfl rfl rfl rfl True.intro rfl rfl (g) ?_ | refine pco rfl rfl rfl rfl rfl rfl rfl rfl (fun _ => g) ?_ | ((repeat ((fail_if_success (refine hK _ _ ?_)); clear hK)); refine hK _ _ ?_; clear hK))); ((first | refine qal tyok (fun b1 => ?_) | refine qbox (fun b1 => ?_) | refine qboxV (fun b1 => ?_))); (repeat (first | refine wKB ?_ | refine awp_seq_k (fun K hK => ?_) | refine areg_text mixed tyok (by decide +kernel) ?_ | refine TR.pcall rfl rfl rfl rfl True.intro rfl rfl (g) ?_ | refine pco rfl rfl rfl rfl rfl rfl rfl rfl (fun _ => g) ?_ | ((repeat ((fail_if_success (refine hK _ _ ?_)); clear hK)); refine hK _ _ ?_; clear hK))); ((first | refine qal tyok (fun b3 => ?_) | refine qbox (fun b3 => ?_) | refine qboxV (fun b3 => ?_))); (repeat (first | refine wKB ?_ | refine awp_seq_k (fun K hK => ?_) | refine areg_text mixed tyok (by decide +kernel) ?_ | refine qal tyok (fun bx => ?_) | refine qbox (fun bx => ?_) | refine qboxV (fun bx => ?_) | refine TR.pcall rfl rfl rfl rfl True.intro rfl rfl (g) ?_ | refine pco rfl rfl rfl rfl rfl rfl rfl rfl (fun _ => g) ?_ | ((repeat ((fail_if_success (refine hK _ _ ?_)); clear hK)); refine hK _ _ ?_; clear hK))))
    refine r1 ?_
    exact Sub.refl _

/-- The words of a statement that its line has. -/
def wordsL (x : StI) : List TokI := (if x.k = 4 then [x.new] else []) ++ (if x.k = 2 ∨ x.k = 4 ∨ x.k = 5 then [x.word] else []) ++ (if x.k = 2 then [] else x.args)

theorem cbWordsP : Callable Tryz.prog 55 := fun _ _ => by kernel_rfl
set_option maxHeartbeats 3200000 in
set_option maxRecDepth 100000 in
theorem pwords_c (x : StI) (hx : x.args.length ≤ 2000000) : PCalls Tryz.prog 55 [.agg (stmtEI x)] (sl tokEI 5 (wordsL x) .view) := by
  refine pcalls_of_awp tyok cbWordsP Tryz.func55 rfl rfl ?_
  ((repeat (first | refine wK ?_ | refine awp_seq_k (fun K hK => ?_) | refine areg_text mixed tyok (by decide +kernel) ?_ | ((repeat ((fail_if_success (refine hK _ _ ?_)); clear hK)); refine hK _ _ ?_; clear hK))); ((first | refine qal tyok (fun b1 => ?_) | refine qbox (fun b1 => ?_) | refine qboxV (fun b1 => ?_))))
  (((repeat (first | refine wT ?_ | refine qal tyok (fun bx => ?_) | refine qbox (fun bx => ?_) | refine qboxV (fun bx => ?_)))); repeat (first | (with_reducible refine pQ_normal ?_) | (with_reducible refine thenQ_normal ?_) | (with_reducible refine blockQ_normal ?_) | (with_reducible refine thenQ_exit ?_) | (with_reducible refine blockQ_hit ?_) | refine blockQ_miss rfl ?_ | (with_reducible refine thenQ_ret ?_) | (with_reducible refine blockQ_ret ?_) | (with_reducible refine pQ_panic ?_) | (with_reducible refine thenQ_panic ?_) | (with_reducible refine blockQ_panic ?_)); ((repeat ((fail_if_success (refine hK _ _ ?_)); clear hK)); refine hK _ _ ?_; clear hK))
  (refine awp_seq_k (fun K hK => ?_); refine awp_region tyok ?_; ((repeat (first | refine wT ?_ | refine qal tyok (fun bx => ?_) | refine qbox (fun bx => ?_) | refine qboxV (fun bx => ?_)))); repeat (first | (with_reducible refine pQ_normal ?_) | (with_reducible refine thenQ_normal ?_) | (with_reducible refine blockQ_normal ?_) | (with_reducible refine thenQ_exit ?_) | (with_reducible refine blockQ_hit ?_) | refine blockQ_miss rfl ?_ | (with_reducible refine thenQ_ret ?_) | (with_reducible refine blockQ_ret ?_) | (with_reducible refine pQ_panic ?_) | (with_reducible refine thenQ_panic ?_) | (with_reducible refine blockQ_panic ?_)); ((repeat ((fail_if_success (refine hK _ _ ?_)); clear hK)); refine hK _ _ ?_; clear hK))
  refine awp_weaken (T' := [(3, sl tokEI 5 [] (.own none 0)), (1, .ptr b1 0)]) (Weak.spec (by (repeat (first | exact True.intro | refine ⟨⟨_, rfl, Sub.refl _⟩, ?_⟩ | refine ⟨⟨_, rfl, Sub.nilso _ _⟩, ?_⟩ | refine ⟨⟨_, rfl, sl_tail _ _ _ _ _⟩, ?_⟩ | refine ⟨⟨_, rfl, Sub.of_eq (by first | rfl | (congr 1; first | omega | (simp only; omega)) | (simp; done) | (simp; omega))⟩, ?_⟩ | refine ⟨⟨_, rfl, Sub.view _ _ _ _⟩, ?_⟩)))) ?_
  refine awp_tok0 5 44 ?_
  by_cases h4 : x.k = 4
  · have e : wordsL x = [x.new, x.word] ++ x.args := by
      unfold wordsL
      rw [if_pos h4, if_pos (by omega), if_neg (by omega)]
      rfl
    repeat (first | refine wKB ?_ | refine awp_seq_k (fun K hK => ?_) | refine areg_text mixed tyok (by decide +kernel) ?_ | refine qal tyok (fun bx => ?_) | refine qbox (fun bx => ?_) | refine qboxV (fun bx => ?_) | ((repeat ((fail_if_success (refine hK _ _ ?_)); clear hK)); refine hK _ _ ?_; clear hK))
    refine qapp tyok tokEI [] x.new (SubL.refl _) ?_ fun a1 c1 => ?_
    · decide
    repeat (first | refine wKB ?_ | refine awp_seq_k (fun K hK => ?_) | refine areg_text mixed tyok (by decide +kernel) ?_ | refine qal tyok (fun bx => ?_) | refine qbox (fun bx => ?_) | refine qboxV (fun bx => ?_) | ((repeat ((fail_if_success (refine hK _ _ ?_)); clear hK)); refine hK _ _ ?_; clear hK))
    refine qapp tyok tokEI [x.new] x.word (SubL.refl _) ?_ fun a2 c2 => ?_
    · simp only [List.length_cons, List.length_nil]
      decide
    repeat (first | refine wKB ?_ | refine awp_seq_k (fun K hK => ?_) | refine areg_text mixed tyok (by decide +kernel) ?_ | refine qal tyok (fun bx => ?_) | refine qbox (fun bx => ?_) | refine qboxV (fun bx => ?_) | ((repeat ((fail_if_success (refine hK _ _ ?_)); clear hK)); refine hK _ _ ?_; clear hK))
    refine qappL tyok tokEI [x.new, x.word] x.args (fun i _ => SubL.refl _) ?_ fun a3 c3 => ?_
    · simp only [List.length_cons, List.length_nil]
      omega
    repeat (first | refine wKB ?_ | refine awp_seq_k (fun K hK => ?_) | refine areg_text mixed tyok (by decide +kernel) ?_ | refine qal tyok (fun bx => ?_) | refine qbox (fun bx => ?_) | refine qboxV (fun bx => ?_) | ((repeat ((fail_if_success (refine hK _ _ ?_)); clear hK)); refine hK _ _ ?_; clear hK))
    refine fnQ_ret 2 rfl (.tmp rfl .nil) ?_ ⟨rfl, rfl⟩
    rw [e]
    exact Sub.view _ _ _ _
  by_cases h2 : x.k = 2
  · have e : wordsL x = [x.word] := by
      unfold wordsL
      rw [if_neg h4, if_pos (by omega), if_pos h2]
      rfl
    repeat (first | refine wKB ?_ | refine awp_seq_k (fun K hK => ?_) | refine areg_text mixed tyok (by decide +kernel) ?_ | refine qal tyok (fun bx => ?_) | refine qbox (fun bx => ?_) | refine qboxV (fun bx => ?_) | ((repeat ((fail_if_success (refine hK _ _ ?_)); clear hK)); refine hK _ _ ?_; clear hK))
    refine qapp tyok tokEI [] x.word (SubL.refl _) ?_ fun a1 c1 => ?_
    · decide
    repeat (first | refine wKB ?_ | refine awp_seq_k (fun K hK => ?_) | refine areg_text mixed tyok (by decide +kernel) ?_ | refine qal tyok (fun bx => ?_) | refine qbox (fun bx => ?_) | refine qboxV (fun bx => ?_) | ((repeat ((fail_if_success (refine hK _ _ ?_)); clear hK)); refine hK _ _ ?_; clear hK))
    refine fnQ_ret 2 rfl (.tmp rfl .nil) ?_ ⟨rfl, rfl⟩
    rw [e]
    exact Sub.view _ _ _ _
  by_cases h5 : x.k = 5
  · have e : wordsL x = [x.word] ++ x.args := by
      unfold wordsL
      rw [if_neg h4, if_pos (by omega), if_neg (by omega)]
      rfl
    repeat (first | refine wKB ?_ | refine awp_seq_k (fun K hK => ?_) | refine areg_text mixed tyok (by decide +kernel) ?_ | refine qal tyok (fun bx => ?_) | refine qbox (fun bx => ?_) | refine qboxV (fun bx => ?_) | ((repeat ((fail_if_success (refine hK _ _ ?_)); clear hK)); refine hK _ _ ?_; clear hK))
    refine qapp tyok tokEI [] x.word (SubL.refl _) ?_ fun a1 c1 => ?_
    · decide
    repeat (first | refine wKB ?_ | refine awp_seq_k (fun K hK => ?_) | refine areg_text mixed tyok (by decide +kernel) ?_ | refine qal tyok (fun bx => ?_) | refine qbox (fun bx => ?_) | refine qboxV (fun bx => ?_) | ((repeat ((fail_if_success (refine hK _ _ ?_)); clear hK)); refine hK _ _ ?_; clear hK))
    refine qappL tyok tokEI [x.word] x.args (fun i _ => SubL.refl _) ?_ fun a3 c3 => ?_
    · simp only [List.length_cons, List.length_nil]
      omega
    repeat (first | refine wKB ?_ | refine awp_seq_k (fun K hK => ?_) | refine areg_text mixed tyok (by decide +kernel) ?_ | refine qal tyok (fun bx => ?_) | refine qbox (fun bx => ?_) | refine qboxV (fun bx => ?_) | ((repeat ((fail_if_success (refine hK _ _ ?_)); clear hK)); refine hK _ _ ?_; clear hK))
    refine fnQ_ret 2 rfl (.tmp rfl .nil) ?_ ⟨rfl, rfl⟩
    rw [e]
    exact Sub.view _ _ _ _
  · have e : wordsL x = [] ++ x.args := by
      unfold wordsL
      rw [if_neg h4, if_neg (by omega), if_neg h2]
      rfl
    repeat (first | refine wKB ?_ | refine awp_seq_k (fun K hK => ?_) | refine areg_text mixed tyok (by decide +kernel) ?_ | refine qal tyok (fun bx => ?_) | refine qbox (fun bx => ?_) | refine qboxV (fun bx => ?_) | ((repeat ((fail_if_success (refine hK _ _ ?_)); clear hK)); refine hK _ _ ?_; clear hK))
    refine qappL tyok tokEI [] x.args (fun i _ => SubL.refl _) ?_ fun a3 c3 => ?_
    · simp only [List.length_nil]
      omega
    repeat (first | refine wKB ?_ | refine awp_seq_k (fun K hK => ?_) | refine areg_text mixed tyok (by decide +kernel) ?_ | refine qal tyok (fun bx => ?_) | refine qbox (fun bx => ?_) | refine qboxV (fun bx => ?_) | ((repeat ((fail_if_success (refine hK _ _ ?_)); clear hK)); refine hK _ _ ?_; clear hK))
    refine fnQ_ret 2 rfl (.tmp rfl .nil) ?_ ⟨rfl, rfl⟩
    rw [e]
    exact Sub.view _ _ _ _

theorem cbFullP : Callable Tryz.prog 28 := fun _ _ => by kernel_rfl
set_option maxHeartbeats 1600000 in
set_option maxRecDepth 100000 in
theorem full_c (l : List StI) (hl : l.length ≤ 10000000000000000) (hA : ∀ x ∈ l, x.args.length ≤ 10000000000000000) :
    PCalls Tryz.prog 28 [stmtsI l] (.bool (decide ((lookF l).e = 0) && ((l.getD 1 default).word.w == wFull))) := by
  refine pcalls_of_awp tyok cbFullP Tryz.func28 rfl rfl ?_
  have g := check_c l hl hA
  by_cases h : (lookF l).e = 0
  · have h3 := (lookF_id h).1
    have h1 : (1 : Int) < l.length := by omega
    rw [decide_eq_true h, Bool.true_and]
    ((repeat (first | refine wKB ?_ | refine awp_seq_k (fun K hK => ?_) | refine areg_text mixed tyok (by decide +kernel) ?_ | refine TR.pcall rfl rfl rfl rfl True.intro rfl rfl (g) ?_ | refine pco rfl rfl rfl rfl rfl rfl rfl rfl (fun _ => g) ?_ | ((repeat ((fail_if_success (refine hK _ _ ?_)); clear hK)); refine hK _ _ ?_; clear hK))); ((first | refine qal tyok (fun b3 => ?_) | refine qbox (fun b3 => ?_) | refine qboxV (fun b3 => ?_))); (repeat (first | refine wKB ?_ | refine awp_seq_k (fun K hK => ?_) | refine areg_text mixed tyok (by decide +kernel) ?_ | refine qal tyok (fun bx => ?_) | refine qbox (fun bx => ?_) | refine qboxV (fun bx => ?_) | refine TR.pcall rfl rfl rfl rfl True.intro rfl rfl (g) ?_ | refine pco rfl rfl rfl rfl rfl rfl rfl rfl (fun _ => g) ?_ | ((repeat ((fail_if_success (refine hK _ _ ?_)); clear hK)); refine hK _ _ ?_; clear hK))))
    refine r1 ?_
    exact Sub.refl _
  · rw [decide_eq_false h, Bool.false_and]
    ((repeat (first | refine wKB ?_ | refine awp_seq_k (fun K hK => ?_) | refine areg_text mixed tyok (by decide +kernel) ?_ | refine TR.pcall rfl rfl rfl rfl True.intro rfl rfl (g) ?_ | refine pco rfl rfl rfl rfl rfl rfl rfl rfl (fun _ => g) ?_ | ((repeat ((fail_if_success (refine hK _ _ ?_)); clear hK)); refine hK _ _ ?_; clear hK))); ((first | refine qal tyok (fun b3 => ?_) | refine qbox (fun b3 => ?_) | refine qboxV (fun b3 => ?_))); (repeat (first | refine wKB ?_ | refine awp_seq_k (fun K hK => ?_) | refine areg_text mixed tyok (by decide +kernel) ?_ | refine qal tyok (fun bx => ?_) | refine qbox (fun bx => ?_) | refine qboxV (fun bx => ?_) | refine TR.pcall rfl rfl rfl rfl True.intro rfl rfl (g) ?_ | refine pco rfl rfl rfl rfl rfl rfl rfl rfl (fun _ => g) ?_ | ((repeat ((fail_if_success (refine hK _ _ ?_)); clear hK)); refine hK _ _ ?_; clear hK))))
    refine r1 ?_
    exact Sub.refl _

/-- A script's limits. -/
noncomputable def limsV (l : List StI) : AV := match decide ((lookF l).e = 0) with
  | true => .agg [.int .i64 ((l.getD 0 default).args.getD 0 default).n, .int .i64 ((l.getD 0 default).args.getD 1 default).n, .int .i64 ((l.getD 0 default).args.getD 2 default).n, .int .i64 ((l.getD 0 default).args.getD 3 default).n]
  | false => .agg [.int .i64 0, .int .i64 0, .int .i64 0, .int .i64 0]

theorem cbLimsP : Callable Tryz.prog 29 := fun _ _ => by kernel_rfl
set_option maxHeartbeats 1600000 in
set_option maxRecDepth 100000 in
theorem plimits_c (l : List StI) (hl : l.length ≤ 10000000000000000) (hA : ∀ x ∈ l, x.args.length ≤ 10000000000000000) :
    PCalls Tryz.prog 29 [stmtsI l] (limsV l) := by
  refine pcalls_of_awp tyok cbLimsP Tryz.func29 rfl rfl ?_
  have g := check_c l hl hA
  by_cases h : (lookF l).e = 0
  · obtain ⟨h3, _, _, _, hp⟩ := lookF_id h
    have h0 : (0 : Int) < l.length := by omega
    have h4 : (l.getD 0 default).args.length = 4 := by
      have := ((place_k (hp 0 (by omega)).1).1 rfl).2
      rw [getD_at (by omega)]
      exact this
    have h4' : ((l.getD ((0 : Int)).toNat default).args.length : Int) = 4 := congrArg Int.ofNat h4
    ((repeat (first | refine wKB ?_ | refine awp_seq_k (fun K hK => ?_) | refine areg_text mixed tyok (by decide +kernel) ?_ | refine TR.pcall rfl rfl rfl rfl True.intro rfl rfl (g) ?_ | refine pco rfl rfl rfl rfl rfl rfl rfl rfl (fun _ => g) ?_ | ((repeat ((fail_if_success (refine hK _ _ ?_)); clear hK)); refine hK _ _ ?_; clear hK))); ((first | refine qal tyok (fun b2 => ?_) | refine qbox (fun b2 => ?_) | refine qboxV (fun b2 => ?_))); (repeat (first | refine wKB ?_ | refine awp_seq_k (fun K hK => ?_) | refine areg_text mixed tyok (by decide +kernel) ?_ | refine TR.pcall rfl rfl rfl rfl True.intro rfl rfl (g) ?_ | refine pco rfl rfl rfl rfl rfl rfl rfl rfl (fun _ => g) ?_ | ((repeat ((fail_if_success (refine hK _ _ ?_)); clear hK)); refine hK _ _ ?_; clear hK))); ((first | refine qal tyok (fun b3 => ?_) | refine qbox (fun b3 => ?_) | refine qboxV (fun b3 => ?_))); (repeat (first | refine wKB ?_ | refine awp_seq_k (fun K hK => ?_) | refine areg_text mixed tyok (by decide +kernel) ?_ | refine qal tyok (fun bx => ?_) | refine qbox (fun bx => ?_) | refine qboxV (fun bx => ?_) | refine TR.pcall rfl rfl rfl rfl True.intro rfl rfl (g) ?_ | refine pco rfl rfl rfl rfl rfl rfl rfl rfl (fun _ => g) ?_ | ((repeat ((fail_if_success (refine hK _ _ ?_)); clear hK)); refine hK _ _ ?_; clear hK))))
    refine fnQ_ret 2 rfl (.cell rfl rfl (List.mem_of_getElem? (i := 1) rfl) rfl trivial .nil) ?_ ⟨rfl, rfl⟩
    unfold limsV
    rw [decide_eq_true h]
    exact Sub.refl _
  · ((repeat (first | refine wKB ?_ | refine awp_seq_k (fun K hK => ?_) | refine areg_text mixed tyok (by decide +kernel) ?_ | refine TR.pcall rfl rfl rfl rfl True.intro rfl rfl (g) ?_ | refine pco rfl rfl rfl rfl rfl rfl rfl rfl (fun _ => g) ?_ | ((repeat ((fail_if_success (refine hK _ _ ?_)); clear hK)); refine hK _ _ ?_; clear hK))); ((first | refine qal tyok (fun b2 => ?_) | refine qbox (fun b2 => ?_) | refine qboxV (fun b2 => ?_))); (repeat (first | refine wKB ?_ | refine awp_seq_k (fun K hK => ?_) | refine areg_text mixed tyok (by decide +kernel) ?_ | refine TR.pcall rfl rfl rfl rfl True.intro rfl rfl (g) ?_ | refine pco rfl rfl rfl rfl rfl rfl rfl rfl (fun _ => g) ?_ | ((repeat ((fail_if_success (refine hK _ _ ?_)); clear hK)); refine hK _ _ ?_; clear hK))); ((first | refine qal tyok (fun b3 => ?_) | refine qbox (fun b3 => ?_) | refine qboxV (fun b3 => ?_))); (repeat (first | refine wKB ?_ | refine awp_seq_k (fun K hK => ?_) | refine areg_text mixed tyok (by decide +kernel) ?_ | refine qal tyok (fun bx => ?_) | refine qbox (fun bx => ?_) | refine qboxV (fun bx => ?_) | refine TR.pcall rfl rfl rfl rfl True.intro rfl rfl (g) ?_ | refine pco rfl rfl rfl rfl rfl rfl rfl rfl (fun _ => g) ?_ | ((repeat ((fail_if_success (refine hK _ _ ?_)); clear hK)); refine hK _ _ ?_; clear hK))))
    refine fnQ_ret 2 rfl (.cell rfl rfl (List.mem_of_getElem? (i := 1) rfl) rfl trivial .nil) ?_ ⟨rfl, rfl⟩
    unfold limsV
    rw [decide_eq_false h]
    exact Sub.refl _

theorem cbIxT : Callable Tryz.prog 85 := fun _ _ => by kernel_rfl
set_option maxHeartbeats 1600000 in
set_option maxRecDepth 100000 in
theorem indexT_c (xs : List TokI) (f : FuncId) (p : TokI → Bool) (hl : xs.length ≤ 1000000000) (hp : ∀ j, j < xs.length → PCalls Tryz.prog f [.agg (tokEI (xs.getD j default))] (.bool (p (xs.getD j default)))) :
    PCalls Tryz.prog 85 [sl tokEI 5 xs .view, .func (.func f) [] []] (.int .i64 (idxP p xs)) := by
  refine pcalls_of_awp tyok cbIxT Tryz.func85 rfl rfl ?_
  repeat (first | refine wK ?_ | refine awp_seq_k (fun K hK => ?_) | refine areg_text mixed tyok (by decide +kernel) ?_ | refine qal tyok (fun bx => ?_) | refine qbox (fun bx => ?_) | refine qboxV (fun bx => ?_) | ((repeat ((fail_if_success (refine hK _ _ ?_)); clear hK)); refine hK _ _ ?_; clear hK))
  refine awp_loop0 (ι := { i : Nat // i ≤ xs.length ∧ ∀ j, j < i → p (xs.getD j default) = false })
    (fun i => [(0, sl tokEI 5 xs .view), (1, .func (.func f) [] []), (7, .int .i64 xs.length), (8, .int .i64 i.1)]) (fun _ => []) (fun i => xs.length - i.1) ⟨0, Nat.zero_le _, fun j hj => absurd hj (by omega)⟩ ?_ (by (first | exact ⟨0, rfl⟩ | exact ⟨1, rfl⟩ | exact ⟨2, rfl⟩ | exact ⟨3, rfl⟩ | exact ⟨4, rfl⟩)) ?_
  · (repeat (first | exact True.intro | refine ⟨⟨_, rfl, Sub.refl _⟩, ?_⟩ | refine ⟨⟨_, rfl, Sub.nilso _ _⟩, ?_⟩ | refine ⟨⟨_, rfl, sl_tail _ _ _ _ _⟩, ?_⟩ | refine ⟨⟨_, rfl, Sub.of_eq (by first | rfl | (congr 1; first | omega | (simp only; omega)) | (simp; done) | (simp; omega))⟩, ?_⟩ | refine ⟨⟨_, rfl, Sub.view _ _ _ _⟩, ?_⟩))
  rintro ⟨i, hi, hn⟩
  simp only at hi hn ⊢
  by_cases hlt : i < xs.length
  · have hlt' : (i : Int) < xs.length := by omega
    have g : PCalls Tryz.prog f ([] ++ [.agg (tokEI (xs.getD ((i : Int)).toNat default))] ++ []) (.bool (p (xs.getD i default))) := hp i hlt
    repeat (first | refine wKB ?_ | refine awp_seq_k (fun K hK => ?_) | refine areg_text mixed tyok (by decide +kernel) ?_ | refine qal tyok (fun bx => ?_) | refine qbox (fun bx => ?_) | refine qboxV (fun bx => ?_) | refine TR.pcall rfl rfl rfl rfl True.intro rfl rfl (g) ?_ | refine pco rfl rfl rfl rfl rfl rfl rfl rfl (fun _ => g) ?_ | ((repeat ((fail_if_success (refine hK _ _ ?_)); clear hK)); refine hK _ _ ?_; clear hK))
    cases hb : p (xs.getD i default) with
    | true =>
      repeat (first | refine wK ?_ | refine awp_seq_k (fun K hK => ?_) | refine areg_text mixed tyok (by decide +kernel) ?_ | refine qal tyok (fun bx => ?_) | refine qbox (fun bx => ?_) | refine qboxV (fun bx => ?_) | ((repeat ((fail_if_success (refine hK _ _ ?_)); clear hK)); refine hK _ _ ?_; clear hK))
      refine r1 ?_
      exact Sub.of_eq (by rw [idxP_hit p xs i hlt hb hn])
    | false =>
      repeat (first | refine wK ?_ | refine awp_seq_k (fun K hK => ?_) | refine areg_text mixed tyok (by decide +kernel) ?_ | refine qal tyok (fun bx => ?_) | refine qbox (fun bx => ?_) | refine qboxV (fun bx => ?_) | ((repeat ((fail_if_success (refine hK _ _ ?_)); clear hK)); refine hK _ _ ?_; clear hK))
      refine ⟨⟨i + 1, hlt, fun j hj => ?_⟩, ?_, (by (first | exact ⟨0, rfl⟩ | exact ⟨1, rfl⟩ | exact ⟨2, rfl⟩ | exact ⟨3, rfl⟩ | exact ⟨4, rfl⟩)), ?_⟩
      · by_cases e : j = i
        · rw [e]; exact hb
        · exact hn j (by omega)
      · (repeat (first | exact True.intro | refine ⟨⟨_, rfl, Sub.refl _⟩, ?_⟩ | refine ⟨⟨_, rfl, Sub.nilso _ _⟩, ?_⟩ | refine ⟨⟨_, rfl, sl_tail _ _ _ _ _⟩, ?_⟩ | refine ⟨⟨_, rfl, Sub.of_eq (by first | rfl | (congr 1; first | omega | (simp only; omega)) | (simp; done) | (simp; omega))⟩, ?_⟩ | refine ⟨⟨_, rfl, Sub.view _ _ _ _⟩, ?_⟩))
      · simp only; omega
  · have hge : ¬ (i : Int) < xs.length := by omega
    repeat (first | refine wKB ?_ | refine awp_seq_k (fun K hK => ?_) | refine areg_text mixed tyok (by decide +kernel) ?_ | refine qal tyok (fun bx => ?_) | refine qbox (fun bx => ?_) | refine qboxV (fun bx => ?_) | ((repeat ((fail_if_success (refine hK _ _ ?_)); clear hK)); refine hK _ _ ?_; clear hK))
    refine r1 ?_
    exact Sub.of_eq (by rw [idxP_miss p xs fun j hj => hn j (by omega)])

theorem cbCtT : Callable Tryz.prog 54 := fun _ _ => by kernel_rfl
theorem containsT_c (xs : List TokI) (f : FuncId) (p : TokI → Bool) (hl : xs.length ≤ 1000000000) (hp : ∀ j, j < xs.length → PCalls Tryz.prog f [.agg (tokEI (xs.getD j default))] (.bool (p (xs.getD j default)))) :
    PCalls Tryz.prog 54 [sl tokEI 5 xs .view, .func (.func f) [] []] (.bool (xs.any p)) := by
  refine pcalls_of_awp tyok cbCtT Tryz.func54 rfl rfl ?_
  have g := indexT_c xs f p hl hp
  repeat (first | refine wK ?_ | refine awp_seq_k (fun K hK => ?_) | refine areg_text mixed tyok (by decide +kernel) ?_ | refine qal tyok (fun bx => ?_) | refine qbox (fun bx => ?_) | refine qboxV (fun bx => ?_) | refine TR.pcall rfl rfl rfl rfl True.intro rfl rfl (g) ?_ | refine pco rfl rfl rfl rfl rfl rfl rfl rfl (fun _ => g) ?_ | ((repeat ((fail_if_success (refine hK _ _ ?_)); clear hK)); refine hK _ _ ?_; clear hK))
  refine r1 ?_
  exact Sub.of_eq (congrArg AV.bool (idxP_any p xs))

theorem cbPr2f : Callable Tryz.prog 56 := fun _ _ => by kernel_rfl
theorem notWord_c (t : TokI) (ht : t.w.length ≤ 1000000000) : PCalls Tryz.prog 56 [.agg (tokEI t)] (.bool (!wordOk t)) := by
  refine pcalls_of_awp tyok cbPr2f Tryz.func56 rfl rfl ?_
  have g := isWord_c t ht
  ((repeat (first | refine wK ?_ | refine awp_seq_k (fun K hK => ?_) | refine areg_text mixed tyok (by decide +kernel) ?_ | refine TR.pcall rfl rfl rfl rfl True.intro rfl rfl (g) ?_ | refine pco rfl rfl rfl rfl rfl rfl rfl rfl (fun _ => g) ?_ | ((repeat ((fail_if_success (refine hK _ _ ?_)); clear hK)); refine hK _ _ ?_; clear hK))); ((first | refine qal tyok (fun b1 => ?_) | refine qbox (fun b1 => ?_) | refine qboxV (fun b1 => ?_))); (repeat (first | refine wK ?_ | refine awp_seq_k (fun K hK => ?_) | refine areg_text mixed tyok (by decide +kernel) ?_ | refine qal tyok (fun bx => ?_) | refine qbox (fun bx => ?_) | refine qboxV (fun bx => ?_) | refine TR.pcall rfl rfl rfl rfl True.intro rfl rfl (g) ?_ | refine pco rfl rfl rfl rfl rfl rfl rfl rfl (fun _ => g) ?_ | ((repeat ((fail_if_success (refine hK _ _ ?_)); clear hK)); refine hK _ _ ?_; clear hK))))
  refine r1 ?_
  exact Sub.refl _

/-- Have two scripts the same lines? -/
def sameLn (a b : List StI) : Bool := (a.length == b.length) && (List.range a.length).all fun i => lineI (a.getD i default) == lineI (b.getD i default)

theorem cbSm1 : Callable Tryz.prog 64 := fun _ _ => by kernel_rfl
set_option maxRecDepth 100000 in
theorem same1_c (x y : StI) (hx : x.args.length ≤ 2000000) (hx2 : lenI x ≤ 2000000) (hy : y.args.length ≤ 2000000) (hy2 : lenI y ≤ 2000000) :
    PCalls Tryz.prog 64 [.agg (stmtEI x), .agg (stmtEI y)] (.bool (lineI x == lineI y)) := by
  refine pcalls_of_awp tyok cbSm1 Tryz.func64 rfl rfl ?_
  have g1 := line_c x hx hx2
  have g2 := line_c y hy hy2
  ((repeat (first | refine wK ?_ | refine awp_seq_k (fun K hK => ?_) | ((repeat ((fail_if_success (refine hK _ _ ?_)); clear hK)); refine hK _ _ ?_; clear hK))); ((first | refine qal tyok (fun b2 => ?_) | refine qbox (fun b2 => ?_) | refine qboxV (fun b2 => ?_))); (repeat (first | refine wK ?_ | refine awp_seq_k (fun K hK => ?_) | ((repeat ((fail_if_success (refine hK _ _ ?_)); clear hK)); refine hK _ _ ?_; clear hK))); ((first | refine qal tyok (fun b3 => ?_) | refine qbox (fun b3 => ?_) | refine qboxV (fun b3 => ?_))); (repeat (first | refine wK ?_ | refine awp_seq_k (fun K hK => ?_) | refine qal tyok (fun bx => ?_) | refine qbox (fun bx => ?_) | refine qboxV (fun bx => ?_) | ((repeat ((fail_if_success (refine hK _ _ ?_)); clear hK)); refine hK _ _ ?_; clear hK))))
  refine areg_kept mixed tyok [(1, []), (3, [])] [0, 2, 1, 3, 4, 5] (by decide +kernel) ?_
  repeat (first | refine wK ?_ | refine awp_seq_k (fun K hK => ?_) | refine areg_text mixed tyok (by decide +kernel) ?_ | refine qal tyok (fun bx => ?_) | refine qbox (fun bx => ?_) | refine qboxV (fun bx => ?_) | refine TR.pcall rfl rfl rfl rfl True.intro rfl rfl (g1) ?_ | refine TR.pcall rfl rfl rfl rfl True.intro rfl rfl (g2) ?_ | refine pco rfl rfl rfl rfl rfl rfl rfl rfl (fun _ => g1) ?_ | refine pco rfl rfl rfl rfl rfl rfl rfl rfl (fun _ => g2) ?_ | ((repeat ((fail_if_success (refine hK _ _ ?_)); clear hK)); refine hK _ _ ?_; clear hK))
  refine r1 ?_
  exact Sub.refl _

theorem cbEqS : Callable Tryz.prog 63 := fun _ _ => by kernel_rfl
set_option maxHeartbeats 3200000 in
set_option maxRecDepth 100000 in
theorem equalS_c (a b : List StI) (hl : a.length ≤ 1000000000) (ha : ∀ x ∈ a, x.args.length ≤ 2000000 ∧ lenI x ≤ 2000000) (hb : ∀ x ∈ b, x.args.length ≤ 2000000 ∧ lenI x ≤ 2000000) :
    PCalls Tryz.prog 63 [stmtsI a, stmtsI b, .func (.func 64) [] []] (.bool (sameLn a b)) := by
  refine pcalls_of_awp tyok cbEqS Tryz.func63 rfl rfl ?_
  by_cases hab : a.length = b.length
  rotate_left
  · have e : sameLn a b = false := by
      unfold sameLn
      rw [show (a.length == b.length) = false by simpa using hab]
      rfl
    have hab' : ¬ (a.length : Int) = b.length := by omega
    repeat (first | refine wKB ?_ | refine awp_seq_k (fun K hK => ?_) | refine areg_text mixed tyok (by decide +kernel) ?_ | refine qal tyok (fun bx => ?_) | refine qbox (fun bx => ?_) | refine qboxV (fun bx => ?_) | ((repeat ((fail_if_success (refine hK _ _ ?_)); clear hK)); refine hK _ _ ?_; clear hK))
    refine r1 ?_
    exact Sub.of_eq (by rw [e])
  repeat (first | refine wKB ?_ | refine awp_seq_k (fun K hK => ?_) | refine areg_text mixed tyok (by decide +kernel) ?_ | refine qal tyok (fun bx => ?_) | refine qbox (fun bx => ?_) | refine qboxV (fun bx => ?_) | ((repeat ((fail_if_success (refine hK _ _ ?_)); clear hK)); refine hK _ _ ?_; clear hK))
  refine awp_loop0 (ι := { i : Nat // i ≤ a.length ∧ ∀ j, j < i → (lineI (a.getD j default) == lineI (b.getD j default)) = true })
    (fun i => [(0, stmtsI a), (1, stmtsI b), (2, .func (.func 64) [] []), (15, stmtsI a), (16, .int .i64 a.length), (17, .int .i64 i.1)]) (fun _ => []) (fun i => a.length - i.1) ⟨0, Nat.zero_le _, fun j hj => absurd hj (by omega)⟩ (by (repeat (first | exact True.intro | refine ⟨⟨_, rfl, Sub.refl _⟩, ?_⟩ | refine ⟨⟨_, rfl, Sub.nilso _ _⟩, ?_⟩ | refine ⟨⟨_, rfl, sl_tail _ _ _ _ _⟩, ?_⟩ | refine ⟨⟨_, rfl, Sub.of_eq (by first | rfl | (congr 1; first | omega | (simp only; omega)) | (simp; done) | (simp; omega))⟩, ?_⟩ | refine ⟨⟨_, rfl, Sub.view _ _ _ _⟩, ?_⟩))) (by (first | exact ⟨0, rfl⟩ | exact ⟨1, rfl⟩ | exact ⟨2, rfl⟩ | exact ⟨3, rfl⟩ | exact ⟨4, rfl⟩)) ?_
  rintro ⟨i, hi, hn⟩
  simp only at hi hn ⊢
  by_cases hlt : i < a.length
  · have hlt' : (i : Int) < a.length := by omega
    have hlb : (i : Int) < b.length := by omega
    have h1 := ha (a.getD i default) (by rw [getD_at hlt]; exact List.getElem_mem hlt)
    have h2 := hb (b.getD i default) (by rw [getD_at (by omega)]; exact List.getElem_mem _)
    have g := same1_c (a.getD i default) (b.getD i default) h1.1 h1.2 h2.1 h2.2
    ((repeat (first | refine wKB ?_ | refine awp_seq_k (fun K hK => ?_) | refine areg_text mixed tyok (by decide +kernel) ?_ | refine TR.pcall rfl rfl rfl rfl True.intro rfl rfl (g) ?_ | refine pco rfl rfl rfl rfl rfl rfl rfl rfl (fun _ => g) ?_ | ((repeat ((fail_if_success (refine hK _ _ ?_)); clear hK)); refine hK _ _ ?_; clear hK))); ((first | refine qal tyok (fun b8 => ?_) | refine qbox (fun b8 => ?_) | refine qboxV (fun b8 => ?_))); (repeat (first | refine wKB ?_ | refine awp_seq_k (fun K hK => ?_) | refine areg_text mixed tyok (by decide +kernel) ?_ | refine TR.pcall rfl rfl rfl rfl True.intro rfl rfl (g) ?_ | refine pco rfl rfl rfl rfl rfl rfl rfl rfl (fun _ => g) ?_ | ((repeat ((fail_if_success (refine hK _ _ ?_)); clear hK)); refine hK _ _ ?_; clear hK))); ((first | refine qal tyok (fun b9 => ?_) | refine qbox (fun b9 => ?_) | refine qboxV (fun b9 => ?_))); (repeat (first | refine wKB ?_ | refine awp_seq_k (fun K hK => ?_) | refine areg_text mixed tyok (by decide +kernel) ?_ | refine qal tyok (fun bx => ?_) | refine qbox (fun bx => ?_) | refine qboxV (fun bx => ?_) | refine TR.pcall rfl rfl rfl rfl True.intro rfl rfl (g) ?_ | refine pco rfl rfl rfl rfl rfl rfl rfl rfl (fun _ => g) ?_ | ((repeat ((fail_if_success (refine hK _ _ ?_)); clear hK)); refine hK _ _ ?_; clear hK))))
    refine awp_cond rfl (fun hc => ?_) (fun hc => ?_)
    · have hne : (lineI (a.getD i default) == lineI (b.getD i default)) = false := by simpa using hc
      have e : sameLn a b = false := by
        unfold sameLn
        rw [Bool.and_eq_false_imp]
        intro _
        rw [List.all_eq_false]
        exact ⟨i, List.mem_range.2 hlt, by rw [hne]; decide⟩
      repeat (first | refine wKB ?_ | refine awp_seq_k (fun K hK => ?_) | refine areg_text mixed tyok (by decide +kernel) ?_ | refine qal tyok (fun bx => ?_) | refine qbox (fun bx => ?_) | refine qboxV (fun bx => ?_) | ((repeat ((fail_if_success (refine hK _ _ ?_)); clear hK)); refine hK _ _ ?_; clear hK))
      refine r1 ?_
      exact Sub.of_eq (by rw [e])
    · have he : (lineI (a.getD i default) == lineI (b.getD i default)) = true := by simpa using hc
      repeat (first | refine wKB ?_ | refine awp_seq_k (fun K hK => ?_) | refine areg_text mixed tyok (by decide +kernel) ?_ | refine qal tyok (fun bx => ?_) | refine qbox (fun bx => ?_) | refine qboxV (fun bx => ?_) | ((repeat ((fail_if_success (refine hK _ _ ?_)); clear hK)); refine hK _ _ ?_; clear hK))
      refine ⟨⟨i + 1, hlt, fun j hj => ?_⟩, (by (repeat (first | exact True.intro | refine ⟨⟨_, rfl, Sub.refl _⟩, ?_⟩ | refine ⟨⟨_, rfl, Sub.nilso _ _⟩, ?_⟩ | refine ⟨⟨_, rfl, sl_tail _ _ _ _ _⟩, ?_⟩ | refine ⟨⟨_, rfl, Sub.of_eq (by first | rfl | (congr 1; first | omega | (simp only; omega)) | (simp; done) | (simp; omega))⟩, ?_⟩ | refine ⟨⟨_, rfl, Sub.view _ _ _ _⟩, ?_⟩))), (by (first | exact ⟨0, rfl⟩ | exact ⟨1, rfl⟩ | exact ⟨2, rfl⟩ | exact ⟨3, rfl⟩ | exact ⟨4, rfl⟩)), by simp only; omega⟩
      by_cases e : j = i
      · rw [e]; exact he
      · exact hn j (by omega)
  · have hge : ¬ (i : Int) < a.length := by omega
    have e : sameLn a b = true := by
      unfold sameLn
      rw [Bool.and_eq_true]
      refine ⟨by simpa using hab, List.all_eq_true.2 fun j hj => hn j ?_⟩
      have := List.mem_range.1 hj
      omega
    repeat (first | refine wKB ?_ | refine awp_seq_k (fun K hK => ?_) | refine areg_text mixed tyok (by decide +kernel) ?_ | refine qal tyok (fun bx => ?_) | refine qbox (fun bx => ?_) | refine qboxV (fun bx => ?_) | ((repeat ((fail_if_success (refine hK _ _ ?_)); clear hK)); refine hK _ _ ?_; clear hK))
    refine r1 ?_
    exact Sub.of_eq (by rw [e])

theorem cbSameP : Callable Tryz.prog 31 := fun _ _ => by kernel_rfl
theorem psame_c (a b : List StI) (hl : a.length ≤ 1000000000) (ha : ∀ x ∈ a, x.args.length ≤ 2000000 ∧ lenI x ≤ 2000000) (hb : ∀ x ∈ b, x.args.length ≤ 2000000 ∧ lenI x ≤ 2000000) :
    PCalls Tryz.prog 31 [stmtsI a, stmtsI b] (.bool (sameLn a b)) := by
  refine pcalls_of_awp tyok cbSameP Tryz.func31 rfl rfl ?_
  have g := equalS_c a b hl ha hb
  repeat (first | refine wK ?_ | refine awp_seq_k (fun K hK => ?_) | refine areg_text mixed tyok (by decide +kernel) ?_ | refine qal tyok (fun bx => ?_) | refine qbox (fun bx => ?_) | refine qboxV (fun bx => ?_) | refine TR.pcall rfl rfl rfl rfl True.intro rfl rfl (g) ?_ | refine pco rfl rfl rfl rfl rfl rfl rfl rfl (fun _ => g) ?_ | ((repeat ((fail_if_success (refine hK _ _ ?_)); clear hK)); refine hK _ _ ?_; clear hK))
  refine r1 ?_
  exact Sub.refl _

end Go.Proofs.YtjinaakebjfbiaaGreatDoor

/-
  The document's printer (porismref23).
-/
namespace Go.Proofs.YtjinaakebjfbiaaGreatDoor
open Go.Ab

theorem cbW23 : Callable Tryz.prog 91 := fun _ _ => by kernel_rfl
set_option maxHeartbeats 1600000 in
set_option maxRecDepth 100000 in
theorem rword_c (t : TokI) (ht : t.w.length ≤ 1000000000) : PCalls Tryz.prog 91 [.agg (tokEI t)] (.bool (wordOk t)) := by
  refine pcalls_of_awp tyok cbW23 Tryz.func91 rfl rfl ?_
  have g := rtok_c t.w ht
  unfold tokV at g
  unfold wordOk
  cases h : tokF t.w with
  | none =>
    rw [h] at g
    ((repeat (first | refine wKB ?_ | refine awp_seq_k (fun K hK => ?_) | refine areg_text mixed tyok (by decide +kernel) ?_ | refine TR.pcall rfl rfl rfl rfl True.intro rfl rfl (g) ?_ | refine pco rfl rfl rfl rfl rfl rfl rfl rfl (fun _ => g) ?_ | ((repeat ((fail_if_success (refine hK _ _ ?_)); clear hK)); refine hK _ _ ?_; clear hK))); ((first | refine qal tyok (fun b1 => ?_) | refine qbox (fun b1 => ?_) | refine qboxV (fun b1 => ?_))); (repeat (first | refine wKB ?_ | refine awp_seq_k (fun K hK => ?_) | refine areg_text mixed tyok (by decide +kernel) ?_ | refine TR.pcall rfl rfl rfl rfl True.intro rfl rfl (g) ?_ | refine pco rfl rfl rfl rfl rfl rfl rfl rfl (fun _ => g) ?_ | ((repeat ((fail_if_success (refine hK _ _ ?_)); clear hK)); refine hK _ _ ?_; clear hK))); ((first | refine qal tyok (fun b3 => ?_) | refine qbox (fun b3 => ?_) | refine qboxV (fun b3 => ?_))); (repeat (first | refine wKB ?_ | refine awp_seq_k (fun K hK => ?_) | refine areg_text mixed tyok (by decide +kernel) ?_ | refine qal tyok (fun bx => ?_) | refine qbox (fun bx => ?_) | refine qboxV (fun bx => ?_) | refine TR.pcall rfl rfl rfl rfl True.intro rfl rfl (g) ?_ | refine pco rfl rfl rfl rfl rfl rfl rfl rfl (fun _ => g) ?_ | ((repeat ((fail_if_success (refine hK _ _ ?_)); clear hK)); refine hK _ _ ?_; clear hK))))
    refine r1 ?_
    exact Sub.refl _
  | some q =>
    obtain ⟨k, n⟩ := q
    rw [h] at g
    ((repeat (first | refine wKB ?_ | refine awp_seq_k (fun K hK => ?_) | refine areg_text mixed tyok (by decide +kernel) ?_ | refine TR.pcall rfl rfl rfl rfl True.intro rfl rfl (g) ?_ | refine pco rfl rfl rfl rfl rfl rfl rfl rfl (fun _ => g) ?_ | ((repeat ((fail_if_success (refine hK _ _ ?_)); clear hK)); refine hK _ _ ?_; clear hK))); ((first | refine qal tyok (fun b1 => ?_) | refine qbox (fun b1 => ?_) | refine qboxV (fun b1 => ?_))); (repeat (first | refine wKB ?_ | refine awp_seq_k (fun K hK => ?_) | refine areg_text mixed tyok (by decide +kernel) ?_ | refine TR.pcall rfl rfl rfl rfl True.intro rfl rfl (g) ?_ | refine pco rfl rfl rfl rfl rfl rfl rfl rfl (fun _ => g) ?_ | ((repeat ((fail_if_success (refine hK _ _ ?_)); clear hK)); refine hK _ _ ?_; clear hK))); ((first | refine qal tyok (fun b3 => ?_) | refine qbox (fun b3 => ?_) | refine qboxV (fun b3 => ?_))); (repeat (first | refine wKB ?_ | refine awp_seq_k (fun K hK => ?_) | refine areg_text mixed tyok (by decide +kernel) ?_ | refine qal tyok (fun bx => ?_) | refine qbox (fun bx => ?_) | refine qboxV (fun bx => ?_) | refine TR.pcall rfl rfl rfl rfl True.intro rfl rfl (g) ?_ | refine pco rfl rfl rfl rfl rfl rfl rfl rfl (fun _ => g) ?_ | ((repeat ((fail_if_success (refine hK _ _ ?_)); clear hK)); refine hK _ _ ?_; clear hK))))
    refine r1 ?_
    exact Sub.refl _

/-- Are all words of a statement what their texts say? -/
def okAll (x : StI) : Bool := (wordsL x).all wordOk

theorem all_take {p : TokI → Bool} {l : List TokI} (h : ∀ j, j < l.length → p (l.getD j default) = true) : l.all p = true := by
  rw [List.all_eq_true]
  intro x hx
  obtain ⟨j, hj, e⟩ := List.getElem_of_mem hx
  have := h j hj
  rw [getD_at hj, e] at this
  exact this

theorem cbWh23 : Callable Tryz.prog 61 := fun _ _ => by kernel_rfl
set_option maxHeartbeats 3200000 in
set_option maxRecDepth 100000 in
theorem whole_c (x : StI) (hx : x.args.length ≤ 2000000) (h1 : x.new.w.length ≤ 1000000000) (h2 : x.word.w.length ≤ 1000000000) (h3 : ∀ t ∈ x.args, t.w.length ≤ 1000000000) :
    PCalls Tryz.prog 61 [.agg (stmtEI x)] (.bool (okAll x)) := by
  refine pcalls_of_awp tyok cbWh23 Tryz.func61 rfl rfl ?_
  have gn := rword_c x.new h1
  have gw := rword_c x.word h2
  by_cases k2 : x.k = 2
  · have e : okAll x = wordOk x.word := by
      unfold okAll wordsL
      rw [if_neg (by omega), if_pos (by omega), if_pos k2]
      simp
    ((repeat (first | refine wKB ?_ | refine awp_seq_k (fun K hK => ?_) | refine areg_text mixed tyok (by decide +kernel) ?_ | refine TR.pcall rfl rfl rfl rfl True.intro rfl rfl (gw) ?_ | refine pco rfl rfl rfl rfl rfl rfl rfl rfl (fun _ => gw) ?_ | ((repeat ((fail_if_success (refine hK _ _ ?_)); clear hK)); refine hK _ _ ?_; clear hK))); ((first | refine qal tyok (fun b1 => ?_) | refine qbox (fun b1 => ?_) | refine qboxV (fun b1 => ?_))); (repeat (first | refine wKB ?_ | refine awp_seq_k (fun K hK => ?_) | refine areg_text mixed tyok (by decide +kernel) ?_ | refine qal tyok (fun bx => ?_) | refine qbox (fun bx => ?_) | refine qboxV (fun bx => ?_) | refine TR.pcall rfl rfl rfl rfl True.intro rfl rfl (gw) ?_ | refine pco rfl rfl rfl rfl rfl rfl rfl rfl (fun _ => gw) ?_ | ((repeat ((fail_if_success (refine hK _ _ ?_)); clear hK)); refine hK _ _ ?_; clear hK))))
    refine r1 ?_
    exact Sub.of_eq (by rw [e])
  have e : okAll x = ((decide (x.k ≠ 4) || wordOk x.new) && ((decide (x.k ≠ 4 ∧ x.k ≠ 5) || wordOk x.word) && x.args.all wordOk)) := by
    unfold okAll wordsL
    rw [if_neg k2]
    by_cases k4 : x.k = 4
    · rw [if_pos k4, if_pos (by omega), decide_eq_false (by omega), decide_eq_false (by omega)]
      simp
    by_cases k5 : x.k = 5
    · rw [if_neg k4, if_pos (by omega), decide_eq_true (by omega), decide_eq_false (by omega)]
      simp
    · rw [if_neg k4, if_neg (by omega), decide_eq_true (by omega), decide_eq_true (by omega)]
      simp
  by_cases hb : (decide (x.k ≠ 4) || wordOk x.new) && (decide (x.k ≠ 4 ∧ x.k ≠ 5) || wordOk x.word)
  rotate_left
  · have e2 : okAll x = false := by
      rw [e, ← Bool.and_assoc]
      rw [show ((decide (x.k ≠ 4) || wordOk x.new) && (decide (x.k ≠ 4 ∧ x.k ≠ 5) || wordOk x.word)) = false by simpa using hb]
      rfl
    by_cases k4 : x.k = 4
    · cases hn : wordOk x.new with
      | false =>
        rw [hn] at gn
        ((repeat (first | refine wKB ?_ | refine awp_seq_k (fun K hK => ?_) | refine areg_text mixed tyok (by decide +kernel) ?_ | refine TR.pcall rfl rfl rfl rfl True.intro rfl rfl (gn) ?_ | refine TR.pcall rfl rfl rfl rfl True.intro rfl rfl (gw) ?_ | refine pco rfl rfl rfl rfl rfl rfl rfl rfl (fun _ => gn) ?_ | refine pco rfl rfl rfl rfl rfl rfl rfl rfl (fun _ => gw) ?_ | ((repeat ((fail_if_success (refine hK _ _ ?_)); clear hK)); refine hK _ _ ?_; clear hK))); ((first | refine qal tyok (fun b1 => ?_) | refine qbox (fun b1 => ?_) | refine qboxV (fun b1 => ?_))); (repeat (first | refine wKB ?_ | refine awp_seq_k (fun K hK => ?_) | refine areg_text mixed tyok (by decide +kernel) ?_ | refine qal tyok (fun bx => ?_) | refine qbox (fun bx => ?_) | refine qboxV (fun bx => ?_) | refine TR.pcall rfl rfl rfl rfl True.intro rfl rfl (gn) ?_ | refine TR.pcall rfl rfl rfl rfl True.intro rfl rfl (gw) ?_ | refine pco rfl rfl rfl rfl rfl rfl rfl rfl (fun _ => gn) ?_ | refine pco rfl rfl rfl rfl rfl rfl rfl rfl (fun _ => gw) ?_ | ((repeat ((fail_if_success (refine hK _ _ ?_)); clear hK)); refine hK _ _ ?_; clear hK))))
        refine r1 ?_
        exact Sub.of_eq (by rw [e2])
      | true =>
        cases hw : wordOk x.word with
        | false =>
          rw [hn] at gn
          rw [hw] at gw
          ((repeat (first | refine wKB ?_ | refine awp_seq_k (fun K hK => ?_) | refine areg_text mixed tyok (by decide +kernel) ?_ | refine TR.pcall rfl rfl rfl rfl True.intro rfl rfl (gn) ?_ | refine TR.pcall rfl rfl rfl rfl True.intro rfl rfl (gw) ?_ | refine pco rfl rfl rfl rfl rfl rfl rfl rfl (fun _ => gn) ?_ | refine pco rfl rfl rfl rfl rfl rfl rfl rfl (fun _ => gw) ?_ | ((repeat ((fail_if_success (refine hK _ _ ?_)); clear hK)); refine hK _ _ ?_; clear hK))); ((first | refine qal tyok (fun b1 => ?_) | refine qbox (fun b1 => ?_) | refine qboxV (fun b1 => ?_))); (repeat (first | refine wKB ?_ | refine awp_seq_k (fun K hK => ?_) | refine areg_text mixed tyok (by decide +kernel) ?_ | refine qal tyok (fun bx => ?_) | refine qbox (fun bx => ?_) | refine qboxV (fun bx => ?_) | refine TR.pcall rfl rfl rfl rfl True.intro rfl rfl (gn) ?_ | refine TR.pcall rfl rfl rfl rfl True.intro rfl rfl (gw) ?_ | refine pco rfl rfl rfl rfl rfl rfl rfl rfl (fun _ => gn) ?_ | refine pco rfl rfl rfl rfl rfl rfl rfl rfl (fun _ => gw) ?_ | ((repeat ((fail_if_success (refine hK _ _ ?_)); clear hK)); refine hK _ _ ?_; clear hK))))
          refine r1 ?_
          exact Sub.of_eq (by rw [e2])
        | true => exact absurd hb (by rw [hn, hw]; simp)
    · have k5 : x.k = 5 := by
        by_cases k5 : x.k = 5
        · exact k5
        · exact absurd hb (by rw [decide_eq_true k4, decide_eq_true ⟨k4, k5⟩]; simp)
      have hw : wordOk x.word = false := by
        cases hw : wordOk x.word with
        | false => rfl
        | true => exact absurd hb (by rw [decide_eq_true k4, hw]; simp)
      rw [hw] at gw
      ((repeat (first | refine wKB ?_ | refine awp_seq_k (fun K hK => ?_) | refine areg_text mixed tyok (by decide +kernel) ?_ | refine TR.pcall rfl rfl rfl rfl True.intro rfl rfl (gw) ?_ | refine pco rfl rfl rfl rfl rfl rfl rfl rfl (fun _ => gw) ?_ | ((repeat ((fail_if_success (refine hK _ _ ?_)); clear hK)); refine hK _ _ ?_; clear hK))); ((first | refine qal tyok (fun b1 => ?_) | refine qbox (fun b1 => ?_) | refine qboxV (fun b1 => ?_))); (repeat (first | refine wKB ?_ | refine awp_seq_k (fun K hK => ?_) | refine areg_text mixed tyok (by decide +kernel) ?_ | refine qal tyok (fun bx => ?_) | refine qbox (fun bx => ?_) | refine qboxV (fun bx => ?_) | refine TR.pcall rfl rfl rfl rfl True.intro rfl rfl (gw) ?_ | refine pco rfl rfl rfl rfl rfl rfl rfl rfl (fun _ => gw) ?_ | ((repeat ((fail_if_success (refine hK _ _ ?_)); clear hK)); refine hK _ _ ?_; clear hK))))
      refine r1 ?_
      exact Sub.of_eq (by rw [e2])
  have e2 : okAll x = x.args.all wordOk := by
    rw [e, ← Bool.and_assoc, hb]
    rfl
  have hcase : (x.k = 4 ∧ wordOk x.new = true ∧ wordOk x.word = true) ∨ (x.k = 5 ∧ wordOk x.word = true) ∨ (x.k ≠ 4 ∧ x.k ≠ 5) := by
    simp only [Bool.and_eq_true, Bool.or_eq_true, decide_eq_true_eq] at hb
    by_cases k4 : x.k = 4
    · exact .inl ⟨k4, hb.1.resolve_left (by omega), hb.2.resolve_left (by omega)⟩
    by_cases k5 : x.k = 5
    · exact .inr (.inl ⟨k5, hb.2.resolve_left (by omega)⟩)
    · exact .inr (.inr ⟨k4, k5⟩)
  ((repeat (first | refine wK ?_ | refine awp_seq_k (fun K hK => ?_) | refine areg_text mixed tyok (by decide +kernel) ?_ | ((repeat ((fail_if_success (refine hK _ _ ?_)); clear hK)); refine hK _ _ ?_; clear hK))); ((first | refine qal tyok (fun b1 => ?_) | refine qbox (fun b1 => ?_) | refine qboxV (fun b1 => ?_))))
  (((repeat (first | refine wT ?_ | refine qal tyok (fun bx => ?_) | refine qbox (fun bx => ?_) | refine qboxV (fun bx => ?_)))); repeat (first | (with_reducible refine pQ_normal ?_) | (with_reducible refine thenQ_normal ?_) | (with_reducible refine blockQ_normal ?_) | (with_reducible refine thenQ_exit ?_) | (with_reducible refine blockQ_hit ?_) | refine blockQ_miss rfl ?_ | (with_reducible refine thenQ_ret ?_) | (with_reducible refine blockQ_ret ?_) | (with_reducible refine pQ_panic ?_) | (with_reducible refine thenQ_panic ?_) | (with_reducible refine blockQ_panic ?_)); ((repeat ((fail_if_success (refine hK _ _ ?_)); clear hK)); refine hK _ _ ?_; clear hK))
  refine awp_seq_k (fun K hK => ?_)
  refine (have hr := cutK (Wk := [(1, .ptr b1 0)]) (H0 := [.box b1 47 (.agg (stmtEI x))]) hK ?_; ?_)
  · repeat (first | refine wK ?_ | refine awp_seq_k (fun K hK => ?_) | refine areg_text mixed tyok (by decide +kernel) ?_ | refine qal tyok (fun bx => ?_) | refine qbox (fun bx => ?_) | refine qboxV (fun bx => ?_) | ((repeat ((fail_if_success (refine hK _ _ ?_)); clear hK)); refine hK _ _ ?_; clear hK))
    refine awp_loop0 (ι := { i : Nat // i ≤ x.args.length ∧ ∀ j, j < i → wordOk (x.args.getD j default) = true }) (fun i => [(1, .ptr b1 0), (3, .int .i64 i.1)])
      (fun _ => [.box b1 47 (.agg (stmtEI x))]) (fun i => x.args.length - i.1) ⟨0, Nat.zero_le _, fun j hj => absurd hj (by omega)⟩ (by (repeat (first | exact True.intro | refine ⟨⟨_, rfl, Sub.refl _⟩, ?_⟩ | refine ⟨⟨_, rfl, Sub.nilso _ _⟩, ?_⟩ | refine ⟨⟨_, rfl, sl_tail _ _ _ _ _⟩, ?_⟩ | refine ⟨⟨_, rfl, Sub.of_eq (by first | rfl | (congr 1; first | omega | (simp only; omega)) | (simp; done) | (simp; omega))⟩, ?_⟩ | refine ⟨⟨_, rfl, Sub.view _ _ _ _⟩, ?_⟩))) ⟨0, rfl⟩ ?_
    rintro ⟨i, hi, hn⟩
    simp only at hi hn ⊢
    by_cases hlt : i < x.args.length
    · have hlt' : (i : Int) < x.args.length := by omega
      have g := rword_c (x.args.getD i default) (h3 (x.args.getD i default) (by rw [getD_at hlt]; exact List.getElem_mem hlt))
      cases hw : wordOk (x.args.getD i default) with
      | false =>
        rw [hw] at g
        have e3 : x.args.all wordOk = false := by
          rw [List.all_eq_false]
          exact ⟨x.args.getD i default, by rw [getD_at hlt]; exact List.getElem_mem hlt, by rw [hw]; decide⟩
        repeat (first | refine wKB ?_ | refine awp_seq_k (fun K hK => ?_) | refine areg_text mixed tyok (by decide +kernel) ?_ | refine qal tyok (fun bx => ?_) | refine qbox (fun bx => ?_) | refine qboxV (fun bx => ?_) | refine TR.pcall rfl rfl rfl rfl True.intro rfl rfl (g) ?_ | refine pco rfl rfl rfl rfl rfl rfl rfl rfl (fun _ => g) ?_ | ((repeat ((fail_if_success (refine hK _ _ ?_)); clear hK)); refine hK _ _ ?_; clear hK))
        refine r1 ?_
        exact Sub.of_eq (by rw [e2, e3])
      | true =>
        rw [hw] at g
        repeat (first | refine wKB ?_ | refine awp_seq_k (fun K hK => ?_) | refine areg_text mixed tyok (by decide +kernel) ?_ | refine qal tyok (fun bx => ?_) | refine qbox (fun bx => ?_) | refine qboxV (fun bx => ?_) | refine TR.pcall rfl rfl rfl rfl True.intro rfl rfl (g) ?_ | refine pco rfl rfl rfl rfl rfl rfl rfl rfl (fun _ => g) ?_ | ((repeat ((fail_if_success (refine hK _ _ ?_)); clear hK)); refine hK _ _ ?_; clear hK))
        refine ⟨⟨i + 1, hlt, fun j hj => ?_⟩, (by (repeat (first | exact True.intro | refine ⟨⟨_, rfl, Sub.refl _⟩, ?_⟩ | refine ⟨⟨_, rfl, Sub.nilso _ _⟩, ?_⟩ | refine ⟨⟨_, rfl, sl_tail _ _ _ _ _⟩, ?_⟩ | refine ⟨⟨_, rfl, Sub.of_eq (by first | rfl | (congr 1; first | omega | (simp only; omega)) | (simp; done) | (simp; omega))⟩, ?_⟩ | refine ⟨⟨_, rfl, Sub.view _ _ _ _⟩, ?_⟩))), ⟨0, rfl⟩, by simp only; omega⟩
        by_cases e : j = i
        · rw [e]; exact hw
        · exact hn j (by omega)
    · have hge : ¬ (i : Int) < x.args.length := by omega
      repeat (first | refine wKB ?_ | refine awp_seq_k (fun K hK => ?_) | refine areg_text mixed tyok (by decide +kernel) ?_ | refine qal tyok (fun bx => ?_) | refine qbox (fun bx => ?_) | refine qboxV (fun bx => ?_) | ((repeat ((fail_if_success (refine hK _ _ ?_)); clear hK)); refine hK _ _ ?_; clear hK))
      refine r1 ?_
      exact Sub.of_eq (by rw [e2, all_take fun j hj => hn j (by omega)])
  · clear hK
    rcases hcase with ⟨k4, w1, w2⟩ | ⟨k5, w2⟩ | ⟨k4, k5⟩
    · rw [w1] at gn
      rw [w2] at gw
      repeat (first | refine wKB ?_ | refine awp_seq_k (fun K hK => ?_) | refine areg_text mixed tyok (by decide +kernel) ?_ | refine qal tyok (fun bx => ?_) | refine qbox (fun bx => ?_) | refine qboxV (fun bx => ?_) | refine TR.pcall rfl rfl rfl rfl True.intro rfl rfl (gn) ?_ | refine TR.pcall rfl rfl rfl rfl True.intro rfl rfl (gw) ?_ | refine pco rfl rfl rfl rfl rfl rfl rfl rfl (fun _ => gn) ?_ | refine pco rfl rfl rfl rfl rfl rfl rfl rfl (fun _ => gw) ?_ | ((repeat ((fail_if_success (refine hK _ _ ?_)); clear hK)); refine hK _ _ ?_; clear hK))
      exact hr _ (by (repeat (first | exact True.intro | refine ⟨⟨_, rfl, Sub.refl _⟩, ?_⟩ | refine ⟨⟨_, rfl, Sub.nilso _ _⟩, ?_⟩ | refine ⟨⟨_, rfl, sl_tail _ _ _ _ _⟩, ?_⟩ | refine ⟨⟨_, rfl, Sub.of_eq (by first | rfl | (congr 1; first | omega | (simp only; omega)) | (simp; done) | (simp; omega))⟩, ?_⟩ | refine ⟨⟨_, rfl, Sub.view _ _ _ _⟩, ?_⟩)))
    · rw [w2] at gw
      repeat (first | refine wKB ?_ | refine awp_seq_k (fun K hK => ?_) | refine areg_text mixed tyok (by decide +kernel) ?_ | refine qal tyok (fun bx => ?_) | refine qbox (fun bx => ?_) | refine qboxV (fun bx => ?_) | refine TR.pcall rfl rfl rfl rfl True.intro rfl rfl (gw) ?_ | refine pco rfl rfl rfl rfl rfl rfl rfl rfl (fun _ => gw) ?_ | ((repeat ((fail_if_success (refine hK _ _ ?_)); clear hK)); refine hK _ _ ?_; clear hK))
      exact hr _ (by (repeat (first | exact True.intro | refine ⟨⟨_, rfl, Sub.refl _⟩, ?_⟩ | refine ⟨⟨_, rfl, Sub.nilso _ _⟩, ?_⟩ | refine ⟨⟨_, rfl, sl_tail _ _ _ _ _⟩, ?_⟩ | refine ⟨⟨_, rfl, Sub.of_eq (by first | rfl | (congr 1; first | omega | (simp only; omega)) | (simp; done) | (simp; omega))⟩, ?_⟩ | refine ⟨⟨_, rfl, Sub.view _ _ _ _⟩, ?_⟩)))
    · repeat (first | refine wKB ?_ | refine awp_seq_k (fun K hK => ?_) | refine areg_text mixed tyok (by decide +kernel) ?_ | refine qal tyok (fun bx => ?_) | refine qbox (fun bx => ?_) | refine qboxV (fun bx => ?_) | ((repeat ((fail_if_success (refine hK _ _ ?_)); clear hK)); refine hK _ _ ?_; clear hK))
      exact hr _ (by (repeat (first | exact True.intro | refine ⟨⟨_, rfl, Sub.refl _⟩, ?_⟩ | refine ⟨⟨_, rfl, Sub.nilso _ _⟩, ?_⟩ | refine ⟨⟨_, rfl, sl_tail _ _ _ _ _⟩, ?_⟩ | refine ⟨⟨_, rfl, Sub.of_eq (by first | rfl | (congr 1; first | omega | (simp only; omega)) | (simp; done) | (simp; omega))⟩, ?_⟩ | refine ⟨⟨_, rfl, Sub.view _ _ _ _⟩, ?_⟩)))

def printT (l : List StI) : List UInt8 := l.flatMap fun x => lineI x ++ [10]
/-- A script's text (0), or why there is none. -/
noncomputable def printF (l : List StI) : Int × List UInt8 := if (lookF l).e ≠ 0 then ((lookF l).e, []) else if l.all okAll = true then (0, printT l) else (4, [])

def sumLen (l : List StI) : Nat := (l.map fun x => lenI x + 21).sum
theorem printT_len : ∀ l : List StI, (printT l).length ≤ sumLen l
  | [] => by simp [printT, sumLen]
  | x :: l => by
    have := printT_len l
    have h := lineI_len x
    simp only [printT, sumLen, List.flatMap_cons, List.map_cons, List.sum_cons, List.length_append, List.length_cons, List.length_nil] at this ⊢
    omega
theorem sumLen_take (l : List StI) (i : Nat) : sumLen (l.take i) ≤ sumLen l := by
  have e : sumLen l = sumLen (l.take i) + sumLen (l.drop i) := by
    unfold sumLen
    rw [← List.sum_append, ← List.map_append, List.take_append_drop]
  omega
theorem printT_succ {l : List StI} {i : Nat} (h : i < l.length) : printT (l.take (i + 1)) = printT (l.take i) ++ (lineI (l.getD i default) ++ [10]) := by
  unfold printT
  rw [List.take_succ_eq_append_getElem h, List.flatMap_append, getD_at h]
  simp

/-- What is looked at: not too much. -/
structure Small (l : List StI) : Prop where
  len : l.length ≤ 2000000
  args : ∀ x ∈ l, x.args.length ≤ 2000000
  line : ∀ x ∈ l, lenI x ≤ 2000000
  new : ∀ x ∈ l, x.new.w.length ≤ 1000000000
  word : ∀ x ∈ l, x.word.w.length ≤ 1000000000
  args' : ∀ x ∈ l, ∀ t ∈ x.args, t.w.length ≤ 1000000000
  sum : sumLen l ≤ 1000000000

theorem cbPr23 : Callable Tryz.prog 30 := fun _ _ => by kernel_rfl
set_option maxHeartbeats 3200000 in
set_option maxRecDepth 100000 in
theorem rprint_c (l : List StI) (hs : Small l) : PCalls Tryz.prog 30 [stmtsI l] (.tuple [.str (printF l).2, .int .i64 (printF l).1]) := by
  refine pcalls_of_awp tyok cbPr23 Tryz.func30 rfl rfl ?_
  have g := look22_c l (by have := hs.len; omega) (fun x hx => by have := hs.args x hx; omega)
  rw [lookR_of] at g
  by_cases h : (lookF l).e = 0
  rotate_left
  · rw [if_neg h] at g
    simp only [oneV] at g
    have e : printF l = ((lookF l).e, []) := by unfold printF; rw [if_pos h]
    ((repeat (first | refine wKB ?_ | refine awp_seq_k (fun K hK => ?_) | refine areg_text mixed tyok (by decide +kernel) ?_ | refine TR.pcall rfl rfl rfl rfl True.intro rfl rfl (g) ?_ | refine pco rfl rfl rfl rfl rfl rfl rfl rfl (fun _ => g) ?_ | ((repeat ((fail_if_success (refine hK _ _ ?_)); clear hK)); refine hK _ _ ?_; clear hK))); ((first | refine qal tyok (fun b5 => ?_) | refine qbox (fun b5 => ?_) | refine qboxV (fun b5 => ?_))); (repeat (first | refine wKB ?_ | refine awp_seq_k (fun K hK => ?_) | refine areg_text mixed tyok (by decide +kernel) ?_ | refine qal tyok (fun bx => ?_) | refine qbox (fun bx => ?_) | refine qboxV (fun bx => ?_) | refine TR.pcall rfl rfl rfl rfl True.intro rfl rfl (g) ?_ | refine pco rfl rfl rfl rfl rfl rfl rfl rfl (fun _ => g) ?_ | ((repeat ((fail_if_success (refine hK _ _ ?_)); clear hK)); refine hK _ _ ?_; clear hK))))
    refine fnQ_ret 1 rfl (.tmp rfl (.tmp rfl .nil)) ?_ ⟨rfl, rfl⟩
    rw [e]
    exact Sub.refl _
  rw [if_pos h] at g
  simp only [oneV] at g
  have hf : printF l = if l.all okAll = true then (0, printT l) else (4, []) := by unfold printF; rw [if_neg (by simpa using h)]
  have hll := hs.len
  ((repeat (first | refine wKB ?_ | refine awp_seq_k (fun K hK => ?_) | refine areg_text mixed tyok (by decide +kernel) ?_ | refine TR.pcall rfl rfl rfl rfl True.intro rfl rfl (g) ?_ | refine pco rfl rfl rfl rfl rfl rfl rfl rfl (fun _ => g) ?_ | ((repeat ((fail_if_success (refine hK _ _ ?_)); clear hK)); refine hK _ _ ?_; clear hK))); ((first | refine qal tyok (fun b5 => ?_) | refine qbox (fun b5 => ?_) | refine qboxV (fun b5 => ?_))); (repeat (first | refine wKB ?_ | refine awp_seq_k (fun K hK => ?_) | refine areg_text mixed tyok (by decide +kernel) ?_ | refine qal tyok (fun bx => ?_) | refine qbox (fun bx => ?_) | refine qboxV (fun bx => ?_) | refine TR.pcall rfl rfl rfl rfl True.intro rfl rfl (g) ?_ | refine pco rfl rfl rfl rfl rfl rfl rfl rfl (fun _ => g) ?_ | ((repeat ((fail_if_success (refine hK _ _ ?_)); clear hK)); refine hK _ _ ?_; clear hK))))
  refine awp_loop0 (ι := { i : Nat // i ≤ l.length ∧ ∀ j, j < i → okAll (l.getD j default) = true }) (fun i => [(0, stmtsI l), (7, .str (printT (l.take i.1))), (8, .int .i64 i.1)])
    (fun _ => []) (fun i => l.length - i.1) ⟨0, Nat.zero_le _, fun j hj => absurd hj (by omega)⟩ (by (repeat (first | exact True.intro | refine ⟨⟨_, rfl, Sub.refl _⟩, ?_⟩ | refine ⟨⟨_, rfl, Sub.nilso _ _⟩, ?_⟩ | refine ⟨⟨_, rfl, sl_tail _ _ _ _ _⟩, ?_⟩ | refine ⟨⟨_, rfl, Sub.of_eq (by first | rfl | (congr 1; first | omega | (simp only; omega)) | (simp; done) | (simp; omega))⟩, ?_⟩ | refine ⟨⟨_, rfl, Sub.view _ _ _ _⟩, ?_⟩))) (by (first | exact ⟨0, rfl⟩ | exact ⟨1, rfl⟩ | exact ⟨2, rfl⟩ | exact ⟨3, rfl⟩ | exact ⟨4, rfl⟩)) ?_
  rintro ⟨i, hi, hn⟩
  simp only at hi hn ⊢
  by_cases hlt : i < l.length
  · have hlt' : (i : Int) < l.length := by omega
    have hm : l.getD i default ∈ l := by rw [getD_at hlt]; exact List.getElem_mem hlt
    have gw := whole_c (l.getD i default) (hs.args _ hm) (hs.new _ hm) (hs.word _ hm) (hs.args' _ hm)
    have gl := rline_c (l.getD i default) (hs.args _ hm) (hs.line _ hm)
    cases hw : okAll (l.getD i default) with
    | false =>
      rw [hw] at gw
      have ea : ¬ l.all okAll = true := fun ha => by
        have := List.all_eq_true.1 ha _ hm
        rw [hw] at this
        cases this
      repeat (first | refine wKB ?_ | refine awp_seq_k (fun K hK => ?_) | refine areg_text mixed tyok (by decide +kernel) ?_ | refine qal tyok (fun bx => ?_) | refine qbox (fun bx => ?_) | refine qboxV (fun bx => ?_) | refine TR.pcall rfl rfl rfl rfl True.intro rfl rfl (gw) ?_ | refine pco rfl rfl rfl rfl rfl rfl rfl rfl (fun _ => gw) ?_ | ((repeat ((fail_if_success (refine hK _ _ ?_)); clear hK)); refine hK _ _ ?_; clear hK))
      refine fnQ_ret 0 rfl (.tmp rfl (.tmp rfl .nil)) ?_ ⟨rfl, rfl⟩
      rw [hf, if_neg ea]
      exact Sub.refl _
    | true =>
      rw [hw] at gw
      have b1 := printT_len (l.take i)
      have b2 := sumLen_take l i
      have b3 := hs.sum
      have b4 := lineI_len (l.getD i default)
      have b5 := hs.line _ hm
      have hm1 : ({ data := #[10] } : ByteArray).data.toList.length = 1 := rfl
      have hm2 : (printT (l.take i) ++ lineI (l.getD i default)).length = (printT (l.take i)).length + (lineI (l.getD i default)).length := List.length_append
      repeat (first | refine wKB ?_ | refine awp_seq_k (fun K hK => ?_) | refine areg_text mixed tyok (by decide +kernel) ?_ | refine qal tyok (fun bx => ?_) | refine qbox (fun bx => ?_) | refine qboxV (fun bx => ?_) | refine TR.pcall rfl rfl rfl rfl True.intro rfl rfl (gw) ?_ | refine TR.pcall rfl rfl rfl rfl True.intro rfl rfl (gl) ?_ | refine pco rfl rfl rfl rfl rfl rfl rfl rfl (fun _ => gw) ?_ | refine pco rfl rfl rfl rfl rfl rfl rfl rfl (fun _ => gl) ?_ | ((repeat ((fail_if_success (refine hK _ _ ?_)); clear hK)); refine hK _ _ ?_; clear hK))
      refine ⟨⟨i + 1, hlt, fun j hj => ?_⟩, ⟨⟨_, rfl, Sub.refl _⟩, ⟨_, rfl, Sub.of_eq (congrArg AV.str ?_)⟩, (by (repeat (first | exact True.intro | refine ⟨⟨_, rfl, Sub.refl _⟩, ?_⟩ | refine ⟨⟨_, rfl, Sub.nilso _ _⟩, ?_⟩ | refine ⟨⟨_, rfl, sl_tail _ _ _ _ _⟩, ?_⟩ | refine ⟨⟨_, rfl, Sub.of_eq (by first | rfl | (congr 1; first | omega | (simp only; omega)) | (simp; done) | (simp; omega))⟩, ?_⟩ | refine ⟨⟨_, rfl, Sub.view _ _ _ _⟩, ?_⟩)))⟩, (by (first | exact ⟨0, rfl⟩ | exact ⟨1, rfl⟩ | exact ⟨2, rfl⟩ | exact ⟨3, rfl⟩ | exact ⟨4, rfl⟩)), by simp only; omega⟩
      · by_cases e : j = i
        · rw [e]; exact hw
        · exact hn j (by omega)
      · rw [printT_succ hlt, List.append_assoc]
  · have hge : ¬ (i : Int) < l.length := by omega
    obtain rfl : i = l.length := by omega
    have ea : l.all okAll = true := by
      rw [List.all_eq_true]
      intro x hx
      obtain ⟨j, hj, e⟩ := List.getElem_of_mem hx
      have := hn j hj
      rw [getD_at hj, e] at this
      exact this
    repeat (first | refine wKB ?_ | refine awp_seq_k (fun K hK => ?_) | refine areg_text mixed tyok (by decide +kernel) ?_ | refine qal tyok (fun bx => ?_) | refine qbox (fun bx => ?_) | refine qboxV (fun bx => ?_) | ((repeat ((fail_if_success (refine hK _ _ ?_)); clear hK)); refine hK _ _ ?_; clear hK))
    refine fnQ_ret 0 rfl (.tmp rfl (.tmp rfl .nil)) ?_ ⟨rfl, rfl⟩
    rw [hf, if_pos ea, List.take_length]
    exact Sub.refl _

end Go.Proofs.YtjinaakebjfbiaaGreatDoor

/-
  printer.Print.
-/
namespace Go.Proofs.YtjinaakebjfbiaaGreatDoor
open Go.Ab

def rowT (x : StI) : List UInt8 := lineI x ++ [10]
theorem rowT_ne (x : StI) : rowT x ≠ [] := by simp [rowT]
theorem rowT_len (x : StI) : (rowT x).length = (lineI x).length + 1 := by simp [rowT]

/-- The builder's part of the heap. -/
def bldX (b i : Nat) (s : List UInt8) (g cap : Nat) : AHeap := match i with
  | 0 => bld0 b
  | _ + 1 => bldH b g cap s

theorem cbPut : Callable Tryz.prog 52 := fun _ _ => by kernel_rfl
set_option maxHeartbeats 1600000 in
set_option maxRecDepth 100000 in
theorem put0_c (b : Nat) (x : StI) (ha : x.args.length ≤ 2000000) (hl : lenI x ≤ 2000000) :
    ACalls Tryz.prog 52 [.agg (stmtEI x), .ptr b 0] (bld0 b) (fun r H' => r = .ret (.tuple []) ∧ ∃ q : Rm (rowT x), H' = bldH b q.1.1 q.1.2 (rowT x)) := by
  refine acalls_of_awp tyok cbPut Tryz.func52 rfl rfl ?_
  have g1 := line_c x ha hl
  have hn := lineI_len x
  have g2 := write0_c b (rowT x) (rowT_ne x) (by rw [rowT_len]; omega)
  have hm1 : ({ data := #[10] } : ByteArray).data.toList.length = 1 := rfl
  ((repeat (first | refine wKB ?_ | refine awp_seq_k (fun K hK => ?_) | refine areg_text mixed tyok (by decide +kernel) ?_ | refine TR.pcall rfl rfl rfl rfl True.intro rfl rfl (g1) ?_ | refine pco rfl rfl rfl rfl rfl rfl rfl rfl (fun _ => g1) ?_ | ((repeat ((fail_if_success (refine hK _ _ ?_)); clear hK)); refine hK _ _ ?_; clear hK))); ((first | refine qal tyok (fun b2 => ?_) | refine qbox (fun b2 => ?_) | refine qboxV (fun b2 => ?_))); (repeat (first | refine wKB ?_ | refine awp_seq_k (fun K hK => ?_) | refine areg_text mixed tyok (by decide +kernel) ?_ | refine qal tyok (fun bx => ?_) | refine qbox (fun bx => ?_) | refine qboxV (fun bx => ?_) | refine TR.pcall rfl rfl rfl rfl True.intro rfl rfl (g1) ?_ | refine pco rfl rfl rfl rfl rfl rfl rfl rfl (fun _ => g1) ?_ | ((repeat ((fail_if_success (refine hK _ _ ?_)); clear hK)); refine hK _ _ ?_; clear hK))))
  refine qcallX (G := [_]) g2 fun q => ?_
  repeat (first | refine wK ?_ | refine awp_seq_k (fun K hK => ?_) | refine areg_text mixed tyok (by decide +kernel) ?_ | refine qal tyok (fun bx => ?_) | refine qbox (fun bx => ?_) | refine qboxV (fun bx => ?_) | ((repeat ((fail_if_success (refine hK _ _ ?_)); clear hK)); refine hK _ _ ?_; clear hK))
  exact fnQ_ret 1 rfl .nil (Sub.refl _) ⟨rfl, q, rfl⟩

set_option maxHeartbeats 1600000 in
set_option maxRecDepth 100000 in
theorem put_c (b g cap : Nat) (s : List UInt8) (x : StI) (hc : s.length ≤ cap) (hm : cap ≤ maxLen) (hs : s.length + (rowT x).length ≤ 1000000000) (ha : x.args.length ≤ 2000000) (hl : lenI x ≤ 2000000) :
    ACalls Tryz.prog 52 [.agg (stmtEI x), .ptr b 0] (bldH b g cap s) (fun r H' => r = .ret (.tuple []) ∧ ∃ q : Rm (s ++ rowT x), H' = bldH b q.1.1 q.1.2 (s ++ rowT x)) := by
  refine acalls_of_awp tyok cbPut Tryz.func52 rfl rfl ?_
  have g1 := line_c x ha hl
  have hn := lineI_len x
  have g2 := write_c b g cap s (rowT x) (rowT_ne x) hc hm hs
  have hm1 : ({ data := #[10] } : ByteArray).data.toList.length = 1 := rfl
  ((repeat (first | refine wKB ?_ | refine awp_seq_k (fun K hK => ?_) | refine areg_text mixed tyok (by decide +kernel) ?_ | refine TR.pcall rfl rfl rfl rfl True.intro rfl rfl (g1) ?_ | refine pco rfl rfl rfl rfl rfl rfl rfl rfl (fun _ => g1) ?_ | ((repeat ((fail_if_success (refine hK _ _ ?_)); clear hK)); refine hK _ _ ?_; clear hK))); ((first | refine qal tyok (fun b2 => ?_) | refine qbox (fun b2 => ?_) | refine qboxV (fun b2 => ?_))); (repeat (first | refine wKB ?_ | refine awp_seq_k (fun K hK => ?_) | refine areg_text mixed tyok (by decide +kernel) ?_ | refine qal tyok (fun bx => ?_) | refine qbox (fun bx => ?_) | refine qboxV (fun bx => ?_) | refine TR.pcall rfl rfl rfl rfl True.intro rfl rfl (g1) ?_ | refine pco rfl rfl rfl rfl rfl rfl rfl rfl (fun _ => g1) ?_ | ((repeat ((fail_if_success (refine hK _ _ ?_)); clear hK)); refine hK _ _ ?_; clear hK))))
  refine qcallX (G := [_]) g2 fun q => ?_
  repeat (first | refine wK ?_ | refine awp_seq_k (fun K hK => ?_) | refine areg_text mixed tyok (by decide +kernel) ?_ | refine qal tyok (fun bx => ?_) | refine qbox (fun bx => ?_) | refine qboxV (fun bx => ?_) | ((repeat ((fail_if_success (refine hK _ _ ?_)); clear hK)); refine hK _ _ ?_; clear hK))
  exact fnQ_ret 1 rfl .nil (Sub.refl _) ⟨rfl, q, rfl⟩

theorem okAll_any (x : StI) : (wordsL x).any (fun t => !wordOk t) = !okAll x := by
  unfold okAll
  rw [List.not_all_eq_any_not]

theorem wordsL_mem {x : StI} {t : TokI} (h : t ∈ wordsL x) : t = x.new ∨ t = x.word ∨ t ∈ x.args := by
  unfold wordsL at h
  simp only [List.mem_append] at h
  rcases h with (h | h) | h
  · split at h
    · exact .inl (List.mem_singleton.1 h)
    · cases h
  · split at h
    · exact .inr (.inl (List.mem_singleton.1 h))
    · cases h
  · split at h
    · cases h
    · exact .inr (.inr h)

theorem wordsL_len (x : StI) : (wordsL x).length ≤ x.args.length + 2 := by
  unfold wordsL
  simp only [List.length_append]
  split <;> split <;> split <;> simp <;> omega

theorem cbPrint : Callable Tryz.prog 25 := fun _ _ => by kernel_rfl
set_option maxHeartbeats 3200000 in
set_option maxRecDepth 100000 in
theorem print_c (l : List StI) (hs : Small l) : PCalls Tryz.prog 25 [stmtsI l] (.tuple [.str (printF l).2, .int .i64 (printF l).1]) := by
  refine pcalls_of_awp tyok cbPrint Tryz.func25 rfl rfl ?_
  have g := check_c l (by have := hs.len; omega) (fun x hx => by have := hs.args x hx; omega)
  by_cases h : (lookF l).e = 0
  rotate_left
  · have e : printF l = ((lookF l).e, []) := by unfold printF; rw [if_pos h]
    ((repeat (first | refine wKB ?_ | refine awp_seq_k (fun K hK => ?_) | refine areg_text mixed tyok (by decide +kernel) ?_ | refine TR.pcall rfl rfl rfl rfl True.intro rfl rfl (g) ?_ | refine pco rfl rfl rfl rfl rfl rfl rfl rfl (fun _ => g) ?_ | ((repeat ((fail_if_success (refine hK _ _ ?_)); clear hK)); refine hK _ _ ?_; clear hK))); ((first | refine qal tyok (fun b4 => ?_) | refine qbox (fun b4 => ?_) | refine qboxV (fun b4 => ?_))); (repeat (first | refine wKB ?_ | refine awp_seq_k (fun K hK => ?_) | refine areg_text mixed tyok (by decide +kernel) ?_ | refine qal tyok (fun bx => ?_) | refine qbox (fun bx => ?_) | refine qboxV (fun bx => ?_) | refine TR.pcall rfl rfl rfl rfl True.intro rfl rfl (g) ?_ | refine pco rfl rfl rfl rfl rfl rfl rfl rfl (fun _ => g) ?_ | ((repeat ((fail_if_success (refine hK _ _ ?_)); clear hK)); refine hK _ _ ?_; clear hK))))
    refine fnQ_ret 1 rfl (.tmp rfl (.tmp rfl .nil)) ?_ ⟨rfl, rfl⟩
    rw [e]
    exact Sub.refl _
  have hf : printF l = if l.all okAll = true then (0, printT l) else (4, []) := by unfold printF; rw [if_neg (by simpa using h)]
  have h3 := (lookF_id h).1
  have hll := hs.len
  ((repeat (first | refine wKB ?_ | refine awp_seq_k (fun K hK => ?_) | refine areg_text mixed tyok (by decide +kernel) ?_ | refine TR.pcall rfl rfl rfl rfl True.intro rfl rfl (g) ?_ | refine pco rfl rfl rfl rfl rfl rfl rfl rfl (fun _ => g) ?_ | ((repeat ((fail_if_success (refine hK _ _ ?_)); clear hK)); refine hK _ _ ?_; clear hK))); ((first | refine qal tyok (fun b4 => ?_) | refine qbox (fun b4 => ?_) | refine qboxV (fun b4 => ?_))); (repeat (first | refine wKB ?_ | refine awp_seq_k (fun K hK => ?_) | refine areg_text mixed tyok (by decide +kernel) ?_ | refine TR.pcall rfl rfl rfl rfl True.intro rfl rfl (g) ?_ | refine pco rfl rfl rfl rfl rfl rfl rfl rfl (fun _ => g) ?_ | ((repeat ((fail_if_success (refine hK _ _ ?_)); clear hK)); refine hK _ _ ?_; clear hK))); ((first | refine qal tyok (fun b6 => ?_) | refine qbox (fun b6 => ?_) | refine qboxV (fun b6 => ?_))); (repeat (first | refine wKB ?_ | refine awp_seq_k (fun K hK => ?_) | refine areg_text mixed tyok (by decide +kernel) ?_ | refine qal tyok (fun bx => ?_) | refine qbox (fun bx => ?_) | refine qboxV (fun bx => ?_) | refine TR.pcall rfl rfl rfl rfl True.intro rfl rfl (g) ?_ | refine pco rfl rfl rfl rfl rfl rfl rfl rfl (fun _ => g) ?_ | ((repeat ((fail_if_success (refine hK _ _ ?_)); clear hK)); refine hK _ _ ?_; clear hK))))
  refine awp_permS (List.Perm.swap _ _ _) ?_
  refine awp_loop0 (ι := { y : Nat × Nat × Nat // y.1 ≤ l.length ∧ (∀ j, j < y.1 → okAll (l.getD j default) = true) ∧ (y.1 ≠ 0 → (printT (l.take y.1)).length ≤ y.2.2 ∧ y.2.2 ≤ maxLen) })
    (fun y => [(0, stmtsI l), (6, .ptr b6 0), (7, .func (.func 52) [] [.ptr b6 0]), (19, stmtsI l), (20, .int .i64 l.length), (21, .int .i64 y.1.1)])
    (fun y => bldX b6 y.1.1 (printT (l.take y.1.1)) y.1.2.1 y.1.2.2) (fun y => l.length - y.1.1) ⟨(0, 0, 0), Nat.zero_le _, fun j hj => absurd hj (by simp), fun h => absurd rfl h⟩ (by (repeat (first | exact True.intro | refine ⟨⟨_, rfl, Sub.refl _⟩, ?_⟩ | refine ⟨⟨_, rfl, Sub.nilso _ _⟩, ?_⟩ | refine ⟨⟨_, rfl, sl_tail _ _ _ _ _⟩, ?_⟩ | refine ⟨⟨_, rfl, Sub.of_eq (by first | rfl | (congr 1; first | omega | (simp only; omega)) | (simp; done) | (simp; omega))⟩, ?_⟩ | refine ⟨⟨_, rfl, Sub.view _ _ _ _⟩, ?_⟩))) ⟨1, rfl⟩ ?_
  rintro ⟨⟨i, g, cap⟩, hi, hn, hr⟩
  simp only at hi hn hr ⊢
  by_cases hlt : i < l.length
  · have hlt' : (i : Int) < l.length := by omega
    have hm : l.getD i default ∈ l := by rw [getD_at hlt]; exact List.getElem_mem hlt
    have q1 := hs.args _ hm
    have q2 := hs.line _ hm
    have q3 := hs.new _ hm
    have q4 := hs.word _ hm
    have q5 := hs.args' _ hm
    have q6 := hs.sum
    have q7 := printT_len (l.take (i + 1))
    have q8 := sumLen_take l (i + 1)
    have q9 := printT_succ hlt
    have gw := pwords_c (l.getD i default) q1
    have gc := containsT_c (wordsL (l.getD i default)) 56 (fun t => !wordOk t) (by have := wordsL_len (l.getD i default); omega) (fun j hj => notWord_c _ (by
      have hmem : (wordsL (l.getD i default)).getD j default ∈ wordsL (l.getD i default) := by rw [getD_at hj]; exact List.getElem_mem hj
      rcases wordsL_mem hmem with e | e | e
      · rw [e]; exact q3
      · rw [e]; exact q4
      · exact q5 _ e))
    rw [okAll_any] at gc
    ((repeat (first | refine wKB ?_ | refine awp_seq_k (fun K hK => ?_) | refine areg_text mixed tyok (by decide +kernel) ?_ | ((repeat ((fail_if_success (refine hK _ _ ?_)); clear hK)); refine hK _ _ ?_; clear hK))); ((first | refine qal tyok (fun b9 => ?_) | refine qbox (fun b9 => ?_) | refine qboxV (fun b9 => ?_))))
    (((repeat (first | refine wT ?_ | refine qal tyok (fun bx => ?_) | refine qbox (fun bx => ?_) | refine qboxV (fun bx => ?_)))); repeat (first | (with_reducible refine pQ_normal ?_) | (with_reducible refine thenQ_normal ?_) | (with_reducible refine blockQ_normal ?_) | (with_reducible refine thenQ_exit ?_) | (with_reducible refine blockQ_hit ?_) | refine blockQ_miss rfl ?_ | (with_reducible refine thenQ_ret ?_) | (with_reducible refine blockQ_ret ?_) | (with_reducible refine pQ_panic ?_) | (with_reducible refine thenQ_panic ?_) | (with_reducible refine blockQ_panic ?_)); ((repeat ((fail_if_success (refine hK _ _ ?_)); clear hK)); refine hK _ _ ?_; clear hK))
    refine awp_boxSub [] (v' := .agg (stmtEI (l.getD i default))) (Sub.of_eq rfl) ?_
    refine awp_freeze [] (s := 9) rfl rfl ?_
    cases hw : okAll (l.getD i default) with
    | false =>
      rw [hw] at gc
      have ea : ¬ l.all okAll = true := fun ha => by
        have := List.all_eq_true.1 ha _ hm
        rw [hw] at this
        cases this
      repeat (first | refine wKB ?_ | refine awp_seq_k (fun K hK => ?_) | refine areg_text mixed tyok (by decide +kernel) ?_ | refine qal tyok (fun bx => ?_) | refine qbox (fun bx => ?_) | refine qboxV (fun bx => ?_) | refine TR.pcall rfl rfl rfl rfl True.intro rfl rfl (gw) ?_ | refine TR.pcall rfl rfl rfl rfl True.intro rfl rfl (gc) ?_ | refine pco rfl rfl rfl rfl rfl rfl rfl rfl (fun _ => gw) ?_ | refine pco rfl rfl rfl rfl rfl rfl rfl rfl (fun _ => gc) ?_ | ((repeat ((fail_if_success (refine hK _ _ ?_)); clear hK)); refine hK _ _ ?_; clear hK))
      refine fnQ_ret 2 rfl (.tmp rfl (.tmp rfl .nil)) ?_ ⟨rfl, by cases i <;> rfl⟩
      rw [hf, if_neg ea]
      exact Sub.refl _
    | true =>
      rw [hw] at gc
      have hn2 : ∀ j, j < i + 1 → okAll (l.getD j default) = true := by
        intro j hj
        by_cases e : j = i
        · rw [e]; exact hw
        · exact hn j (by omega)
      have hN : printT (l.take (i + 1)) = printT (l.take i) ++ rowT (l.getD i default) := q9
      have hNl : (printT (l.take i)).length + (rowT (l.getD i default)).length ≤ 1000000000 := by
        rw [hN, List.length_append] at q7
        omega
      repeat (first | refine wKB ?_ | refine awp_seq_k (fun K hK => ?_) | refine areg_text mixed tyok (by decide +kernel) ?_ | refine qal tyok (fun bx => ?_) | refine qbox (fun bx => ?_) | refine qboxV (fun bx => ?_) | refine TR.pcall rfl rfl rfl rfl True.intro rfl rfl (gw) ?_ | refine TR.pcall rfl rfl rfl rfl True.intro rfl rfl (gc) ?_ | refine pco rfl rfl rfl rfl rfl rfl rfl rfl (fun _ => gw) ?_ | refine pco rfl rfl rfl rfl rfl rfl rfl rfl (fun _ => gc) ?_ | ((repeat ((fail_if_success (refine hK _ _ ?_)); clear hK)); refine hK _ _ ?_; clear hK))
      cases i with
      | zero =>
        refine qcallX (G := []) (put0_c b6 _ q1 q2) fun q => ?_
        repeat (first | refine wKB ?_ | refine awp_seq_k (fun K hK => ?_) | refine areg_text mixed tyok (by decide +kernel) ?_ | refine qal tyok (fun bx => ?_) | refine qbox (fun bx => ?_) | refine qboxV (fun bx => ?_) | ((repeat ((fail_if_success (refine hK _ _ ?_)); clear hK)); refine hK _ _ ?_; clear hK))
        have hN : printT (l.take (0 + 1)) = rowT (l.getD 0 default) := hN
        refine ⟨⟨(1, q.1.1, q.1.2), hlt, hn2, fun _ => by rw [hN]; exact q.2⟩, (by (repeat (first | exact True.intro | refine ⟨⟨_, rfl, Sub.refl _⟩, ?_⟩ | refine ⟨⟨_, rfl, Sub.nilso _ _⟩, ?_⟩ | refine ⟨⟨_, rfl, sl_tail _ _ _ _ _⟩, ?_⟩ | refine ⟨⟨_, rfl, Sub.of_eq (by first | rfl | (congr 1; first | omega | (simp only; omega)) | (simp; done) | (simp; omega))⟩, ?_⟩ | refine ⟨⟨_, rfl, Sub.view _ _ _ _⟩, ?_⟩))), ⟨0, ?_⟩, by simp only; omega⟩
        show bldH b6 q.1.1 q.1.2 _ = bldH b6 q.1.1 q.1.2 (printT (l.take (0 + 1)))
        rw [hN]
      | succ i =>
        obtain ⟨r1, r2⟩ := hr (Nat.succ_ne_zero i)
        refine qcallX (G := []) (put_c b6 g cap _ _ r1 r2 hNl q1 q2) fun q => ?_
        repeat (first | refine wKB ?_ | refine awp_seq_k (fun K hK => ?_) | refine areg_text mixed tyok (by decide +kernel) ?_ | refine qal tyok (fun bx => ?_) | refine qbox (fun bx => ?_) | refine qboxV (fun bx => ?_) | ((repeat ((fail_if_success (refine hK _ _ ?_)); clear hK)); refine hK _ _ ?_; clear hK))
        refine ⟨⟨(i + 2, q.1.1, q.1.2), hlt, hn2, fun _ => by rw [hN]; exact q.2⟩, (by (repeat (first | exact True.intro | refine ⟨⟨_, rfl, Sub.refl _⟩, ?_⟩ | refine ⟨⟨_, rfl, Sub.nilso _ _⟩, ?_⟩ | refine ⟨⟨_, rfl, sl_tail _ _ _ _ _⟩, ?_⟩ | refine ⟨⟨_, rfl, Sub.of_eq (by first | rfl | (congr 1; first | omega | (simp only; omega)) | (simp; done) | (simp; omega))⟩, ?_⟩ | refine ⟨⟨_, rfl, Sub.view _ _ _ _⟩, ?_⟩))), ⟨0, ?_⟩, by simp only; omega⟩
        show bldH b6 q.1.1 q.1.2 _ = bldH b6 q.1.1 q.1.2 (printT (l.take (i + 1 + 1)))
        rw [hN]
  · have hge : ¬ (i : Int) < l.length := by omega
    obtain ⟨m, rfl⟩ : ∃ m, i = m + 1 := ⟨i - 1, by omega⟩
    have hm : m < l.length := by omega
    have he : m + 1 = l.length := by omega
    obtain ⟨r1, r2⟩ := hr (Nat.succ_ne_zero m)
    have ea : l.all okAll = true := by
      rw [List.all_eq_true]
      intro x hx
      obtain ⟨j, hj, e⟩ := List.getElem_of_mem hx
      have := hn j (by omega)
      rw [getD_at hj, e] at this
      exact this
    have q9 := printT_succ hm
    have q7 := printT_len (l.take (m + 1))
    have q8 := sumLen_take l (m + 1)
    have q6 := hs.sum
    have gs := string_c b6 g cap (printT (l.take (m + 1))) (by rw [q9]; simp) r1 (by omega)
    repeat (first | refine wKB ?_ | refine awp_seq_k (fun K hK => ?_) | refine areg_text mixed tyok (by decide +kernel) ?_ | refine qal tyok (fun bx => ?_) | refine qbox (fun bx => ?_) | refine qboxV (fun bx => ?_) | ((repeat ((fail_if_success (refine hK _ _ ?_)); clear hK)); refine hK _ _ ?_; clear hK))
    refine qcallH (G := []) gs ?_
    repeat (first | refine wKB ?_ | refine awp_seq_k (fun K hK => ?_) | refine areg_text mixed tyok (by decide +kernel) ?_ | refine qal tyok (fun bx => ?_) | refine qbox (fun bx => ?_) | refine qboxV (fun bx => ?_) | ((repeat ((fail_if_success (refine hK _ _ ?_)); clear hK)); refine hK _ _ ?_; clear hK))
    refine fnQ_ret 0 rfl (.tmp rfl (.tmp rfl .nil)) ?_ ⟨rfl, rfl⟩
    rw [hf, if_pos ea, he, List.take_length]
    exact Sub.refl _

end Go.Proofs.YtjinaakebjfbiaaGreatDoor
