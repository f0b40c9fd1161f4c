/-
  FigureBuilt returns true.
-/
import Derived.Test.YtpodjhapjcncdaaDoorFgA
import Derived.Test.YtpodjhapjcncdaaDoorAb22
namespace Go.Proofs.YtpodjhapjcncdaaDoor
open Go.Ab

def prsF (bp : List Int) : List (Int × Int) := match bp with
  | [x, y] => [(x, y)]
  | [x, y, z] => [(x, y), (y, z), (x, z)]
  | [x, y, z, w] => [(x, y), (z, w)]
  | _ => []
def bwOk (bp : List Int) (w : List UInt8) : Bool := match bp with
  | [] => decide (w = [])
  | [_, _] => decide (w = [117, 110, 108, 105, 107, 101])
  | [_, _, _] => decide (w = [97, 112, 97, 114, 116])
  | [_, _, _, _] => decide (w = [99, 114, 111, 115, 115] ∨ w = [100, 111, 116])
  | _ => false
def bltC (f : FigR) : Bool := decide (f.nums = 0 ∨ f.nums = 2) && (decide (f.unl = (prsF f.bp).map fun p => (p.1 - 1, p.2 - 1)) && (f.bp.all (fun x => decide (0 ≤ x ∧ x ≤ 100)) && bwOk f.bp f.bw))
def bltP (f : FigR) : Bool := decide (f.nums = 0 ∧ f.unl = [] ∧ f.bw = [] ∧ f.bp = [])

set_option maxRecDepth 100000 in
theorem blt_made : allB conF bltC (wordsT made21) = true := by decide +kernel
set_option maxRecDepth 100000 in
theorem blt_asked : allB preF bltP (wordsT asked21) = true := by decide +kernel

theorem bw_cases {bp : List Int} {w : List UInt8} (h : bwOk bp w = true) : (bp = [] ∧ w = []) ∨ (∃ x y, bp = [x, y] ∧ w = [117, 110, 108, 105, 107, 101]) ∨ (∃ x y z, bp = [x, y, z] ∧ w = [97, 112, 97, 114, 116]) ∨
    (∃ x y z t, bp = [x, y, z, t] ∧ w = [99, 114, 111, 115, 115]) ∨ (∃ x y z t, bp = [x, y, z, t] ∧ w = [100, 111, 116]) := by
  unfold bwOk at h
  split at h
  · exact .inl ⟨rfl, of_decide_eq_true h⟩
  · exact .inr (.inl ⟨_, _, rfl, of_decide_eq_true h⟩)
  · exact .inr (.inr (.inl ⟨_, _, _, rfl, of_decide_eq_true h⟩))
  · rcases of_decide_eq_true h with h | h
    · exact .inr (.inr (.inr (.inl ⟨_, _, _, _, rfl, h⟩)))
    · exact .inr (.inr (.inr (.inr ⟨_, _, _, _, rfl, h⟩)))
  · cases h

theorem prs_bd {bp : List Int} (h : ∀ x ∈ bp, 0 ≤ x ∧ x ≤ 100) : ∀ p ∈ prsF bp, 0 ≤ p.1 ∧ p.1 ≤ 100 ∧ 0 ≤ p.2 ∧ p.2 ≤ 100 := by
  intro p hp
  unfold prsF at hp
  split at hp
  all_goals
    simp only [List.mem_cons, List.not_mem_nil, or_false] at hp
    try (rcases hp with rfl | rfl | rfl)
    try (rcases hp with rfl | rfl)
    try subst hp
    all_goals (simp only [List.mem_cons, List.not_mem_nil, or_false, forall_eq_or_imp, forall_eq] at h)
    all_goals (first | omega | cases hp)

theorem prs_len (bp : List Int) : (prsF bp).length ≤ 3 := by
  unfold prsF
  split <;> simp

theorem prs1 (a b : Int) : Sub (.slice 2 1 (chunk [.int .i64 a, .int .i64 b] 2) .full) (sl pairE 2 [(a, b)] .view) :=
  (Sub.view _ _ _ _).trans (Sub.els fun i hi => match i, hi with
    | 0, _ => SubL.refl _)
theorem prs2 (a b c d : Int) : Sub (.slice 2 2 (chunk [.int .i64 a, .int .i64 b, .int .i64 c, .int .i64 d] 2) .full) (sl pairE 2 [(a, b), (c, d)] .view) :=
  (Sub.view _ _ _ _).trans (Sub.els fun i hi => match i, hi with
    | 0, _ => SubL.refl _
    | 1, _ => SubL.refl _)
theorem prs3 (a b c d e f : Int) : Sub (.slice 2 3 (chunk [.int .i64 a, .int .i64 b, .int .i64 c, .int .i64 d, .int .i64 e, .int .i64 f] 2) .full) (sl pairE 2 [(a, b), (c, d), (e, f)] .view) :=
  (Sub.view _ _ _ _).trans (Sub.els fun i hi => match i, hi with
    | 0, _ => SubL.refl _
    | 1, _ => SubL.refl _
    | 2, _ => SubL.refl _)

theorem cbFb : Callable Tryd.prog 6 := fun _ _ => by kernel_rfl
set_option maxHeartbeats 6400000 in
set_option maxRecDepth 100000 in
theorem figureBuilt_c (n : Int) (b : Bool) : PCalls Tryd.prog 6 [.int .i64 n, .bool b] (.bool true) := by
  refine pcalls_of_awp tyok cbFb Tryd.func6 rfl rfl ?_
  obtain ⟨hJ0, hJ1⟩ := pickJ_bd n b
  have hw0 := u64_pos n
  have gc := constructions_c
  have gpr := predicates_c
  have kn := known21_c
  have hmn := made_n
  have han := asked_n
  cases b
  · obtain ⟨f, hf, hck⟩ := allB_at blt_made (j := (pickJ n false).toNat) (by
      have e : (wsB false).length = (wordsT made21).length := rfl
      omega)
    have hcall := construction_c ((wordsT made21).getD (pickJ n false).toNat default)
    rw [hf] at hcall
    simp only [figV] at hcall
    unfold bltC at hck
    simp only [Bool.and_eq_true, decide_eq_true_eq] at hck
    obtain ⟨hnum, hunl, hbd, hbw⟩ := hck
    obtain ⟨wd, pts, nums, unl, eqs, bw, bp⟩ := f
    simp only at hnum hunl hbd hbw
    have hbd' : ∀ x ∈ bp, 0 ≤ x ∧ x ≤ 100 := fun x hx => by simpa using List.all_eq_true.1 hbd x hx
    have hpb := prs_bd hbd'
    have hlen : unl.length = (prsF bp).length := by rw [hunl, List.length_map]
    have hlw : ((wordsT made21).length : Int) = 29 := by rw [hmn]; rfl
    have el : IntKind.u64.wrap ((wordsT made21).length : Int) = 29 := by rw [hlw]; decide
    have ej : IntKind.i64.wrap (IntKind.u64.wrap n % IntKind.u64.wrap ((wordsT made21).length : Int)) = pickJ n false := by rw [hlw]; rfl
    have hJ1' : pickJ n false < ((wordsT made21).length : Int) := hJ1
    have elw : 0 < IntKind.u64.wrap ((wordsT made21).length : Int) := by rw [el]; decide
    rw [← ej] at hcall hJ0 hJ1'
    have hcs := bw_cases hbw
    have hp3 := prs_len bp
    ((repeat (first | refine wKB ?_ | refine awp_seq_k (fun K hK => ?_) | refine areg_text mixed tyok (by decide +kernel) ?_ | refine TR.pcall rfl rfl rfl rfl True.intro rfl rfl (gc) ?_ | refine TR.pcall rfl rfl rfl rfl True.intro rfl rfl (gpr) ?_ | refine TR.pcall rfl rfl rfl rfl True.intro rfl rfl (hcall) ?_ | refine pco rfl rfl rfl rfl rfl rfl rfl rfl (fun _ => gc) ?_ | refine pco rfl rfl rfl rfl rfl rfl rfl rfl (fun _ => gpr) ?_ | refine pco rfl rfl rfl rfl rfl rfl rfl rfl (fun _ => hcall) ?_ | ((repeat ((fail_if_success (refine hK _ _ ?_)); clear hK)); refine hK _ _ ?_; clear hK))); ((first | refine qal tyok (fun b7 => ?_) | refine qbox (fun b7 => ?_) | refine qboxV (fun b7 => ?_))); (repeat (first | refine wKB ?_ | refine awp_seq_k (fun K hK => ?_) | refine areg_text mixed tyok (by decide +kernel) ?_ | refine qal tyok (fun bx => ?_) | refine qbox (fun bx => ?_) | refine qboxV (fun bx => ?_) | refine TR.pcall rfl rfl rfl rfl True.intro rfl rfl (gc) ?_ | refine TR.pcall rfl rfl rfl rfl True.intro rfl rfl (gpr) ?_ | refine TR.pcall rfl rfl rfl rfl True.intro rfl rfl (hcall) ?_ | refine pco rfl rfl rfl rfl rfl rfl rfl rfl (fun _ => gc) ?_ | refine pco rfl rfl rfl rfl rfl rfl rfl rfl (fun _ => gpr) ?_ | refine pco rfl rfl rfl rfl rfl rfl rfl rfl (fun _ => hcall) ?_ | ((repeat ((fail_if_success (refine hK _ _ ?_)); clear hK)); refine hK _ _ ?_; clear hK))))
    refine (have hr := cutKP (Wk := [(7, .ptr b7 0), (10, sl pairE 2 (prsF bp) .view)]) (H0 := [.box b7 33 (.agg [.str wd, .int .i64 pts, .int .i64 nums, sl pairE 2 unl .view, sl eqE 1 eqs .view, .str bw, sl numE 1 bp .view])]) hK ?_; ?_)
    rotate_left
    · clear hK
      rcases hcs with ⟨rfl, rfl⟩ | ⟨x, y, rfl, rfl⟩ | ⟨x, y, z, rfl, rfl⟩ | ⟨x, y, z, t, rfl, rfl⟩ | ⟨x, y, z, t, rfl, rfl⟩
      · repeat (first | refine wKB ?_ | refine awp_seq_k (fun K hK => ?_) | refine areg_text mixed tyok (by decide +kernel) ?_ | refine qal tyok (fun bx => ?_) | refine qbox (fun bx => ?_) | refine qboxV (fun bx => ?_) | ((repeat ((fail_if_success (refine hK _ _ ?_)); clear hK)); refine hK _ _ ?_; clear hK))
        refine hr _ _ ?_ (List.Perm.refl _)
        refine ⟨⟨_, rfl, Sub.refl _⟩, ⟨_, rfl, Sub.nilsv _ _⟩, trivial⟩
      · have hl : (([x, y] : List Int).length : Int) = 2 := rfl
        repeat (first | refine wKB ?_ | refine awp_seq_k (fun K hK => ?_) | refine areg_text mixed tyok (by decide +kernel) ?_ | refine qal tyok (fun bx => ?_) | refine qbox (fun bx => ?_) | refine qboxV (fun bx => ?_) | ((repeat ((fail_if_success (refine hK _ _ ?_)); clear hK)); refine hK _ _ ?_; clear hK))
        refine qarr2 tyok ?_
        repeat (first | refine wKB ?_ | refine awp_seq_k (fun K hK => ?_) | refine areg_text mixed tyok (by decide +kernel) ?_ | refine qal tyok (fun bx => ?_) | refine qbox (fun bx => ?_) | refine qboxV (fun bx => ?_) | ((repeat ((fail_if_success (refine hK _ _ ?_)); clear hK)); refine hK _ _ ?_; clear hK))
        refine hr _ _ ?_ (List.Perm.refl _)
        refine ⟨⟨_, rfl, Sub.refl _⟩, ⟨_, rfl, prs1 x y⟩, trivial⟩
      · have hl : (([x, y, z] : List Int).length : Int) = 3 := rfl
        repeat (first | refine wKB ?_ | refine awp_seq_k (fun K hK => ?_) | refine areg_text mixed tyok (by decide +kernel) ?_ | refine qal tyok (fun bx => ?_) | refine qbox (fun bx => ?_) | refine qboxV (fun bx => ?_) | ((repeat ((fail_if_success (refine hK _ _ ?_)); clear hK)); refine hK _ _ ?_; clear hK))
        refine qarr2 tyok ?_
        repeat (first | refine wKB ?_ | refine awp_seq_k (fun K hK => ?_) | refine areg_text mixed tyok (by decide +kernel) ?_ | refine qal tyok (fun bx => ?_) | refine qbox (fun bx => ?_) | refine qboxV (fun bx => ?_) | ((repeat ((fail_if_success (refine hK _ _ ?_)); clear hK)); refine hK _ _ ?_; clear hK))
        refine qarr2 tyok ?_
        repeat (first | refine wKB ?_ | refine awp_seq_k (fun K hK => ?_) | refine areg_text mixed tyok (by decide +kernel) ?_ | refine qal tyok (fun bx => ?_) | refine qbox (fun bx => ?_) | refine qboxV (fun bx => ?_) | ((repeat ((fail_if_success (refine hK _ _ ?_)); clear hK)); refine hK _ _ ?_; clear hK))
        refine qarr2 tyok ?_
        repeat (first | refine wKB ?_ | refine awp_seq_k (fun K hK => ?_) | refine areg_text mixed tyok (by decide +kernel) ?_ | refine qal tyok (fun bx => ?_) | refine qbox (fun bx => ?_) | refine qboxV (fun bx => ?_) | ((repeat ((fail_if_success (refine hK _ _ ?_)); clear hK)); refine hK _ _ ?_; clear hK))
        refine hr _ _ ?_ (List.Perm.refl _)
        refine ⟨⟨_, rfl, Sub.refl _⟩, ⟨_, rfl, prs3 x y y z x z⟩, trivial⟩
      · have hl : (([x, y, z, t] : List Int).length : Int) = 4 := rfl
        repeat (first | refine wKB ?_ | refine awp_seq_k (fun K hK => ?_) | refine areg_text mixed tyok (by decide +kernel) ?_ | refine qal tyok (fun bx => ?_) | refine qbox (fun bx => ?_) | refine qboxV (fun bx => ?_) | ((repeat ((fail_if_success (refine hK _ _ ?_)); clear hK)); refine hK _ _ ?_; clear hK))
        refine qarr2 tyok ?_
        repeat (first | refine wKB ?_ | refine awp_seq_k (fun K hK => ?_) | refine areg_text mixed tyok (by decide +kernel) ?_ | refine qal tyok (fun bx => ?_) | refine qbox (fun bx => ?_) | refine qboxV (fun bx => ?_) | ((repeat ((fail_if_success (refine hK _ _ ?_)); clear hK)); refine hK _ _ ?_; clear hK))
        refine qarr2 tyok ?_
        repeat (first | refine wKB ?_ | refine awp_seq_k (fun K hK => ?_) | refine areg_text mixed tyok (by decide +kernel) ?_ | refine qal tyok (fun bx => ?_) | refine qbox (fun bx => ?_) | refine qboxV (fun bx => ?_) | ((repeat ((fail_if_success (refine hK _ _ ?_)); clear hK)); refine hK _ _ ?_; clear hK))
        refine hr _ _ ?_ (List.Perm.refl _)
        refine ⟨⟨_, rfl, Sub.refl _⟩, ⟨_, rfl, prs2 x y z t⟩, trivial⟩
      · have hl : (([x, y, z, t] : List Int).length : Int) = 4 := rfl
        repeat (first | refine wKB ?_ | refine awp_seq_k (fun K hK => ?_) | refine areg_text mixed tyok (by decide +kernel) ?_ | refine qal tyok (fun bx => ?_) | refine qbox (fun bx => ?_) | refine qboxV (fun bx => ?_) | ((repeat ((fail_if_success (refine hK _ _ ?_)); clear hK)); refine hK _ _ ?_; clear hK))
        refine qarr2 tyok ?_
        repeat (first | refine wKB ?_ | refine awp_seq_k (fun K hK => ?_) | refine areg_text mixed tyok (by decide +kernel) ?_ | refine qal tyok (fun bx => ?_) | refine qbox (fun bx => ?_) | refine qboxV (fun bx => ?_) | ((repeat ((fail_if_success (refine hK _ _ ?_)); clear hK)); refine hK _ _ ?_; clear hK))
        refine qarr2 tyok ?_
        repeat (first | refine wKB ?_ | refine awp_seq_k (fun K hK => ?_) | refine areg_text mixed tyok (by decide +kernel) ?_ | refine qal tyok (fun bx => ?_) | refine qbox (fun bx => ?_) | refine qboxV (fun bx => ?_) | ((repeat ((fail_if_success (refine hK _ _ ?_)); clear hK)); refine hK _ _ ?_; clear hK))
        refine hr _ _ ?_ (List.Perm.refl _)
        refine ⟨⟨_, rfl, Sub.refl _⟩, ⟨_, rfl, prs2 x y z t⟩, trivial⟩
    clear hK
    repeat (first | refine wKB ?_ | refine awp_seq_k (fun K hK => ?_) | refine areg_text mixed tyok (by decide +kernel) ?_ | refine qal tyok (fun bx => ?_) | refine qbox (fun bx => ?_) | refine qboxV (fun bx => ?_) | ((repeat ((fail_if_success (refine hK _ _ ?_)); clear hK)); refine hK _ _ ?_; clear hK))
    refine awp_loopP (ι := { i : Nat // i ≤ (prsF bp).length }) (fun i => [(7, .ptr b7 0), (167, sl pairE 2 (prsF bp) .view), (168, .int .i64 (prsF bp).length), (169, .int .i64 i.1)]) (fun _ => [.box b7 33 (.agg [.str wd, .int .i64 pts, .int .i64 nums, sl pairE 2 unl .view, sl eqE 1 eqs .view, .str bw, sl numE 1 bp .view])]) (fun i => (prsF bp).length - i.1) ⟨0, Nat.zero_le _⟩ (by (repeat (first | exact True.intro | refine ⟨⟨_, rfl, Sub.refl _⟩, ?_⟩ | refine ⟨⟨_, rfl, Sub.nilso _ _⟩, ?_⟩ | refine ⟨⟨_, rfl, sl_tail _ _ _ _ _⟩, ?_⟩ | refine ⟨⟨_, rfl, Sub.of_eq (by first | rfl | (congr 1; first | omega | (simp only; omega)) | (simp; done) | (simp; omega))⟩, ?_⟩ | refine ⟨⟨_, rfl, Sub.view _ _ _ _⟩, ?_⟩))) ⟨[], List.Perm.refl _⟩ ?_
    rintro ⟨i, hi⟩
    simp only at hi ⊢
    by_cases hlt : i < (prsF bp).length
    · have hlt' : (i : Int) < ((prsF bp).length : Int) := by omega
      have hlu' : (i : Int) < (unl.length : Int) := by omega
      obtain ⟨b1, b2, b3, b4⟩ := hpb ((prsF bp).getD ((i : Int)).toNat default) (by
        have e : (prsF bp).getD ((i : Int)).toNat default = (prsF bp).getD i default := rfl
        rw [e, getD_at hlt]
        exact List.getElem_mem _)
      have hu : unl.getD ((i : Int)).toNat default = (((prsF bp).getD ((i : Int)).toNat default).1 - 1, ((prsF bp).getD ((i : Int)).toNat default).2 - 1) := by
        show unl.getD i default = (((prsF bp).getD i default).1 - 1, ((prsF bp).getD i default).2 - 1)
        have hiu : i < unl.length := by omega
        rw [getD_at hiu, getD_at hlt]
        simp only [hunl, List.getElem_map]
      ((repeat (first | refine wKB ?_ | refine awp_seq_k (fun K hK => ?_) | refine areg_text mixed tyok (by decide +kernel) ?_ | ((repeat ((fail_if_success (refine hK _ _ ?_)); clear hK)); refine hK _ _ ?_; clear hK))); ((first | refine qal tyok (fun b12 => ?_) | refine qbox (fun b12 => ?_) | refine qboxV (fun b12 => ?_))); (repeat (first | refine wKB ?_ | refine awp_seq_k (fun K hK => ?_) | refine areg_text mixed tyok (by decide +kernel) ?_ | refine qal tyok (fun bx => ?_) | refine qbox (fun bx => ?_) | refine qboxV (fun bx => ?_) | ((repeat ((fail_if_success (refine hK _ _ ?_)); clear hK)); refine hK _ _ ?_; clear hK))))
      refine qarr2 tyok ?_
      repeat (first | refine wKB ?_ | refine awp_seq_k (fun K hK => ?_) | refine areg_text mixed tyok (by decide +kernel) ?_ | refine qal tyok (fun bx => ?_) | refine qbox (fun bx => ?_) | refine qboxV (fun bx => ?_) | ((repeat ((fail_if_success (refine hK _ _ ?_)); clear hK)); refine hK _ _ ?_; clear hK))
      refine qneA2 tyok (by kernel_rfl) ?_
      repeat (first | refine wKB ?_ | refine awp_seq_k (fun K hK => ?_) | refine areg_text mixed tyok (by decide +kernel) ?_ | refine qal tyok (fun bx => ?_) | refine qbox (fun bx => ?_) | refine qboxV (fun bx => ?_) | ((repeat ((fail_if_success (refine hK _ _ ?_)); clear hK)); refine hK _ _ ?_; clear hK))
      refine awp_cond rfl (fun hb => ?_) (fun hb => ?_)
      · refine absurd hb ?_
        rw [hu]
        simp
      clear hb
      repeat (first | refine wKB ?_ | refine awp_seq_k (fun K hK => ?_) | refine areg_text mixed tyok (by decide +kernel) ?_ | refine qal tyok (fun bx => ?_) | refine qbox (fun bx => ?_) | refine qboxV (fun bx => ?_) | ((repeat ((fail_if_success (refine hK _ _ ?_)); clear hK)); refine hK _ _ ?_; clear hK))
      refine ⟨⟨i + 1, hlt⟩, (by (repeat (first | exact True.intro | refine ⟨⟨_, rfl, Sub.refl _⟩, ?_⟩ | refine ⟨⟨_, rfl, Sub.nilso _ _⟩, ?_⟩ | refine ⟨⟨_, rfl, sl_tail _ _ _ _ _⟩, ?_⟩ | refine ⟨⟨_, rfl, Sub.of_eq (by first | rfl | (congr 1; first | omega | (simp only; omega)) | (simp; done) | (simp; omega))⟩, ?_⟩ | refine ⟨⟨_, rfl, Sub.view _ _ _ _⟩, ?_⟩))), ⟨[_], List.Perm.refl _⟩, by simp only; omega⟩
    · have hge : ¬ (i : Int) < ((prsF bp).length : Int) := by omega
      rcases hnum with hnum | hnum
      · repeat (first | refine wKB ?_ | refine awp_seq_k (fun K hK => ?_) | refine areg_text mixed tyok (by decide +kernel) ?_ | refine qal tyok (fun bx => ?_) | refine qbox (fun bx => ?_) | refine qboxV (fun bx => ?_) | refine TR.pcall rfl rfl rfl rfl True.intro rfl rfl (kn) ?_ | refine pco rfl rfl rfl rfl rfl rfl rfl rfl (fun _ => kn) ?_ | ((repeat ((fail_if_success (refine hK _ _ ?_)); clear hK)); refine hK _ _ ?_; clear hK))
        refine r1 ?_
        exact Sub.refl _
      · repeat (first | refine wKB ?_ | refine awp_seq_k (fun K hK => ?_) | refine areg_text mixed tyok (by decide +kernel) ?_ | refine qal tyok (fun bx => ?_) | refine qbox (fun bx => ?_) | refine qboxV (fun bx => ?_) | refine TR.pcall rfl rfl rfl rfl True.intro rfl rfl (kn) ?_ | refine pco rfl rfl rfl rfl rfl rfl rfl rfl (fun _ => kn) ?_ | ((repeat ((fail_if_success (refine hK _ _ ?_)); clear hK)); refine hK _ _ ?_; clear hK))
        refine r1 ?_
        exact Sub.refl _
  · obtain ⟨f, hf, hck⟩ := allB_at blt_asked (j := (pickJ n true).toNat) (by
      have e : (wsB true).length = (wordsT asked21).length := rfl
      omega)
    have hcall := predicate_c ((wordsT asked21).getD (pickJ n true).toNat default)
    rw [hf] at hcall
    simp only [figV] at hcall
    unfold bltP at hck
    simp only [decide_eq_true_eq] at hck
    obtain ⟨wd, pts, nums, unl, eqs, bw, bp⟩ := f
    simp only at hck
    obtain ⟨rfl, rfl, rfl, rfl⟩ := hck
    have hlw : ((wordsT asked21).length : Int) = 20 := by rw [han]; rfl
    have el : IntKind.u64.wrap ((wordsT asked21).length : Int) = 20 := by rw [hlw]; decide
    have ej : IntKind.i64.wrap (IntKind.u64.wrap n % IntKind.u64.wrap ((wordsT asked21).length : Int)) = pickJ n true := by rw [hlw]; rfl
    have hJ1' : pickJ n true < ((wordsT asked21).length : Int) := hJ1
    have elw : 0 < IntKind.u64.wrap ((wordsT asked21).length : Int) := by rw [el]; decide
    rw [← ej] at hcall hJ0 hJ1'
    ((repeat (first | refine wKB ?_ | refine awp_seq_k (fun K hK => ?_) | refine areg_text mixed tyok (by decide +kernel) ?_ | refine TR.pcall rfl rfl rfl rfl True.intro rfl rfl (gc) ?_ | refine TR.pcall rfl rfl rfl rfl True.intro rfl rfl (gpr) ?_ | refine TR.pcall rfl rfl rfl rfl True.intro rfl rfl (hcall) ?_ | refine TR.pcall rfl rfl rfl rfl True.intro rfl rfl (kn) ?_ | refine pco rfl rfl rfl rfl rfl rfl rfl rfl (fun _ => gc) ?_ | refine pco rfl rfl rfl rfl rfl rfl rfl rfl (fun _ => gpr) ?_ | refine pco rfl rfl rfl rfl rfl rfl rfl rfl (fun _ => hcall) ?_ | refine pco rfl rfl rfl rfl rfl rfl rfl rfl (fun _ => kn) ?_ | ((repeat ((fail_if_success (refine hK _ _ ?_)); clear hK)); refine hK _ _ ?_; clear hK))); ((first | refine qal tyok (fun b7 => ?_) | refine qbox (fun b7 => ?_) | refine qboxV (fun b7 => ?_))); (repeat (first | refine wKB ?_ | refine awp_seq_k (fun K hK => ?_) | refine areg_text mixed tyok (by decide +kernel) ?_ | refine qal tyok (fun bx => ?_) | refine qbox (fun bx => ?_) | refine qboxV (fun bx => ?_) | refine TR.pcall rfl rfl rfl rfl True.intro rfl rfl (gc) ?_ | refine TR.pcall rfl rfl rfl rfl True.intro rfl rfl (gpr) ?_ | refine TR.pcall rfl rfl rfl rfl True.intro rfl rfl (hcall) ?_ | refine TR.pcall rfl rfl rfl rfl True.intro rfl rfl (kn) ?_ | refine pco rfl rfl rfl rfl rfl rfl rfl rfl (fun _ => gc) ?_ | refine pco rfl rfl rfl rfl rfl rfl rfl rfl (fun _ => gpr) ?_ | refine pco rfl rfl rfl rfl rfl rfl rfl rfl (fun _ => hcall) ?_ | refine pco rfl rfl rfl rfl rfl rfl rfl rfl (fun _ => kn) ?_ | ((repeat ((fail_if_success (refine hK _ _ ?_)); clear hK)); refine hK _ _ ?_; clear hK))))
    refine r1 ?_
    exact Sub.refl _

end Go.Proofs.YtpodjhapjcncdaaDoor
