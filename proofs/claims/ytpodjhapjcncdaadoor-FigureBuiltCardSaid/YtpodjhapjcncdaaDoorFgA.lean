/-
  FigureFits returns true: the walk.
-/
import Derived.Test.YtpodjhapjcncdaaDoorFg9
namespace Go.Proofs.YtpodjhapjcncdaaDoor
open Go.Ab

def fitX (last : Int) (x : FormR) : Bool := decide (0 ≤ x.a ∧ x.a ≤ last ∧ 0 ≤ x.b ∧ x.b ≤ last ∧ 0 ≤ x.c ∧ x.c ≤ last ∧ 0 ≤ x.d ∧ x.d ≤ last ∧ 1 ≤ x.k ∧ x.k ≤ 4)
def hereX (x : FormR) : Bool := decide (x.a = 0) || (decide (x.b = 0) || (decide (x.k > 2) && (decide (x.c = 0) || decide (x.d = 0))))
def fitP (last nums : Int) (p : PieceR) : Bool := decide (p.fs.length ≠ 0 ∧ p.fs.length ≤ 1000 ∧ p.n ≠ 0 ∧ 0 ≤ p.f ∧ p.f ≤ nums) && p.fs.all (fitX last)
def hereP (p : PieceR) : Bool := p.fs.any hereX
def fitE (last nums : Int) (b : Bool) (e : List PieceR) : Bool := decide (e.length ≤ 1000) && (e.all (fitP last nums) && (b || e.any hereP))
def fitU (pts : Int) (u : Int × Int) : Bool := decide (u.1 ≠ u.2 ∧ 0 ≤ u.1 ∧ 0 ≤ u.2 ∧ u.1 < pts ∧ u.2 < pts)
def lastB (b : Bool) (pts : Int) : Int := match b with
  | true => pts + 0 - 1
  | false => pts + 1 - 1
def maxB (b : Bool) : Nat := match b with
  | true => 3
  | false => 2
def fitB (b : Bool) (f : FigR) : Bool := decide (2 ≤ f.pts ∧ f.pts ≤ 8 ∧ 1 ≤ f.eqs.length ∧ f.eqs.length ≤ maxB b ∧ f.unl.length ≤ 1000 ∧ f.bp.length ≤ 1000) &&
  (f.eqs.all (fitE (lastB b f.pts) f.nums b) && (f.unl.all (fitU f.pts) && (f.bp.all (fun x => decide (0 ≤ x ∧ x ≤ lastB b f.pts)) && (f.bw.isEmpty == f.bp.isEmpty))))

def allB (R : List UInt8 → Option FigR) (ck : FigR → Bool) (ws : List (List UInt8)) : Bool := ws.all fun w => match R w with
  | some f => ck f
  | none => false

theorem allB_at {R : List UInt8 → Option FigR} {ck : FigR → Bool} {ws : List (List UInt8)} (h : allB R ck ws = true) {j : Nat} (hj : j < ws.length) : ∃ f, R (ws.getD j default) = some f ∧ ck f = true := by
  have := List.all_eq_true.1 h (ws.getD j default) (by rw [getD_at hj]; exact List.getElem_mem _)
  split at this
  · rename_i f hf
    exact ⟨f, hf, this⟩
  · cases this

set_option maxRecDepth 100000 in
theorem fit_made : allB conF (fitB false) (wordsT made21) = true := by decide +kernel
set_option maxRecDepth 100000 in
theorem fit_asked : allB preF (fitB true) (wordsT asked21) = true := by decide +kernel

theorem fit_at (b : Bool) {j : Nat} (hj : j < (wsB b).length) : ∃ f, figB b ((wsB b).getD j default) = some f ∧ fitB b f = true := by
  cases b with
  | false => exact allB_at fit_made hj
  | true => exact allB_at fit_asked hj

theorem hereX_cases (x : FormR) : (hereX x = true ∧ (x.a = 0 ∨ (x.a ≠ 0 ∧ x.b = 0) ∨ (x.a ≠ 0 ∧ x.b ≠ 0 ∧ x.k > 2 ∧ x.c = 0) ∨ (x.a ≠ 0 ∧ x.b ≠ 0 ∧ x.k > 2 ∧ x.c ≠ 0 ∧ x.d = 0))) ∨
    (hereX x = false ∧ ((x.a ≠ 0 ∧ x.b ≠ 0 ∧ ¬ x.k > 2) ∨ (x.a ≠ 0 ∧ x.b ≠ 0 ∧ x.k > 2 ∧ x.c ≠ 0 ∧ x.d ≠ 0))) := by
  unfold hereX
  by_cases h1 : x.a = 0
  · simp [h1]
  by_cases h2 : x.b = 0
  · simp [h1, h2]
  by_cases h3 : x.k > 2
  · by_cases h4 : x.c = 0
    · simp [h1, h2, h3, h4]
    by_cases h5 : x.d = 0
    · simp [h1, h2, h3, h4, h5]
    · simp [h1, h2, h3, h4, h5]
  · simp [h1, h2, h3]

theorem any_take {α : Type} [Inhabited α] (l : List α) (p : α → Bool) {i : Nat} (h : i < l.length) : (l.take (i + 1)).any p = ((l.take i).any p || p (l.getD i default)) := by
  rw [List.take_succ_eq_append_getElem h, List.any_append, getD_at h]
  simp

theorem cbFi : Callable Tryd.prog 4 := fun _ _ => by kernel_rfl
set_option maxHeartbeats 6400000 in
set_option maxRecDepth 100000 in
theorem figureFits_c (n : Int) (b : Bool) : PCalls Tryd.prog 4 [.int .i64 n, .bool b] (.bool true) := by
  refine pcalls_of_awp tyok cbFi Tryd.func4 rfl rfl ?_
  obtain ⟨hJ0, hJ1⟩ := pickJ_bd n b
  obtain ⟨f, hf, hfit⟩ := fit_at b (j := (pickJ n b).toNat) (by omega)
  have hcall := figB_c b ((wsB b).getD (pickJ n b).toNat default)
  rw [hf] at hcall
  simp only [figV] at hcall
  unfold fitB at hfit
  simp only [Bool.and_eq_true, decide_eq_true_eq, beq_iff_eq] at hfit
  obtain ⟨⟨q1, q2, q3, q4, q5, q6⟩, hE, hU, hB, hbw⟩ := hfit
  obtain ⟨wd, pts, nums, unl, eqs, bw, bp⟩ := f
  simp only at q1 q2 q3 q4 q5 q6 hE hU hB hbw
  have hw0 := u64_pos n
  have hbp : ∀ x ∈ bp, 0 ≤ x ∧ x ≤ lastB b pts := fun x hx => by simpa using List.all_eq_true.1 hB x hx
  have gw := within_c bp (lastB b pts) (by omega) hbp
  have g4 := fun (x : FormR) (hx : fitX (lastB b pts) x = true) => within4_c x.a x.b x.c x.d (lastB b pts) (by
    unfold fitX at hx
    simp only [decide_eq_true_eq] at hx
    intro y hy
    simp only [List.mem_cons, List.not_mem_nil, or_false] at hy
    rcases hy with rfl | rfl | rfl | rfl <;> omega)
  have gc := constructions_c
  have gpr := predicates_c
  have kn := known21_c
  have hmn := made_n
  have han := asked_n
  cases b
  · have hlw : ((wordsT made21).length : Int) = 29 := by rw [hmn]; rfl
    have el : IntKind.u64.wrap ((wordsT made21).length : Int) = 29 := by rw [hlw]; decide
    have ej : IntKind.i64.wrap (IntKind.u64.wrap n % IntKind.u64.wrap ((wordsT made21).length : Int)) = pickJ n false := by rw [hlw]; rfl
    have hJ1' : pickJ n false < ((wordsT made21).length : Int) := hJ1
    have elw : 0 < IntKind.u64.wrap ((wordsT made21).length : Int) := by rw [el]; decide
    have hq4 : eqs.length ≤ 2 := q4
    rw [← ej] at hcall hJ0 hJ1'
    ((repeat (first | refine wKB ?_ | refine awp_seq_k (fun K hK => ?_) | refine areg_text mixed tyok (by decide +kernel) ?_ | refine TR.pcall rfl rfl rfl rfl True.intro rfl rfl (gc) ?_ | refine TR.pcall rfl rfl rfl rfl True.intro rfl rfl (gpr) ?_ | refine TR.pcall rfl rfl rfl rfl True.intro rfl rfl (hcall) ?_ | refine pco rfl rfl rfl rfl rfl rfl rfl rfl (fun _ => gc) ?_ | refine pco rfl rfl rfl rfl rfl rfl rfl rfl (fun _ => gpr) ?_ | refine pco rfl rfl rfl rfl rfl rfl rfl rfl (fun _ => hcall) ?_ | ((repeat ((fail_if_success (refine hK _ _ ?_)); clear hK)); refine hK _ _ ?_; clear hK))); ((first | refine qal tyok (fun b8 => ?_) | refine qbox (fun b8 => ?_) | refine qboxV (fun b8 => ?_))); (repeat (first | refine wKB ?_ | refine awp_seq_k (fun K hK => ?_) | refine areg_text mixed tyok (by decide +kernel) ?_ | refine TR.pcall rfl rfl rfl rfl True.intro rfl rfl (gc) ?_ | refine TR.pcall rfl rfl rfl rfl True.intro rfl rfl (gpr) ?_ | refine TR.pcall rfl rfl rfl rfl True.intro rfl rfl (hcall) ?_ | refine pco rfl rfl rfl rfl rfl rfl rfl rfl (fun _ => gc) ?_ | refine pco rfl rfl rfl rfl rfl rfl rfl rfl (fun _ => gpr) ?_ | refine pco rfl rfl rfl rfl rfl rfl rfl rfl (fun _ => hcall) ?_ | ((repeat ((fail_if_success (refine hK _ _ ?_)); clear hK)); refine hK _ _ ?_; clear hK))); ((first | refine qal tyok (fun b10 => ?_) | refine qbox (fun b10 => ?_) | refine qboxV (fun b10 => ?_))))
    (((repeat (first | refine wT ?_ | refine qal tyok (fun bx => ?_) | refine qbox (fun bx => ?_) | refine qboxV (fun bx => ?_)))); repeat (first | (with_reducible refine pQ_normal ?_) | (with_reducible refine thenQ_normal ?_) | (with_reducible refine blockQ_normal ?_) | (with_reducible refine thenQ_exit ?_) | (with_reducible refine blockQ_hit ?_) | refine blockQ_miss rfl ?_ | (with_reducible refine thenQ_ret ?_) | (with_reducible refine blockQ_ret ?_) | (with_reducible refine pQ_panic ?_) | (with_reducible refine thenQ_panic ?_) | (with_reducible refine blockQ_panic ?_)); ((repeat ((fail_if_success (refine hK _ _ ?_)); clear hK)); refine hK _ _ ?_; clear hK))
    refine awp_freeze [] (s := 10) rfl rfl ?_
    repeat (first | refine wKB ?_ | refine awp_seq_k (fun K hK => ?_) | refine areg_text mixed tyok (by decide +kernel) ?_ | refine qal tyok (fun bx => ?_) | refine qbox (fun bx => ?_) | refine qboxV (fun bx => ?_) | ((repeat ((fail_if_success (refine hK _ _ ?_)); clear hK)); refine hK _ _ ?_; clear hK))
    refine awp_loopP (ι := { i : Nat // i ≤ eqs.length }) (fun i => [(1, .bool false), (8, .ptr b8 0), (11, .func (.func 17) [] [.rptr [.int .i64 (lastB false pts)]]), (83, sl eqE 1 eqs .view), (84, .int .i64 eqs.length), (85, .int .i64 i.1)]) (fun _ => [.box b8 33 (.agg (figE ⟨wd, pts, nums, unl, eqs, bw, bp⟩))]) (fun i => eqs.length - i.1) ⟨0, Nat.zero_le _⟩ (by (repeat (first | exact True.intro | refine ⟨⟨_, rfl, Sub.refl _⟩, ?_⟩ | refine ⟨⟨_, rfl, Sub.nilso _ _⟩, ?_⟩ | refine ⟨⟨_, rfl, sl_tail _ _ _ _ _⟩, ?_⟩ | refine ⟨⟨_, rfl, Sub.of_eq (by first | rfl | (congr 1; first | omega | (simp only; omega)) | (simp; done) | (simp; omega))⟩, ?_⟩ | refine ⟨⟨_, rfl, Sub.view _ _ _ _⟩, ?_⟩))) ⟨[], List.Perm.refl _⟩ ?_
    rintro ⟨i, hi⟩
    simp only at hi ⊢
    by_cases hlt : i < eqs.length
    · have hlt' : (i : Int) < eqs.length := by omega
      have he := List.all_eq_true.1 hE (eqs.getD i default) (by rw [getD_at hlt]; exact List.getElem_mem _)
      unfold fitE at he
      simp only [Bool.and_eq_true, decide_eq_true_eq] at he
      obtain ⟨he1, he2, he3⟩ := he
      repeat (first | refine wKB ?_ | refine awp_seq_k (fun K hK => ?_) | refine areg_text mixed tyok (by decide +kernel) ?_ | refine qal tyok (fun bx => ?_) | refine qbox (fun bx => ?_) | refine qboxV (fun bx => ?_) | ((repeat ((fail_if_success (refine hK _ _ ?_)); clear hK)); refine hK _ _ ?_; clear hK))
      refine awp_loopP (ι := { j : Nat // j ≤ (eqs.getD i default).length }) (fun j => [(1, .bool false), (8, .ptr b8 0), (11, .func (.func 17) [] [.rptr [.int .i64 (lastB false pts)]]), (83, sl eqE 1 eqs .view), (84, .int .i64 eqs.length), (85, .int .i64 i), (14, .bool (false || ((eqs.getD i default).take j.1).any hereP)), (90, sl pieceE 3 (eqs.getD i default) .view), (91, .int .i64 (eqs.getD i default).length), (92, .int .i64 j.1)]) (fun _ => [.box b8 33 (.agg (figE ⟨wd, pts, nums, unl, eqs, bw, bp⟩))]) (fun j => (eqs.getD i default).length - j.1) ⟨0, Nat.zero_le _⟩ (by (repeat (first | exact True.intro | refine ⟨⟨_, rfl, Sub.refl _⟩, ?_⟩ | refine ⟨⟨_, rfl, Sub.nilso _ _⟩, ?_⟩ | refine ⟨⟨_, rfl, sl_tail _ _ _ _ _⟩, ?_⟩ | refine ⟨⟨_, rfl, Sub.of_eq (by first | rfl | (congr 1; first | omega | (simp only; omega)) | (simp; done) | (simp; omega))⟩, ?_⟩ | refine ⟨⟨_, rfl, Sub.view _ _ _ _⟩, ?_⟩))) ⟨[], List.Perm.refl _⟩ ?_
      rintro ⟨j, hj⟩
      simp only at hj ⊢
      by_cases hlj : j < (eqs.getD i default).length
      · have hlj' : (j : Int) < (eqs.getD i default).length := by omega
        have hp := List.all_eq_true.1 he2 ((eqs.getD i default).getD j default) (by rw [getD_at hlj]; exact List.getElem_mem _)
        unfold fitP at hp
        simp only [Bool.and_eq_true, decide_eq_true_eq] at hp
        obtain ⟨⟨p1, p1', p2, p3, p4⟩, p5⟩ := hp
        have ep : (eqs.getD i default).getD ((j : Int)).toNat default = (eqs.getD i default).getD j default := rfl
        rw [← ep] at p1 p1' p2 p3 p4
        have p0 : ((((eqs.getD i default).getD ((j : Int)).toNat default).fs.length : Nat) : Int) ≠ 0 := by omega
        ((repeat (first | refine wKB ?_ | refine awp_seq_k (fun K hK => ?_) | refine areg_text mixed tyok (by decide +kernel) ?_ | ((repeat ((fail_if_success (refine hK _ _ ?_)); clear hK)); refine hK _ _ ?_; clear hK))); ((first | refine qal tyok (fun b16 => ?_) | refine qbox (fun b16 => ?_) | refine qboxV (fun b16 => ?_))); (repeat (first | refine wKB ?_ | refine awp_seq_k (fun K hK => ?_) | refine areg_text mixed tyok (by decide +kernel) ?_ | refine qal tyok (fun bx => ?_) | refine qbox (fun bx => ?_) | refine qboxV (fun bx => ?_) | ((repeat ((fail_if_success (refine hK _ _ ?_)); clear hK)); refine hK _ _ ?_; clear hK))))
        have em : ∀ m, m < ((eqs.getD i default).getD j default).fs.length → fitX (lastB false pts) (((eqs.getD i default).getD j default).fs.getD m default) = true := fun m hm => List.all_eq_true.1 p5 _ (by rw [getD_at hm]; exact List.getElem_mem _)
        refine awp_loopP (ι := { m : Nat // m ≤ ((eqs.getD i default).getD j default).fs.length }) (fun m => [(14, .bool ((false || ((eqs.getD i default).take j).any hereP) || (((eqs.getD i default).getD j default).fs.take m.1).any hereX)), (1, .bool false), (8, .ptr b8 0), (11, .func (.func 17) [] [.rptr [.int .i64 (lastB false pts)]]), (83, sl eqE 1 eqs .view), (84, .int .i64 eqs.length), (85, .int .i64 i), (90, sl pieceE 3 (eqs.getD i default) .view), (91, .int .i64 (eqs.getD i default).length), (92, .int .i64 j), (118, sl formE 5 ((eqs.getD i default).getD j default).fs .view), (119, .int .i64 ((eqs.getD i default).getD j default).fs.length), (120, .int .i64 m.1)]) (fun _ => [.box b8 33 (.agg (figE ⟨wd, pts, nums, unl, eqs, bw, bp⟩))]) (fun m => ((eqs.getD i default).getD j default).fs.length - m.1) ⟨0, Nat.zero_le _⟩ ?_ ⟨[_], List.Perm.refl _⟩ ?_
        · refine ⟨⟨_, rfl, Sub.of_eq (congrArg AV.bool ?_)⟩, ?_⟩
          · simp
          (repeat (first | exact True.intro | refine ⟨⟨_, rfl, Sub.refl _⟩, ?_⟩ | refine ⟨⟨_, rfl, Sub.nilso _ _⟩, ?_⟩ | refine ⟨⟨_, rfl, sl_tail _ _ _ _ _⟩, ?_⟩ | refine ⟨⟨_, rfl, Sub.of_eq (by first | rfl | (congr 1; first | omega | (simp only; omega)) | (simp; done) | (simp; omega))⟩, ?_⟩ | refine ⟨⟨_, rfl, Sub.view _ _ _ _⟩, ?_⟩))
        rintro ⟨m, hm⟩
        simp only at hm ⊢
        by_cases hlm : m < ((eqs.getD i default).getD j default).fs.length
        · have hlm' : (m : Int) < ((eqs.getD i default).getD j default).fs.length := by omega
          have ha := any_take ((eqs.getD i default).getD j default).fs hereX hlm
          have hx : fitX (lastB false pts) (((eqs.getD i default).getD j default).fs.getD ((m : Int)).toNat default) = true := em m hlm
          have gx := g4 _ hx
          have p1j : ((eqs.getD i default).getD j default).fs.length ≤ 1000 := p1'
          have hc : (hereX (((eqs.getD i default).getD j default).fs.getD ((m : Int)).toNat default) = true ∧ _) ∨ _ := hereX_cases (((eqs.getD i default).getD j default).fs.getD ((m : Int)).toNat default)
          have ha' : (((eqs.getD i default).getD j default).fs.take (m + 1)).any hereX = ((((eqs.getD i default).getD j default).fs.take m).any hereX || hereX (((eqs.getD i default).getD j default).fs.getD ((m : Int)).toNat default)) := ha
          unfold fitX at hx
          simp only [decide_eq_true_eq] at hx
          obtain ⟨x1, x2, x3, x4, x5, x6, x7, x8, x9, x10⟩ := hx
          generalize hhv : ((false || ((eqs.getD i default).take j).any hereP) || (((eqs.getD i default).getD j default).fs.take m).any hereX) = hv
          cases hv with
          | true =>
            ((repeat (first | refine wKB ?_ | refine awp_seq_k (fun K hK => ?_) | refine areg_text mixed tyok (by decide +kernel) ?_ | refine TR.pcall rfl rfl rfl rfl True.intro rfl rfl (gx) ?_ | refine pco rfl rfl rfl rfl rfl rfl rfl rfl (fun _ => gx) ?_ | ((repeat ((fail_if_success (refine hK _ _ ?_)); clear hK)); refine hK _ _ ?_; clear hK))); ((first | refine qal tyok (fun b18 => ?_) | refine qbox (fun b18 => ?_) | refine qboxV (fun b18 => ?_))); (repeat (first | refine wKB ?_ | refine awp_seq_k (fun K hK => ?_) | refine areg_text mixed tyok (by decide +kernel) ?_ | refine qal tyok (fun bx => ?_) | refine qbox (fun bx => ?_) | refine qboxV (fun bx => ?_) | refine TR.pcall rfl rfl rfl rfl True.intro rfl rfl (gx) ?_ | refine pco rfl rfl rfl rfl rfl rfl rfl rfl (fun _ => gx) ?_ | ((repeat ((fail_if_success (refine hK _ _ ?_)); clear hK)); refine hK _ _ ?_; clear hK))))
            refine ⟨⟨m + 1, hlm⟩, ?_, ⟨[_], List.Perm.refl _⟩, by simp only; omega⟩
            refine ⟨⟨_, rfl, Sub.of_eq (congrArg AV.bool ?_)⟩, ?_⟩
            · simp only
              rw [ha', ← Bool.or_assoc, hhv]
              rfl
            (repeat (first | exact True.intro | refine ⟨⟨_, rfl, Sub.refl _⟩, ?_⟩ | refine ⟨⟨_, rfl, Sub.nilso _ _⟩, ?_⟩ | refine ⟨⟨_, rfl, sl_tail _ _ _ _ _⟩, ?_⟩ | refine ⟨⟨_, rfl, Sub.of_eq (by first | rfl | (congr 1; first | omega | (simp only; omega)) | (simp; done) | (simp; omega))⟩, ?_⟩ | refine ⟨⟨_, rfl, Sub.view _ _ _ _⟩, ?_⟩))
          | false =>
            rcases hc with ⟨hc1, h | ⟨h, h0⟩ | ⟨h, h0, h1, h2⟩ | ⟨h, h0, h1, h2, h4⟩⟩ | ⟨hc1, ⟨h, h0, h1⟩ | ⟨h, h0, h1, h2, h4⟩⟩
            all_goals
              ((repeat (first | refine wKB ?_ | refine awp_seq_k (fun K hK => ?_) | refine areg_text mixed tyok (by decide +kernel) ?_ | refine TR.pcall rfl rfl rfl rfl True.intro rfl rfl (gx) ?_ | refine pco rfl rfl rfl rfl rfl rfl rfl rfl (fun _ => gx) ?_ | ((repeat ((fail_if_success (refine hK _ _ ?_)); clear hK)); refine hK _ _ ?_; clear hK))); ((first | refine qal tyok (fun b18 => ?_) | refine qbox (fun b18 => ?_) | refine qboxV (fun b18 => ?_))); (repeat (first | refine wKB ?_ | refine awp_seq_k (fun K hK => ?_) | refine areg_text mixed tyok (by decide +kernel) ?_ | refine qal tyok (fun bx => ?_) | refine qbox (fun bx => ?_) | refine qboxV (fun bx => ?_) | refine TR.pcall rfl rfl rfl rfl True.intro rfl rfl (gx) ?_ | refine pco rfl rfl rfl rfl rfl rfl rfl rfl (fun _ => gx) ?_ | ((repeat ((fail_if_success (refine hK _ _ ?_)); clear hK)); refine hK _ _ ?_; clear hK))))
              refine ⟨⟨m + 1, hlm⟩, ?_, ⟨[_], List.Perm.refl _⟩, by simp only; omega⟩
              refine ⟨⟨_, rfl, Sub.of_eq (congrArg AV.bool ?_)⟩, ?_⟩
              · simp only
                rw [ha', ← Bool.or_assoc, hhv, hc1]
                rfl
              (repeat (first | exact True.intro | refine ⟨⟨_, rfl, Sub.refl _⟩, ?_⟩ | refine ⟨⟨_, rfl, Sub.nilso _ _⟩, ?_⟩ | refine ⟨⟨_, rfl, sl_tail _ _ _ _ _⟩, ?_⟩ | refine ⟨⟨_, rfl, Sub.of_eq (by first | rfl | (congr 1; first | omega | (simp only; omega)) | (simp; done) | (simp; omega))⟩, ?_⟩ | refine ⟨⟨_, rfl, Sub.view _ _ _ _⟩, ?_⟩))
        · have hgm : ¬ (m : Int) < ((eqs.getD i default).getD j default).fs.length := by omega
          obtain rfl : m = ((eqs.getD i default).getD j default).fs.length := by omega
          rw [List.take_length]
          have ha := any_take (eqs.getD i default) hereP hlj
          repeat (first | refine wKB ?_ | refine awp_seq_k (fun K hK => ?_) | refine areg_text mixed tyok (by decide +kernel) ?_ | refine qal tyok (fun bx => ?_) | refine qbox (fun bx => ?_) | refine qboxV (fun bx => ?_) | ((repeat ((fail_if_success (refine hK _ _ ?_)); clear hK)); refine hK _ _ ?_; clear hK))
          refine ⟨⟨j + 1, hlj⟩, ?_, ⟨[], List.Perm.refl _⟩, by simp only; omega⟩
          refine ⟨⟨_, rfl, Sub.refl _⟩, ⟨_, rfl, Sub.refl _⟩, ⟨_, rfl, Sub.refl _⟩, ⟨_, rfl, Sub.refl _⟩, ⟨_, rfl, Sub.refl _⟩, ⟨_, rfl, Sub.refl _⟩, ⟨_, rfl, Sub.of_eq (congrArg AV.bool ?_)⟩, ?_⟩
          · simp only
            rw [ha, Bool.or_assoc]
            rfl
          (repeat (first | exact True.intro | refine ⟨⟨_, rfl, Sub.refl _⟩, ?_⟩ | refine ⟨⟨_, rfl, Sub.nilso _ _⟩, ?_⟩ | refine ⟨⟨_, rfl, sl_tail _ _ _ _ _⟩, ?_⟩ | refine ⟨⟨_, rfl, Sub.of_eq (by first | rfl | (congr 1; first | omega | (simp only; omega)) | (simp; done) | (simp; omega))⟩, ?_⟩ | refine ⟨⟨_, rfl, Sub.view _ _ _ _⟩, ?_⟩))
      · have hgj : ¬ (j : Int) < (eqs.getD i default).length := by omega
        obtain rfl : j = (eqs.getD i default).length := by omega
        rw [List.take_length, he3]
        repeat (first | refine wKB ?_ | refine awp_seq_k (fun K hK => ?_) | refine areg_text mixed tyok (by decide +kernel) ?_ | refine qal tyok (fun bx => ?_) | refine qbox (fun bx => ?_) | refine qboxV (fun bx => ?_) | ((repeat ((fail_if_success (refine hK _ _ ?_)); clear hK)); refine hK _ _ ?_; clear hK))
        refine ⟨⟨i + 1, hlt⟩, (by (repeat (first | exact True.intro | refine ⟨⟨_, rfl, Sub.refl _⟩, ?_⟩ | refine ⟨⟨_, rfl, Sub.nilso _ _⟩, ?_⟩ | refine ⟨⟨_, rfl, sl_tail _ _ _ _ _⟩, ?_⟩ | refine ⟨⟨_, rfl, Sub.of_eq (by first | rfl | (congr 1; first | omega | (simp only; omega)) | (simp; done) | (simp; omega))⟩, ?_⟩ | refine ⟨⟨_, rfl, Sub.view _ _ _ _⟩, ?_⟩))), ⟨[], List.Perm.refl _⟩, by simp only; omega⟩
    · have hgi : ¬ (i : Int) < eqs.length := by omega
      repeat (first | refine wKB ?_ | refine awp_seq_k (fun K hK => ?_) | refine areg_text mixed tyok (by decide +kernel) ?_ | refine qal tyok (fun bx => ?_) | refine qbox (fun bx => ?_) | refine qboxV (fun bx => ?_) | ((repeat ((fail_if_success (refine hK _ _ ?_)); clear hK)); refine hK _ _ ?_; clear hK))
      refine awp_loopP (ι := { i : Nat // i ≤ unl.length }) (fun i => [(8, .ptr b8 0), (11, .func (.func 17) [] [.rptr [.int .i64 (lastB false pts)]]), (178, sl pairE 2 unl .view), (179, .int .i64 unl.length), (180, .int .i64 i.1)]) (fun _ => [.box b8 33 (.agg (figE ⟨wd, pts, nums, unl, eqs, bw, bp⟩))]) (fun i => unl.length - i.1) ⟨0, Nat.zero_le _⟩ (by (repeat (first | exact True.intro | refine ⟨⟨_, rfl, Sub.refl _⟩, ?_⟩ | refine ⟨⟨_, rfl, Sub.nilso _ _⟩, ?_⟩ | refine ⟨⟨_, rfl, sl_tail _ _ _ _ _⟩, ?_⟩ | refine ⟨⟨_, rfl, Sub.of_eq (by first | rfl | (congr 1; first | omega | (simp only; omega)) | (simp; done) | (simp; omega))⟩, ?_⟩ | refine ⟨⟨_, rfl, Sub.view _ _ _ _⟩, ?_⟩))) ⟨[], List.Perm.refl _⟩ ?_
      rintro ⟨k, hk⟩
      simp only at hk ⊢
      by_cases hlk : k < unl.length
      · have hlk' : (k : Int) < unl.length := by omega
        have hu := List.all_eq_true.1 hU (unl.getD ((k : Int)).toNat default) (by
          have e : unl.getD ((k : Int)).toNat default = unl.getD k default := rfl
          rw [e, getD_at hlk]; exact List.getElem_mem _)
        unfold fitU at hu
        simp only [decide_eq_true_eq] at hu
        obtain ⟨u1, u2, u3, u4, u5⟩ := hu
        ((repeat (first | refine wKB ?_ | refine awp_seq_k (fun K hK => ?_) | refine areg_text mixed tyok (by decide +kernel) ?_ | ((repeat ((fail_if_success (refine hK _ _ ?_)); clear hK)); refine hK _ _ ?_; clear hK))); ((first | refine qal tyok (fun b20 => ?_) | refine qbox (fun b20 => ?_) | refine qboxV (fun b20 => ?_))); (repeat (first | refine wKB ?_ | refine awp_seq_k (fun K hK => ?_) | refine areg_text mixed tyok (by decide +kernel) ?_ | refine qal tyok (fun bx => ?_) | refine qbox (fun bx => ?_) | refine qboxV (fun bx => ?_) | ((repeat ((fail_if_success (refine hK _ _ ?_)); clear hK)); refine hK _ _ ?_; clear hK))))
        refine ⟨⟨k + 1, hlk⟩, (by (repeat (first | exact True.intro | refine ⟨⟨_, rfl, Sub.refl _⟩, ?_⟩ | refine ⟨⟨_, rfl, Sub.nilso _ _⟩, ?_⟩ | refine ⟨⟨_, rfl, sl_tail _ _ _ _ _⟩, ?_⟩ | refine ⟨⟨_, rfl, Sub.of_eq (by first | rfl | (congr 1; first | omega | (simp only; omega)) | (simp; done) | (simp; omega))⟩, ?_⟩ | refine ⟨⟨_, rfl, Sub.view _ _ _ _⟩, ?_⟩))), ⟨[_], List.Perm.refl _⟩, by simp only; omega⟩
      · have hgk : ¬ (k : Int) < unl.length := by omega
        cases bw with
        | nil =>
          cases bp with
          | nil =>
            repeat (first | refine wKB ?_ | refine awp_seq_k (fun K hK => ?_) | refine areg_text mixed tyok (by decide +kernel) ?_ | refine qal tyok (fun bx => ?_) | refine qbox (fun bx => ?_) | refine qboxV (fun bx => ?_) | refine TR.pcall rfl rfl rfl rfl True.intro rfl rfl (gw) ?_ | refine TR.pcall rfl rfl rfl rfl True.intro rfl rfl (kn) ?_ | refine pco rfl rfl rfl rfl rfl rfl rfl rfl (fun _ => gw) ?_ | refine pco rfl rfl rfl rfl rfl rfl rfl rfl (fun _ => kn) ?_ | ((repeat ((fail_if_success (refine hK _ _ ?_)); clear hK)); refine hK _ _ ?_; clear hK))
            refine r1 ?_
            exact Sub.refl _
          | cons y l => cases hbw
        | cons y l =>
          cases bp with
          | nil => cases hbw
          | cons z l2 =>
            have hz : ((z :: l2).length : Int) ≠ 0 := by simp; omega
            repeat (first | refine wKB ?_ | refine awp_seq_k (fun K hK => ?_) | refine areg_text mixed tyok (by decide +kernel) ?_ | refine qal tyok (fun bx => ?_) | refine qbox (fun bx => ?_) | refine qboxV (fun bx => ?_) | refine TR.pcall rfl rfl rfl rfl True.intro rfl rfl (gw) ?_ | refine TR.pcall rfl rfl rfl rfl True.intro rfl rfl (kn) ?_ | refine pco rfl rfl rfl rfl rfl rfl rfl rfl (fun _ => gw) ?_ | refine pco rfl rfl rfl rfl rfl rfl rfl rfl (fun _ => kn) ?_ | ((repeat ((fail_if_success (refine hK _ _ ?_)); clear hK)); refine hK _ _ ?_; clear hK))
            refine r1 ?_
            exact Sub.refl _
  · have hlw : ((wordsT asked21).length : Int) = 20 := by rw [han]; rfl
    have el : IntKind.u64.wrap ((wordsT asked21).length : Int) = 20 := by rw [hlw]; decide
    have ej : IntKind.i64.wrap (IntKind.u64.wrap n % IntKind.u64.wrap ((wordsT asked21).length : Int)) = pickJ n true := by rw [hlw]; rfl
    have hJ1' : pickJ n true < ((wordsT asked21).length : Int) := hJ1
    have elw : 0 < IntKind.u64.wrap ((wordsT asked21).length : Int) := by rw [el]; decide
    have hq4 : eqs.length ≤ 3 := q4
    rw [← ej] at hcall hJ0 hJ1'
    ((repeat (first | refine wKB ?_ | refine awp_seq_k (fun K hK => ?_) | refine areg_text mixed tyok (by decide +kernel) ?_ | refine TR.pcall rfl rfl rfl rfl True.intro rfl rfl (gc) ?_ | refine TR.pcall rfl rfl rfl rfl True.intro rfl rfl (gpr) ?_ | refine TR.pcall rfl rfl rfl rfl True.intro rfl rfl (hcall) ?_ | refine pco rfl rfl rfl rfl rfl rfl rfl rfl (fun _ => gc) ?_ | refine pco rfl rfl rfl rfl rfl rfl rfl rfl (fun _ => gpr) ?_ | refine pco rfl rfl rfl rfl rfl rfl rfl rfl (fun _ => hcall) ?_ | ((repeat ((fail_if_success (refine hK _ _ ?_)); clear hK)); refine hK _ _ ?_; clear hK))); ((first | refine qal tyok (fun b8 => ?_) | refine qbox (fun b8 => ?_) | refine qboxV (fun b8 => ?_))); (repeat (first | refine wKB ?_ | refine awp_seq_k (fun K hK => ?_) | refine areg_text mixed tyok (by decide +kernel) ?_ | refine TR.pcall rfl rfl rfl rfl True.intro rfl rfl (gc) ?_ | refine TR.pcall rfl rfl rfl rfl True.intro rfl rfl (gpr) ?_ | refine TR.pcall rfl rfl rfl rfl True.intro rfl rfl (hcall) ?_ | refine pco rfl rfl rfl rfl rfl rfl rfl rfl (fun _ => gc) ?_ | refine pco rfl rfl rfl rfl rfl rfl rfl rfl (fun _ => gpr) ?_ | refine pco rfl rfl rfl rfl rfl rfl rfl rfl (fun _ => hcall) ?_ | ((repeat ((fail_if_success (refine hK _ _ ?_)); clear hK)); refine hK _ _ ?_; clear hK))); ((first | refine qal tyok (fun b10 => ?_) | refine qbox (fun b10 => ?_) | refine qboxV (fun b10 => ?_))))
    (((repeat (first | refine wT ?_ | refine qal tyok (fun bx => ?_) | refine qbox (fun bx => ?_) | refine qboxV (fun bx => ?_)))); repeat (first | (with_reducible refine pQ_normal ?_) | (with_reducible refine thenQ_normal ?_) | (with_reducible refine blockQ_normal ?_) | (with_reducible refine thenQ_exit ?_) | (with_reducible refine blockQ_hit ?_) | refine blockQ_miss rfl ?_ | (with_reducible refine thenQ_ret ?_) | (with_reducible refine blockQ_ret ?_) | (with_reducible refine pQ_panic ?_) | (with_reducible refine thenQ_panic ?_) | (with_reducible refine blockQ_panic ?_)); ((repeat ((fail_if_success (refine hK _ _ ?_)); clear hK)); refine hK _ _ ?_; clear hK))
    refine awp_freeze [] (s := 10) rfl rfl ?_
    repeat (first | refine wKB ?_ | refine awp_seq_k (fun K hK => ?_) | refine areg_text mixed tyok (by decide +kernel) ?_ | refine qal tyok (fun bx => ?_) | refine qbox (fun bx => ?_) | refine qboxV (fun bx => ?_) | ((repeat ((fail_if_success (refine hK _ _ ?_)); clear hK)); refine hK _ _ ?_; clear hK))
    refine awp_loopP (ι := { i : Nat // i ≤ eqs.length }) (fun i => [(1, .bool true), (8, .ptr b8 0), (11, .func (.func 17) [] [.rptr [.int .i64 (lastB true pts)]]), (83, sl eqE 1 eqs .view), (84, .int .i64 eqs.length), (85, .int .i64 i.1)]) (fun _ => [.box b8 33 (.agg (figE ⟨wd, pts, nums, unl, eqs, bw, bp⟩))]) (fun i => eqs.length - i.1) ⟨0, Nat.zero_le _⟩ (by (repeat (first | exact True.intro | refine ⟨⟨_, rfl, Sub.refl _⟩, ?_⟩ | refine ⟨⟨_, rfl, Sub.nilso _ _⟩, ?_⟩ | refine ⟨⟨_, rfl, sl_tail _ _ _ _ _⟩, ?_⟩ | refine ⟨⟨_, rfl, Sub.of_eq (by first | rfl | (congr 1; first | omega | (simp only; omega)) | (simp; done) | (simp; omega))⟩, ?_⟩ | refine ⟨⟨_, rfl, Sub.view _ _ _ _⟩, ?_⟩))) ⟨[], List.Perm.refl _⟩ ?_
    rintro ⟨i, hi⟩
    simp only at hi ⊢
    by_cases hlt : i < eqs.length
    · have hlt' : (i : Int) < eqs.length := by omega
      have he := List.all_eq_true.1 hE (eqs.getD i default) (by rw [getD_at hlt]; exact List.getElem_mem _)
      unfold fitE at he
      simp only [Bool.and_eq_true, decide_eq_true_eq] at he
      obtain ⟨he1, he2, he3⟩ := he
      repeat (first | refine wKB ?_ | refine awp_seq_k (fun K hK => ?_) | refine areg_text mixed tyok (by decide +kernel) ?_ | refine qal tyok (fun bx => ?_) | refine qbox (fun bx => ?_) | refine qboxV (fun bx => ?_) | ((repeat ((fail_if_success (refine hK _ _ ?_)); clear hK)); refine hK _ _ ?_; clear hK))
      refine awp_loopP (ι := { j : Nat // j ≤ (eqs.getD i default).length }) (fun j => [(1, .bool true), (8, .ptr b8 0), (11, .func (.func 17) [] [.rptr [.int .i64 (lastB true pts)]]), (83, sl eqE 1 eqs .view), (84, .int .i64 eqs.length), (85, .int .i64 i), (14, .bool (true || ((eqs.getD i default).take j.1).any hereP)), (90, sl pieceE 3 (eqs.getD i default) .view), (91, .int .i64 (eqs.getD i default).length), (92, .int .i64 j.1)]) (fun _ => [.box b8 33 (.agg (figE ⟨wd, pts, nums, unl, eqs, bw, bp⟩))]) (fun j => (eqs.getD i default).length - j.1) ⟨0, Nat.zero_le _⟩ (by (repeat (first | exact True.intro | refine ⟨⟨_, rfl, Sub.refl _⟩, ?_⟩ | refine ⟨⟨_, rfl, Sub.nilso _ _⟩, ?_⟩ | refine ⟨⟨_, rfl, sl_tail _ _ _ _ _⟩, ?_⟩ | refine ⟨⟨_, rfl, Sub.of_eq (by first | rfl | (congr 1; first | omega | (simp only; omega)) | (simp; done) | (simp; omega))⟩, ?_⟩ | refine ⟨⟨_, rfl, Sub.view _ _ _ _⟩, ?_⟩))) ⟨[], List.Perm.refl _⟩ ?_
      rintro ⟨j, hj⟩
      simp only at hj ⊢
      by_cases hlj : j < (eqs.getD i default).length
      · have hlj' : (j : Int) < (eqs.getD i default).length := by omega
        have hp := List.all_eq_true.1 he2 ((eqs.getD i default).getD j default) (by rw [getD_at hlj]; exact List.getElem_mem _)
        unfold fitP at hp
        simp only [Bool.and_eq_true, decide_eq_true_eq] at hp
        obtain ⟨⟨p1, p1', p2, p3, p4⟩, p5⟩ := hp
        have ep : (eqs.getD i default).getD ((j : Int)).toNat default = (eqs.getD i default).getD j default := rfl
        rw [← ep] at p1 p1' p2 p3 p4
        have p0 : ((((eqs.getD i default).getD ((j : Int)).toNat default).fs.length : Nat) : Int) ≠ 0 := by omega
        ((repeat (first | refine wKB ?_ | refine awp_seq_k (fun K hK => ?_) | refine areg_text mixed tyok (by decide +kernel) ?_ | ((repeat ((fail_if_success (refine hK _ _ ?_)); clear hK)); refine hK _ _ ?_; clear hK))); ((first | refine qal tyok (fun b16 => ?_) | refine qbox (fun b16 => ?_) | refine qboxV (fun b16 => ?_))); (repeat (first | refine wKB ?_ | refine awp_seq_k (fun K hK => ?_) | refine areg_text mixed tyok (by decide +kernel) ?_ | refine qal tyok (fun bx => ?_) | refine qbox (fun bx => ?_) | refine qboxV (fun bx => ?_) | ((repeat ((fail_if_success (refine hK _ _ ?_)); clear hK)); refine hK _ _ ?_; clear hK))))
        have em : ∀ m, m < ((eqs.getD i default).getD j default).fs.length → fitX (lastB true pts) (((eqs.getD i default).getD j default).fs.getD m default) = true := fun m hm => List.all_eq_true.1 p5 _ (by rw [getD_at hm]; exact List.getElem_mem _)
        refine awp_loopP (ι := { m : Nat // m ≤ ((eqs.getD i default).getD j default).fs.length }) (fun m => [(14, .bool ((true || ((eqs.getD i default).take j).any hereP) || (((eqs.getD i default).getD j default).fs.take m.1).any hereX)), (1, .bool true), (8, .ptr b8 0), (11, .func (.func 17) [] [.rptr [.int .i64 (lastB true pts)]]), (83, sl eqE 1 eqs .view), (84, .int .i64 eqs.length), (85, .int .i64 i), (90, sl pieceE 3 (eqs.getD i default) .view), (91, .int .i64 (eqs.getD i default).length), (92, .int .i64 j), (118, sl formE 5 ((eqs.getD i default).getD j default).fs .view), (119, .int .i64 ((eqs.getD i default).getD j default).fs.length), (120, .int .i64 m.1)]) (fun _ => [.box b8 33 (.agg (figE ⟨wd, pts, nums, unl, eqs, bw, bp⟩))]) (fun m => ((eqs.getD i default).getD j default).fs.length - m.1) ⟨0, Nat.zero_le _⟩ ?_ ⟨[_], List.Perm.refl _⟩ ?_
        · refine ⟨⟨_, rfl, Sub.of_eq (congrArg AV.bool ?_)⟩, ?_⟩
          · simp
          (repeat (first | exact True.intro | refine ⟨⟨_, rfl, Sub.refl _⟩, ?_⟩ | refine ⟨⟨_, rfl, Sub.nilso _ _⟩, ?_⟩ | refine ⟨⟨_, rfl, sl_tail _ _ _ _ _⟩, ?_⟩ | refine ⟨⟨_, rfl, Sub.of_eq (by first | rfl | (congr 1; first | omega | (simp only; omega)) | (simp; done) | (simp; omega))⟩, ?_⟩ | refine ⟨⟨_, rfl, Sub.view _ _ _ _⟩, ?_⟩))
        rintro ⟨m, hm⟩
        simp only at hm ⊢
        by_cases hlm : m < ((eqs.getD i default).getD j default).fs.length
        · have hlm' : (m : Int) < ((eqs.getD i default).getD j default).fs.length := by omega
          have ha := any_take ((eqs.getD i default).getD j default).fs hereX hlm
          have hx : fitX (lastB true pts) (((eqs.getD i default).getD j default).fs.getD ((m : Int)).toNat default) = true := em m hlm
          have gx := g4 _ hx
          have p1j : ((eqs.getD i default).getD j default).fs.length ≤ 1000 := p1'
          have hc : (hereX (((eqs.getD i default).getD j default).fs.getD ((m : Int)).toNat default) = true ∧ _) ∨ _ := hereX_cases (((eqs.getD i default).getD j default).fs.getD ((m : Int)).toNat default)
          have ha' : (((eqs.getD i default).getD j default).fs.take (m + 1)).any hereX = ((((eqs.getD i default).getD j default).fs.take m).any hereX || hereX (((eqs.getD i default).getD j default).fs.getD ((m : Int)).toNat default)) := ha
          unfold fitX at hx
          simp only [decide_eq_true_eq] at hx
          obtain ⟨x1, x2, x3, x4, x5, x6, x7, x8, x9, x10⟩ := hx
          generalize hhv : ((true || ((eqs.getD i default).take j).any hereP) || (((eqs.getD i default).getD j default).fs.take m).any hereX) = hv
          cases hv with
          | true =>
            ((repeat (first | refine wKB ?_ | refine awp_seq_k (fun K hK => ?_) | refine areg_text mixed tyok (by decide +kernel) ?_ | refine TR.pcall rfl rfl rfl rfl True.intro rfl rfl (gx) ?_ | refine pco rfl rfl rfl rfl rfl rfl rfl rfl (fun _ => gx) ?_ | ((repeat ((fail_if_success (refine hK _ _ ?_)); clear hK)); refine hK _ _ ?_; clear hK))); ((first | refine qal tyok (fun b18 => ?_) | refine qbox (fun b18 => ?_) | refine qboxV (fun b18 => ?_))); (repeat (first | refine wKB ?_ | refine awp_seq_k (fun K hK => ?_) | refine areg_text mixed tyok (by decide +kernel) ?_ | refine qal tyok (fun bx => ?_) | refine qbox (fun bx => ?_) | refine qboxV (fun bx => ?_) | refine TR.pcall rfl rfl rfl rfl True.intro rfl rfl (gx) ?_ | refine pco rfl rfl rfl rfl rfl rfl rfl rfl (fun _ => gx) ?_ | ((repeat ((fail_if_success (refine hK _ _ ?_)); clear hK)); refine hK _ _ ?_; clear hK))))
            refine ⟨⟨m + 1, hlm⟩, ?_, ⟨[_], List.Perm.refl _⟩, by simp only; omega⟩
            refine ⟨⟨_, rfl, Sub.of_eq (congrArg AV.bool ?_)⟩, ?_⟩
            · simp only
              rw [ha', ← Bool.or_assoc, hhv]
              rfl
            (repeat (first | exact True.intro | refine ⟨⟨_, rfl, Sub.refl _⟩, ?_⟩ | refine ⟨⟨_, rfl, Sub.nilso _ _⟩, ?_⟩ | refine ⟨⟨_, rfl, sl_tail _ _ _ _ _⟩, ?_⟩ | refine ⟨⟨_, rfl, Sub.of_eq (by first | rfl | (congr 1; first | omega | (simp only; omega)) | (simp; done) | (simp; omega))⟩, ?_⟩ | refine ⟨⟨_, rfl, Sub.view _ _ _ _⟩, ?_⟩))
          | false =>
            rcases hc with ⟨hc1, h | ⟨h, h0⟩ | ⟨h, h0, h1, h2⟩ | ⟨h, h0, h1, h2, h4⟩⟩ | ⟨hc1, ⟨h, h0, h1⟩ | ⟨h, h0, h1, h2, h4⟩⟩
            all_goals
              ((repeat (first | refine wKB ?_ | refine awp_seq_k (fun K hK => ?_) | refine areg_text mixed tyok (by decide +kernel) ?_ | refine TR.pcall rfl rfl rfl rfl True.intro rfl rfl (gx) ?_ | refine pco rfl rfl rfl rfl rfl rfl rfl rfl (fun _ => gx) ?_ | ((repeat ((fail_if_success (refine hK _ _ ?_)); clear hK)); refine hK _ _ ?_; clear hK))); ((first | refine qal tyok (fun b18 => ?_) | refine qbox (fun b18 => ?_) | refine qboxV (fun b18 => ?_))); (repeat (first | refine wKB ?_ | refine awp_seq_k (fun K hK => ?_) | refine areg_text mixed tyok (by decide +kernel) ?_ | refine qal tyok (fun bx => ?_) | refine qbox (fun bx => ?_) | refine qboxV (fun bx => ?_) | refine TR.pcall rfl rfl rfl rfl True.intro rfl rfl (gx) ?_ | refine pco rfl rfl rfl rfl rfl rfl rfl rfl (fun _ => gx) ?_ | ((repeat ((fail_if_success (refine hK _ _ ?_)); clear hK)); refine hK _ _ ?_; clear hK))))
              refine ⟨⟨m + 1, hlm⟩, ?_, ⟨[_], List.Perm.refl _⟩, by simp only; omega⟩
              refine ⟨⟨_, rfl, Sub.of_eq (congrArg AV.bool ?_)⟩, ?_⟩
              · simp only
                rw [ha', ← Bool.or_assoc, hhv, hc1]
                rfl
              (repeat (first | exact True.intro | refine ⟨⟨_, rfl, Sub.refl _⟩, ?_⟩ | refine ⟨⟨_, rfl, Sub.nilso _ _⟩, ?_⟩ | refine ⟨⟨_, rfl, sl_tail _ _ _ _ _⟩, ?_⟩ | refine ⟨⟨_, rfl, Sub.of_eq (by first | rfl | (congr 1; first | omega | (simp only; omega)) | (simp; done) | (simp; omega))⟩, ?_⟩ | refine ⟨⟨_, rfl, Sub.view _ _ _ _⟩, ?_⟩))
        · have hgm : ¬ (m : Int) < ((eqs.getD i default).getD j default).fs.length := by omega
          obtain rfl : m = ((eqs.getD i default).getD j default).fs.length := by omega
          rw [List.take_length]
          have ha := any_take (eqs.getD i default) hereP hlj
          repeat (first | refine wKB ?_ | refine awp_seq_k (fun K hK => ?_) | refine areg_text mixed tyok (by decide +kernel) ?_ | refine qal tyok (fun bx => ?_) | refine qbox (fun bx => ?_) | refine qboxV (fun bx => ?_) | ((repeat ((fail_if_success (refine hK _ _ ?_)); clear hK)); refine hK _ _ ?_; clear hK))
          refine ⟨⟨j + 1, hlj⟩, ?_, ⟨[], List.Perm.refl _⟩, by simp only; omega⟩
          refine ⟨⟨_, rfl, Sub.refl _⟩, ⟨_, rfl, Sub.refl _⟩, ⟨_, rfl, Sub.refl _⟩, ⟨_, rfl, Sub.refl _⟩, ⟨_, rfl, Sub.refl _⟩, ⟨_, rfl, Sub.refl _⟩, ⟨_, rfl, Sub.of_eq (congrArg AV.bool ?_)⟩, ?_⟩
          · simp only
            rw [ha, Bool.or_assoc]
            rfl
          (repeat (first | exact True.intro | refine ⟨⟨_, rfl, Sub.refl _⟩, ?_⟩ | refine ⟨⟨_, rfl, Sub.nilso _ _⟩, ?_⟩ | refine ⟨⟨_, rfl, sl_tail _ _ _ _ _⟩, ?_⟩ | refine ⟨⟨_, rfl, Sub.of_eq (by first | rfl | (congr 1; first | omega | (simp only; omega)) | (simp; done) | (simp; omega))⟩, ?_⟩ | refine ⟨⟨_, rfl, Sub.view _ _ _ _⟩, ?_⟩))
      · have hgj : ¬ (j : Int) < (eqs.getD i default).length := by omega
        obtain rfl : j = (eqs.getD i default).length := by omega
        rw [List.take_length, he3]
        repeat (first | refine wKB ?_ | refine awp_seq_k (fun K hK => ?_) | refine areg_text mixed tyok (by decide +kernel) ?_ | refine qal tyok (fun bx => ?_) | refine qbox (fun bx => ?_) | refine qboxV (fun bx => ?_) | ((repeat ((fail_if_success (refine hK _ _ ?_)); clear hK)); refine hK _ _ ?_; clear hK))
        refine ⟨⟨i + 1, hlt⟩, (by (repeat (first | exact True.intro | refine ⟨⟨_, rfl, Sub.refl _⟩, ?_⟩ | refine ⟨⟨_, rfl, Sub.nilso _ _⟩, ?_⟩ | refine ⟨⟨_, rfl, sl_tail _ _ _ _ _⟩, ?_⟩ | refine ⟨⟨_, rfl, Sub.of_eq (by first | rfl | (congr 1; first | omega | (simp only; omega)) | (simp; done) | (simp; omega))⟩, ?_⟩ | refine ⟨⟨_, rfl, Sub.view _ _ _ _⟩, ?_⟩))), ⟨[], List.Perm.refl _⟩, by simp only; omega⟩
    · have hgi : ¬ (i : Int) < eqs.length := by omega
      repeat (first | refine wKB ?_ | refine awp_seq_k (fun K hK => ?_) | refine areg_text mixed tyok (by decide +kernel) ?_ | refine qal tyok (fun bx => ?_) | refine qbox (fun bx => ?_) | refine qboxV (fun bx => ?_) | ((repeat ((fail_if_success (refine hK _ _ ?_)); clear hK)); refine hK _ _ ?_; clear hK))
      refine awp_loopP (ι := { i : Nat // i ≤ unl.length }) (fun i => [(8, .ptr b8 0), (11, .func (.func 17) [] [.rptr [.int .i64 (lastB true pts)]]), (178, sl pairE 2 unl .view), (179, .int .i64 unl.length), (180, .int .i64 i.1)]) (fun _ => [.box b8 33 (.agg (figE ⟨wd, pts, nums, unl, eqs, bw, bp⟩))]) (fun i => unl.length - i.1) ⟨0, Nat.zero_le _⟩ (by (repeat (first | exact True.intro | refine ⟨⟨_, rfl, Sub.refl _⟩, ?_⟩ | refine ⟨⟨_, rfl, Sub.nilso _ _⟩, ?_⟩ | refine ⟨⟨_, rfl, sl_tail _ _ _ _ _⟩, ?_⟩ | refine ⟨⟨_, rfl, Sub.of_eq (by first | rfl | (congr 1; first | omega | (simp only; omega)) | (simp; done) | (simp; omega))⟩, ?_⟩ | refine ⟨⟨_, rfl, Sub.view _ _ _ _⟩, ?_⟩))) ⟨[], List.Perm.refl _⟩ ?_
      rintro ⟨k, hk⟩
      simp only at hk ⊢
      by_cases hlk : k < unl.length
      · have hlk' : (k : Int) < unl.length := by omega
        have hu := List.all_eq_true.1 hU (unl.getD ((k : Int)).toNat default) (by
          have e : unl.getD ((k : Int)).toNat default = unl.getD k default := rfl
          rw [e, getD_at hlk]; exact List.getElem_mem _)
        unfold fitU at hu
        simp only [decide_eq_true_eq] at hu
        obtain ⟨u1, u2, u3, u4, u5⟩ := hu
        ((repeat (first | refine wKB ?_ | refine awp_seq_k (fun K hK => ?_) | refine areg_text mixed tyok (by decide +kernel) ?_ | ((repeat ((fail_if_success (refine hK _ _ ?_)); clear hK)); refine hK _ _ ?_; clear hK))); ((first | refine qal tyok (fun b20 => ?_) | refine qbox (fun b20 => ?_) | refine qboxV (fun b20 => ?_))); (repeat (first | refine wKB ?_ | refine awp_seq_k (fun K hK => ?_) | refine areg_text mixed tyok (by decide +kernel) ?_ | refine qal tyok (fun bx => ?_) | refine qbox (fun bx => ?_) | refine qboxV (fun bx => ?_) | ((repeat ((fail_if_success (refine hK _ _ ?_)); clear hK)); refine hK _ _ ?_; clear hK))))
        refine ⟨⟨k + 1, hlk⟩, (by (repeat (first | exact True.intro | refine ⟨⟨_, rfl, Sub.refl _⟩, ?_⟩ | refine ⟨⟨_, rfl, Sub.nilso _ _⟩, ?_⟩ | refine ⟨⟨_, rfl, sl_tail _ _ _ _ _⟩, ?_⟩ | refine ⟨⟨_, rfl, Sub.of_eq (by first | rfl | (congr 1; first | omega | (simp only; omega)) | (simp; done) | (simp; omega))⟩, ?_⟩ | refine ⟨⟨_, rfl, Sub.view _ _ _ _⟩, ?_⟩))), ⟨[_], List.Perm.refl _⟩, by simp only; omega⟩
      · have hgk : ¬ (k : Int) < unl.length := by omega
        cases bw with
        | nil =>
          cases bp with
          | nil =>
            repeat (first | refine wKB ?_ | refine awp_seq_k (fun K hK => ?_) | refine areg_text mixed tyok (by decide +kernel) ?_ | refine qal tyok (fun bx => ?_) | refine qbox (fun bx => ?_) | refine qboxV (fun bx => ?_) | refine TR.pcall rfl rfl rfl rfl True.intro rfl rfl (gw) ?_ | refine TR.pcall rfl rfl rfl rfl True.intro rfl rfl (kn) ?_ | refine pco rfl rfl rfl rfl rfl rfl rfl rfl (fun _ => gw) ?_ | refine pco rfl rfl rfl rfl rfl rfl rfl rfl (fun _ => kn) ?_ | ((repeat ((fail_if_success (refine hK _ _ ?_)); clear hK)); refine hK _ _ ?_; clear hK))
            refine r1 ?_
            exact Sub.refl _
          | cons y l => cases hbw
        | cons y l =>
          cases bp with
          | nil => cases hbw
          | cons z l2 =>
            have hz : ((z :: l2).length : Int) ≠ 0 := by simp; omega
            repeat (first | refine wKB ?_ | refine awp_seq_k (fun K hK => ?_) | refine areg_text mixed tyok (by decide +kernel) ?_ | refine qal tyok (fun bx => ?_) | refine qbox (fun bx => ?_) | refine qboxV (fun bx => ?_) | refine TR.pcall rfl rfl rfl rfl True.intro rfl rfl (gw) ?_ | refine TR.pcall rfl rfl rfl rfl True.intro rfl rfl (kn) ?_ | refine pco rfl rfl rfl rfl rfl rfl rfl rfl (fun _ => gw) ?_ | refine pco rfl rfl rfl rfl rfl rfl rfl rfl (fun _ => kn) ?_ | ((repeat ((fail_if_success (refine hK _ _ ?_)); clear hK)); refine hK _ _ ?_; clear hK))
            refine r1 ?_
            exact Sub.refl _

end Go.Proofs.YtpodjhapjcncdaaDoor
