/-
  FigureFits returns true.
-/
import Derived.Test.YtpodjhapjcncdaaDoorFg8
namespace Go.Proofs.YtpodjhapjcncdaaDoor
open Go.Ab

theorem cbWi : Callable Tryd.prog 17 := fun _ _ => by kernel_rfl
theorem within_c (xs : List Int) (last : Int) (hl : xs.length ≤ 1000000) (h : ∀ x ∈ xs, 0 ≤ x ∧ x ≤ last) : PCalls Tryd.prog 17 [sl numE 1 xs .view, .rptr [.int .i64 last]] (.bool true) := by
  refine pcalls_of_awp tyok cbWi Tryd.func17 rfl rfl ?_
  repeat (first | refine wK ?_ | refine awp_seq_k (fun K hK => ?_) | refine areg_text mixed tyok (by decide +kernel) ?_ | refine qal tyok (fun bx => ?_) | refine qbox (fun bx => ?_) | refine qboxV (fun bx => ?_) | ((repeat ((fail_if_success (refine hK _ _ ?_)); clear hK)); refine hK _ _ ?_; clear hK))
  refine awp_loop0 (ι := { i : Nat // i ≤ xs.length }) (fun i => [(1, .rptr [.int .i64 last]), (6, sl numE 1 xs .view), (7, .int .i64 xs.length), (8, .int .i64 i.1)]) (fun _ => []) (fun i => xs.length - i.1) ⟨0, Nat.zero_le _⟩ (by (repeat (first | exact True.intro | refine ⟨⟨_, rfl, Sub.refl _⟩, ?_⟩ | refine ⟨⟨_, rfl, Sub.nilso _ _⟩, ?_⟩ | refine ⟨⟨_, rfl, sl_tail _ _ _ _ _⟩, ?_⟩ | refine ⟨⟨_, rfl, Sub.of_eq (by first | rfl | (congr 1; first | omega | (simp only; omega)) | (simp; done) | (simp; omega))⟩, ?_⟩ | refine ⟨⟨_, rfl, Sub.view _ _ _ _⟩, ?_⟩))) ⟨0, rfl⟩ ?_
  rintro ⟨i, hi⟩
  simp only at hi ⊢
  by_cases hlt : i < xs.length
  · have hlt' : (i : Int) < xs.length := by omega
    have hx := h (xs.getD i default) (by rw [getD_at hlt]; exact List.getElem_mem _)
    have e1 : xs.getD ((i : Int)).toNat default = xs.getD i default := rfl
    obtain ⟨x1, x2⟩ := hx
    rw [← e1] at x1 x2
    repeat (first | refine wKB ?_ | refine awp_seq_k (fun K hK => ?_) | refine areg_text mixed tyok (by decide +kernel) ?_ | refine qal tyok (fun bx => ?_) | refine qbox (fun bx => ?_) | refine qboxV (fun bx => ?_) | ((repeat ((fail_if_success (refine hK _ _ ?_)); clear hK)); refine hK _ _ ?_; clear hK))
    refine ⟨⟨i + 1, hlt⟩, (by (repeat (first | exact True.intro | refine ⟨⟨_, rfl, Sub.refl _⟩, ?_⟩ | refine ⟨⟨_, rfl, Sub.nilso _ _⟩, ?_⟩ | refine ⟨⟨_, rfl, sl_tail _ _ _ _ _⟩, ?_⟩ | refine ⟨⟨_, rfl, Sub.of_eq (by first | rfl | (congr 1; first | omega | (simp only; omega)) | (simp; done) | (simp; omega))⟩, ?_⟩ | refine ⟨⟨_, rfl, Sub.view _ _ _ _⟩, ?_⟩))), ⟨0, rfl⟩, ?_⟩
    simp only
    omega
  · have hge : ¬ (i : Int) < xs.length := by omega
    repeat (first | refine wKB ?_ | refine awp_seq_k (fun K hK => ?_) | refine areg_text mixed tyok (by decide +kernel) ?_ | refine qal tyok (fun bx => ?_) | refine qbox (fun bx => ?_) | refine qboxV (fun bx => ?_) | ((repeat ((fail_if_success (refine hK _ _ ?_)); clear hK)); refine hK _ _ ?_; clear hK))
    refine r1 ?_
    exact Sub.refl _

theorem nums4 (a b c d : Int) : Sub (.slice 1 4 (chunk [.int .i64 a, .int .i64 b, .int .i64 c, .int .i64 d] 1) .full) (sl numE 1 [a, b, c, d] .view) :=
  (Sub.view _ _ _ _).trans (Sub.els fun i hi => match i, hi with
    | 0, _ => SubL.refl _
    | 1, _ => SubL.refl _
    | 2, _ => SubL.refl _
    | 3, _ => SubL.refl _)

theorem within4_c (a b c d last : Int) (h : ∀ x ∈ [a, b, c, d], 0 ≤ x ∧ x ≤ last) : PCalls Tryd.prog 17 [.slice 1 4 (chunk [.int .i64 a, .int .i64 b, .int .i64 c, .int .i64 d] 1) .full, .rptr [.int .i64 last]] (.bool true) :=
  PCalls.sub (within_c [a, b, c, d] last (by simp) h) (.cons (nums4 a b c d) (SubL.refl _))

/-! The tables' facts. -/

noncomputable def wsB (b : Bool) : List (List UInt8) := match b with
  | true => wordsT asked21
  | false => wordsT made21
def gB (b : Bool) : FuncId := match b with
  | true => 15
  | false => 12
noncomputable def figB (b : Bool) (w : List UInt8) : Option FigR := match b with
  | true => preF w
  | false => conF w

theorem figB_c (b : Bool) (w : List UInt8) : PCalls Tryd.prog (gB b) [.str w] (figV (figB b w)) := by
  cases b
  · exact construction_c w
  · exact predicate_c w

set_option maxRecDepth 100000 in
theorem made_n : (wordsT made21).length = 29 := by decide +kernel
set_option maxRecDepth 100000 in
theorem asked_n : (wordsT asked21).length = 20 := by decide +kernel

/-- The number that a number picks. -/
def pickJ (n : Int) (b : Bool) : Int := IntKind.i64.wrap (IntKind.u64.wrap n % IntKind.u64.wrap (match b with
  | true => 20
  | false => 29))

theorem u64_pos (n : Int) : 0 ≤ IntKind.u64.wrap n := by
  unfold IntKind.wrap
  simp only [IntKind.bits, IntKind.signed]
  exact Int.emod_nonneg _ (by decide)

theorem pickJ_bd (n : Int) (b : Bool) : 0 ≤ pickJ n b ∧ pickJ n b < (wsB b).length := by
  have h0 := u64_pos n
  cases b with
  | false =>
    have e1 : IntKind.u64.wrap 29 = 29 := by decide
    have h1 : 0 ≤ IntKind.u64.wrap n % 29 := Int.emod_nonneg _ (by decide)
    have h2 : IntKind.u64.wrap n % 29 < 29 := Int.emod_lt_of_pos _ (by decide)
    have e2 : pickJ n false = IntKind.u64.wrap n % 29 := by
      unfold pickJ
      simp only [e1]
      exact wrap_inK (by simp only [inK]; omega)
    have e3 : ((wsB false).length : Int) = 29 := by
      show ((wordsT made21).length : Int) = 29
      rw [made_n]; rfl
    omega
  | true =>
    have e1 : IntKind.u64.wrap 20 = 20 := by decide
    have h1 : 0 ≤ IntKind.u64.wrap n % 20 := Int.emod_nonneg _ (by decide)
    have h2 : IntKind.u64.wrap n % 20 < 20 := Int.emod_lt_of_pos _ (by decide)
    have e2 : pickJ n true = IntKind.u64.wrap n % 20 := by
      unfold pickJ
      simp only [e1]
      exact wrap_inK (by simp only [inK]; omega)
    have e3 : ((wsB true).length : Int) = 20 := by
      show ((wordsT asked21).length : Int) = 20
      rw [asked_n]; rfl
    omega

end Go.Proofs.YtpodjhapjcncdaaDoor
