/-
  The figures' reader: a factor.
-/
import Derived.Test.YtjinaakebjfbiaaGreatDoorFg1
import Derived.Test.YtjinaakebjfbiaaGreatDoorAb21
namespace Go.Proofs.YtjinaakebjfbiaaGreatDoor
open Go.Ab

theorem cut_len (s sep : List UInt8) : (Lib.cut s sep).1.length ≤ s.length ∧ (Lib.cut s sep).2.1.length ≤ s.length := by
  unfold Lib.cut
  split
  · simp only [List.length_take, List.length_drop]; omega
  · simp

theorem idxL_le (x : List UInt8) : ∀ l, idxL x l < l.length ∨ l = []
  | [] => .inr rfl
  | y :: l => by
    refine .inl ?_
    have := idxL_le x l
    simp only [idxL, List.length_cons]
    split
    · omega
    split
    · omega
    · rcases this with h | rfl
      · omega
      · simp [idxL] at *

theorem kinds_sub : Sub (.slice 1 5 (chunk [.str [], .str [120], .str [121], .str [99, 114, 111, 115, 115], .str [100, 111, 116]] 1) .full) (sl txtE 1 kindsL .view) :=
  (Sub.view _ _ _ _).trans (Sub.els fun i hi => match i, hi with
    | 0, _ => SubL.refl _
    | 1, _ => SubL.refl _
    | 2, _ => SubL.refl _
    | 3, _ => SubL.refl _
    | 4, _ => SubL.refl _)

theorem fkind_c (w : List UInt8) : PCalls Tryz.prog 136 [.slice 1 5 (chunk [.str [], .str [120], .str [121], .str [99, 114, 111, 115, 115], .str [100, 111, 116]] 1) .full, .str w] (.int .i64 (idxL w kindsL)) :=
  PCalls.sub (index_c kindsL w (by decide)) (.cons kinds_sub (SubL.refl _))

theorem cbForm : Callable Tryz.prog 109 := fun _ _ => by kernel_rfl
set_option maxHeartbeats 1600000 in
set_option maxRecDepth 100000 in
theorem form_c (b : Nat) (s rest : List UInt8) (base : Int) (f : FormR) (hs : s.length ≤ 1000000) (h3 : 0 ≤ base) (h4 : base ≤ 1) (h : formF base s = some (f, rest)) :
    ACalls Tryz.prog 109 [.ptr b 0] [rdrB b s base] (fun r H' => r = .ret (.agg (formE f)) ∧ H' = [rdrB b rest base]) := by
  refine acalls_of_awp tyok cbForm Tryz.func109 rfl rfl ?_
  unfold rdrB
  unfold formF at h
  have g1 := cut_c s [40] (by omega)
  have l1 := cut_len s [40]
  cases hc1 : Lib.cut s [40] with
  | mk word r1 =>
  obtain ⟨r1, ok1⟩ := r1
  rw [hc1] at h g1 l1
  simp only at h g1 l1
  have g2 := cut_c r1 [41] (by omega)
  have l2 := cut_len r1 [41]
  cases hc2 : Lib.cut r1 [41] with
  | mk inner r2 =>
  obtain ⟨behind, ok2⟩ := r2
  rw [hc2] at h g2 l2
  simp only at h g2 l2
  cases hd : lettersF (Lib.replaceAll inner [44] []) && decide (0 ≤ idxL word kindsL) with
  | false => rw [hd] at h; cases h
  | true =>
  rw [hd] at h
  simp only [Bool.and_eq_true, decide_eq_true_eq] at hd h
  have g3 := noComma_c inner (by omega)
  have gk := fkind_c word
  have hk4 : idxL word kindsL < 5 := by
    rcases idxL_le word kindsL with h | h
    · exact h
    · cases h
  have ek : IntKind.u8.wrap (idxL word kindsL) = idxL word kindsL := wrap_inK (by simp only [inK]; omega)
  have gp := fun hl => points_c (Lib.replaceAll inner [44] []) base hd.1 hl h3 h4
  have hpl : (ptsF base (Lib.replaceAll inner [44] [])).length = (Lib.replaceAll inner [44] []).length := by simp [ptsF]
  generalize hpp : ptsF base (Lib.replaceAll inner [44] []) = pp at h gp hpl
  ((repeat (first | refine wK ?_ | refine awp_seq_k (fun K hK => ?_) | refine areg_text mixed tyok (by decide +kernel) ?_ | refine TR.pcall rfl rfl rfl rfl True.intro rfl rfl (g1) ?_ | refine TR.pcall rfl rfl rfl rfl True.intro rfl rfl (g2) ?_ | refine TR.pcall rfl rfl rfl rfl True.intro rfl rfl (gk) ?_ | refine pco rfl rfl rfl rfl rfl rfl rfl rfl (fun _ => g1) ?_ | refine pco rfl rfl rfl rfl rfl rfl rfl rfl (fun _ => g2) ?_ | refine pco rfl rfl rfl rfl rfl rfl rfl rfl (fun _ => gk) ?_ | ((repeat ((fail_if_success (refine hK _ _ ?_)); clear hK)); refine hK _ _ ?_; clear hK))); ((first | refine qal tyok (fun b2 => ?_) | refine qbox (fun b2 => ?_) | refine qboxV (fun b2 => ?_))); (repeat (first | refine wK ?_ | refine awp_seq_k (fun K hK => ?_) | refine areg_text mixed tyok (by decide +kernel) ?_ | refine qal tyok (fun bx => ?_) | refine qbox (fun bx => ?_) | refine qboxV (fun bx => ?_) | refine TR.pcall rfl rfl rfl rfl True.intro rfl rfl (g1) ?_ | refine TR.pcall rfl rfl rfl rfl True.intro rfl rfl (g2) ?_ | refine TR.pcall rfl rfl rfl rfl True.intro rfl rfl (gk) ?_ | refine pco rfl rfl rfl rfl rfl rfl rfl rfl (fun _ => g1) ?_ | refine pco rfl rfl rfl rfl rfl rfl rfl rfl (fun _ => g2) ?_ | refine pco rfl rfl rfl rfl rfl rfl rfl rfl (fun _ => gk) ?_ | ((repeat ((fail_if_success (refine hK _ _ ?_)); clear hK)); refine hK _ _ ?_; clear hK))))
  refine areg_soft mixed tyok [1, 6] [] [0, 1, 2, 3, 4, 5, 6, 7] (by decide +kernel) ?_
  match pp, h, hpl, gp with
  | [a, b'], h, hpl, gp =>
    simp only [Option.some.injEq, Prod.mk.injEq] at h
    obtain ⟨rfl, rfl⟩ := h
    have gp := gp (by simp at hpl; omega)
    repeat (first | refine wKB ?_ | refine awp_seq_k (fun K hK => ?_) | refine areg_text mixed tyok (by decide +kernel) ?_ | refine qal tyok (fun bx => ?_) | refine qbox (fun bx => ?_) | refine qboxV (fun bx => ?_) | refine TR.pcall rfl rfl rfl rfl True.intro rfl rfl (g3) ?_ | refine TR.pcall rfl rfl rfl rfl True.intro rfl rfl (gp) ?_ | refine pco rfl rfl rfl rfl rfl rfl rfl rfl (fun _ => g3) ?_ | refine pco rfl rfl rfl rfl rfl rfl rfl rfl (fun _ => gp) ?_ | ((repeat ((fail_if_success (refine hK _ _ ?_)); clear hK)); refine hK _ _ ?_; clear hK))
    exact fnQ_ret 1 rfl (.cell rfl rfl (List.Mem.head _) rfl trivial .nil) (Sub.of_eq (congrArg (fun k => AV.agg [.int .u8 k, .int .i64 a, .int .i64 b', .int .i64 0, .int .i64 0]) ek)) ⟨rfl, rfl⟩
  | [a, b', c, d], h, hpl, gp =>
    simp only [Option.some.injEq, Prod.mk.injEq] at h
    obtain ⟨rfl, rfl⟩ := h
    have gp := gp (by simp at hpl; omega)
    repeat (first | refine wKB ?_ | refine awp_seq_k (fun K hK => ?_) | refine areg_text mixed tyok (by decide +kernel) ?_ | refine qal tyok (fun bx => ?_) | refine qbox (fun bx => ?_) | refine qboxV (fun bx => ?_) | refine TR.pcall rfl rfl rfl rfl True.intro rfl rfl (g3) ?_ | refine TR.pcall rfl rfl rfl rfl True.intro rfl rfl (gp) ?_ | refine pco rfl rfl rfl rfl rfl rfl rfl rfl (fun _ => g3) ?_ | refine pco rfl rfl rfl rfl rfl rfl rfl rfl (fun _ => gp) ?_ | ((repeat ((fail_if_success (refine hK _ _ ?_)); clear hK)); refine hK _ _ ?_; clear hK))
    exact fnQ_ret 1 rfl (.cell rfl rfl (List.Mem.head _) rfl trivial .nil) (Sub.of_eq (congrArg (fun k => AV.agg [.int .u8 k, .int .i64 a, .int .i64 b', .int .i64 c, .int .i64 d]) ek)) ⟨rfl, rfl⟩

end Go.Proofs.YtjinaakebjfbiaaGreatDoor
