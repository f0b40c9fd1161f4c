/-
  The figures' small functions: a letter's point, letters' points, a digit, a text taken off, a row.
-/
import Derived.Test.YtjinaakebjfbiaaGreatDoorFb
import Derived.Test.YtjinaakebjfbiaaGreatDoorSq
import Derived.Test.YtjinaakebjfbiaaGreatDoorRn
namespace Go.Proofs.YtjinaakebjfbiaaGreatDoor
open Go.Ab

def formE (f : FormR) : List AV := [.int .u8 f.k, .int .i64 f.a, .int .i64 f.b, .int .i64 f.c, .int .i64 f.d]
def pieceE (p : PieceR) : List AV := [.int .i64 p.n, .int .i64 p.f, sl formE 5 p.fs .view]
def eqE (l : List PieceR) : List AV := [sl pieceE 3 l .view]
def pairE (p : Int × Int) : List AV := [.int .i64 p.1, .int .i64 p.2]
def numE (x : Int) : List AV := [.int .i64 x]
def figE (f : FigR) : List AV := [.str f.word, .int .i64 f.pts, .int .i64 f.nums, sl pairE 2 f.unl .view, sl eqE 1 f.eqs .view, .str f.bw, sl numE 1 f.bp .view]

theorem cbPoint : Callable Tryz.prog 82 := fun _ _ => by kernel_rfl
theorem point_c (c base : Int) (h1 : 65 ≤ c) (h2 : c ≤ 90) (h3 : 0 ≤ base) (h4 : base ≤ 1) : PCalls Tryz.prog 82 [.int .u8 c, .int .i64 base] (.int .i64 (if c = 80 then 0 else c - 65 + base)) := by
  refine pcalls_of_awp tyok cbPoint Tryz.func82 rfl rfl ?_
  by_cases hc : c = 80
  · repeat (first | refine wKB ?_ | refine awp_seq_k (fun K hK => ?_) | refine areg_text mixed tyok (by decide +kernel) ?_ | refine qal tyok (fun bx => ?_) | refine qbox (fun bx => ?_) | refine qboxV (fun bx => ?_) | ((repeat ((fail_if_success (refine hK _ _ ?_)); clear hK)); refine hK _ _ ?_; clear hK))
    refine r1 ?_
    exact Sub.of_eq (by rw [if_pos hc])
  · have e1 : IntKind.u8.wrap (c - 65) = c - 65 := wrap_inK (by simp only [inK]; omega)
    have e2 : IntKind.i64.wrap (c - 65) = c - 65 := wrap_inK (by simp only [inK]; omega)
    repeat (first | refine wKB ?_ | refine awp_seq_k (fun K hK => ?_) | refine areg_text mixed tyok (by decide +kernel) ?_ | refine qal tyok (fun bx => ?_) | refine qbox (fun bx => ?_) | refine qboxV (fun bx => ?_) | ((repeat ((fail_if_success (refine hK _ _ ?_)); clear hK)); refine hK _ _ ?_; clear hK))
    refine qp ?_ (hp := by rw [e1, e2]; simp only [inK]; omega)
    repeat (first | refine wKB ?_ | refine awp_seq_k (fun K hK => ?_) | refine areg_text mixed tyok (by decide +kernel) ?_ | refine qal tyok (fun bx => ?_) | refine qbox (fun bx => ?_) | refine qboxV (fun bx => ?_) | ((repeat ((fail_if_success (refine hK _ _ ?_)); clear hK)); refine hK _ _ ?_; clear hK))
    refine r1 ?_
    exact Sub.of_eq (by rw [if_neg hc, e1, e2])

theorem lettersF_at {s : List UInt8} (h : lettersF s = true) {i : Nat} (hi : i < s.length) : 65 ≤ (s.getD i 0).toNat ∧ (s.getD i 0).toNat ≤ 90 := by
  have := List.all_eq_true.1 h s[i] (List.getElem_mem hi)
  simp only [Bool.and_eq_true] at this
  rw [List.getD_eq_getElem?_getD, List.getElem?_eq_getElem hi]
  exact ⟨Nat.le_of_ble_eq_true this.1, Nat.le_of_ble_eq_true this.2⟩

theorem ptsF_succ {s : List UInt8} {base : Int} {i : Nat} (hi : i < s.length) : ptsF base (s.take (i + 1)) = ptsF base (s.take i) ++ [ptF base (s.getD i 0)] := by
  unfold ptsF
  rw [List.take_succ_eq_append_getElem hi, List.map_append, List.getD_eq_getElem?_getD, List.getElem?_eq_getElem hi]
  rfl

theorem cbPoints : Callable Tryz.prog 50 := fun _ _ => by kernel_rfl
set_option maxHeartbeats 800000 in
set_option maxRecDepth 100000 in
theorem points_c (s : List UInt8) (base : Int) (hs : lettersF s = true) (hl : s.length ≤ 1000000) (h3 : 0 ≤ base) (h4 : base ≤ 1) : PCalls Tryz.prog 50 [.str s, .int .i64 base] (sl numE 1 (ptsF base s) .view) := by
  refine pcalls_of_awp tyok cbPoints Tryz.func50 rfl rfl ?_
  repeat (first | refine wK ?_ | refine awp_seq_k (fun K hK => ?_) | refine areg_text mixed tyok (by decide +kernel) ?_ | refine qal tyok (fun bx => ?_) | refine qbox (fun bx => ?_) | refine qboxV (fun bx => ?_) | ((repeat ((fail_if_success (refine hK _ _ ?_)); clear hK)); refine hK _ _ ?_; clear hK))
  refine TR.range tyok (fun b => ?_)
  repeat (first | refine wK ?_ | refine awp_seq_k (fun K hK => ?_) | refine areg_text mixed tyok (by decide +kernel) ?_ | refine qal tyok (fun bx => ?_) | refine qbox (fun bx => ?_) | refine qboxV (fun bx => ?_) | ((repeat ((fail_if_success (refine hK _ _ ?_)); clear hK)); refine hK _ _ ?_; clear hK))
  refine awp_tok0 1 3 ?_
  refine awp_loopP (ι := { x : Nat × List Int × Option Addr × Nat // x.1 ≤ s.length ∧ x.2.1 = ptsF base (s.take x.1) })
    (fun x => [(0, .str s), (1, .int .i64 base), (4, sl numE 1 x.1.2.1 (.own x.1.2.2.1 x.1.2.2.2)), (8, .ptr b 0)])
    (fun x => [.tok x.1.2.2.1 x.1.2.2.2 x.1.2.1.length 1 3, .obj b (.stringIter ⟨s.toArray⟩ x.1.1)]) (fun x => s.length - x.1.1) ⟨(0, [], none, 0), Nat.zero_le _, rfl⟩ ?_ ⟨[], List.Perm.refl _⟩ ?_
  · (repeat (first | exact True.intro | refine ⟨⟨_, rfl, Sub.refl _⟩, ?_⟩ | refine ⟨⟨_, rfl, Sub.nilso _ _⟩, ?_⟩ | refine ⟨⟨_, rfl, sl_tail _ _ _ _ _⟩, ?_⟩ | refine ⟨⟨_, rfl, Sub.of_eq (by first | rfl | (congr 1; first | omega | (simp only; omega)) | (simp; done) | (simp; omega))⟩, ?_⟩ | refine ⟨⟨_, rfl, Sub.view _ _ _ _⟩, ?_⟩))
  rintro ⟨⟨i, xs, a2, c2⟩, hi, hxs⟩
  simp only at hi hxs ⊢
  have hxl : xs.length = i := by rw [hxs]; simp [ptsF]; omega
  repeat (first | refine wK ?_ | refine awp_seq_k (fun K hK => ?_) | refine areg_text mixed tyok (by decide +kernel) ?_ | refine qal tyok (fun bx => ?_) | refine qbox (fun bx => ?_) | refine qboxV (fun bx => ?_) | ((repeat ((fail_if_success (refine hK _ _ ?_)); clear hK)); refine hK _ _ ?_; clear hK))
  refine TR.next (List.Perm.swap _ _ _) ?_
  by_cases hlt : i < s.length
  · obtain ⟨l1, l2⟩ := lettersF_at hs hlt
    obtain ⟨e1, e2⟩ := nextV_ascii hlt (by omega)
    rw [e1, e2]
    have ew : IntKind.u8.wrap ((s.getD i 0).toNat : Int) = ((s.getD i 0).toNat : Int) := wrap_inK (by simp only [inK]; omega)
    have g := point_c ((s.getD i 0).toNat : Int) base (by omega) (by omega) h3 h4
    have g1 : PCalls Tryz.prog 82 [.int .u8 (IntKind.u8.wrap ((s.getD i 0).toNat : Int)), .int .i64 base] (.int .i64 (ptF base (s.getD i 0))) := by rw [ew]; exact g
    repeat (first | refine wK ?_ | refine awp_seq_k (fun K hK => ?_) | refine areg_text mixed tyok (by decide +kernel) ?_ | refine qal tyok (fun bx => ?_) | refine qbox (fun bx => ?_) | refine qboxV (fun bx => ?_) | refine TR.pcall rfl rfl rfl rfl True.intro rfl rfl (g1) ?_ | refine pco rfl rfl rfl rfl rfl rfl rfl rfl (fun _ => g1) ?_ | ((repeat ((fail_if_success (refine hK _ _ ?_)); clear hK)); refine hK _ _ ?_; clear hK))
    refine qapp tyok numE xs (ptF base (s.getD i 0)) (SubL.refl _) ?_ fun ad cp => ?_
    · simp only
      omega
    repeat (first | refine wK ?_ | refine awp_seq_k (fun K hK => ?_) | refine areg_text mixed tyok (by decide +kernel) ?_ | refine qal tyok (fun bx => ?_) | refine qbox (fun bx => ?_) | refine qboxV (fun bx => ?_) | ((repeat ((fail_if_success (refine hK _ _ ?_)); clear hK)); refine hK _ _ ?_; clear hK))
    refine ⟨⟨(i + 1, xs ++ [ptF base (s.getD i 0)], ad, cp), hlt, ?_⟩, ?_, ⟨[], ?_⟩, ?_⟩
    · show xs ++ _ = _
      rw [hxs, ptsF_succ hlt]
    · (repeat (first | exact True.intro | refine ⟨⟨_, rfl, Sub.refl _⟩, ?_⟩ | refine ⟨⟨_, rfl, Sub.nilso _ _⟩, ?_⟩ | refine ⟨⟨_, rfl, sl_tail _ _ _ _ _⟩, ?_⟩ | refine ⟨⟨_, rfl, Sub.of_eq (by first | rfl | (congr 1; first | omega | (simp only; omega)) | (simp; done) | (simp; omega))⟩, ?_⟩ | refine ⟨⟨_, rfl, Sub.view _ _ _ _⟩, ?_⟩))
    · first | exact List.Perm.refl _ | exact List.Perm.swap _ _ _
    · simp only; omega
  · obtain ⟨e1, e2⟩ := nextV_end hlt
    rw [e1, e2]
    have he : i = s.length := by omega
    subst he
    rw [List.take_length] at hxs
    subst hxs
    repeat (first | refine wK ?_ | refine awp_seq_k (fun K hK => ?_) | refine areg_text mixed tyok (by decide +kernel) ?_ | refine qal tyok (fun bx => ?_) | refine qbox (fun bx => ?_) | refine qboxV (fun bx => ?_) | ((repeat ((fail_if_success (refine hK _ _ ?_)); clear hK)); refine hK _ _ ?_; clear hK))
    exact fnQ_ret 2 rfl (.tmp rfl .nil) (Sub.view _ _ _ _) ⟨rfl, rfl⟩


theorem cbDigit : Callable Tryz.prog 47 := fun _ _ => by kernel_rfl
theorem digit_c (s : List UInt8) (v : Int) (h : digF s = some v) (hs : s.length ≤ 1000000000) : PCalls Tryz.prog 47 [.str s] (.int .i64 v) := by
  refine pcalls_of_awp tyok cbDigit Tryz.func47 rfl rfl ?_
  cases s with
  | nil => cases h
  | cons b l =>
    simp only [digF] at h
    cases hb : Nat.ble 48 b.toNat with
    | false => rw [hb] at h; cases h
    | true =>
      rw [hb] at h
      simp only [Option.some.injEq] at h
      have h48 := Nat.le_of_ble_eq_true hb
      have h255 := b.toNat_lt
      have hl : ((b :: l).length : Int) = l.length + 1 := by simp
      have e0 : ((b :: l).getD (0 : Int).toNat 0).toNat = b.toNat := rfl
      have e1 : IntKind.u8.wrap ((b.toNat : Int) - 48) = (b.toNat : Int) - 48 := wrap_inK (by simp only [inK]; omega)
      have e2 : IntKind.i64.wrap ((b.toNat : Int) - 48) = (b.toNat : Int) - 48 := wrap_inK (by simp only [inK]; omega)
      repeat (first | refine wKB ?_ | refine awp_seq_k (fun K hK => ?_) | refine areg_text mixed tyok (by decide +kernel) ?_ | refine qal tyok (fun bx => ?_) | refine qbox (fun bx => ?_) | refine qboxV (fun bx => ?_) | ((repeat ((fail_if_success (refine hK _ _ ?_)); clear hK)); refine hK _ _ ?_; clear hK))
      refine r1 ?_
      refine Sub.of_eq ?_
      rw [e0, e1, e2, h]

/-- The reader's box. -/
def rdrB (b : Nat) (s : List UInt8) (base : Int) : Ent := .box b 137 (.agg [.str s, .int .i64 base])

theorem cbHas : Callable Tryz.prog 108 := fun _ _ => by kernel_rfl
theorem has_c (b : Nat) (s p : List UInt8) (base : Int) : ACalls Tryz.prog 108 [.ptr b 0, .str p] [rdrB b s base] (fun r H' => r = .ret (.bool (Lib.hasPrefix s p)) ∧ H' = [rdrB b (Lib.trimPrefix s p) base]) := by
  refine acalls_of_awp tyok cbHas Tryz.func108 rfl rfl ?_
  unfold rdrB
  repeat (first | refine wK ?_ | refine awp_seq_k (fun K hK => ?_) | refine areg_text mixed tyok (by decide +kernel) ?_ | refine qal tyok (fun bx => ?_) | refine qbox (fun bx => ?_) | refine qboxV (fun bx => ?_) | refine TR.pcall rfl rfl rfl rfl True.intro rfl rfl (cutPrefix_c _ _) ?_ | refine pco rfl rfl rfl rfl rfl rfl rfl rfl (fun _ => cutPrefix_c _ _) ?_ | ((repeat ((fail_if_success (refine hK _ _ ?_)); clear hK)); refine hK _ _ ?_; clear hK))
  exact fnQ_ret 0 rfl (.tmp rfl .nil) (Sub.refl _) ⟨rfl, rfl⟩

end Go.Proofs.YtjinaakebjfbiaaGreatDoor
