/-
  The figures: a construction, a predicate.
-/
import Derived.Test.YtjinaakebjfbiaaGreatDoorFg6
namespace Go.Proofs.YtjinaakebjfbiaaGreatDoor
open Go.Ab

theorem cbPr : Callable Tryz.prog 129 := fun _ _ => by kernel_rfl
set_option maxHeartbeats 3200000 in
set_option maxRecDepth 100000 in
theorem predicate_c (w : List UInt8) : PCalls Tryz.prog 129 [.str w] (figV (preF w)) := by
  refine pcalls_of_awp tyok cbPr Tryz.func129 rfl rfl ?_
  have g := row_c asked21 w (by have := asked_len; omega)
  cases hr : rowF asked21 w with
  | none =>
    rw [hr] at g
    simp only [rowV] at g
    ((repeat (first | refine wK ?_ | refine awp_seq_k (fun K hK => ?_) | refine areg_text mixed tyok (by decide +kernel) ?_ | refine TR.pcall rfl rfl rfl rfl True.intro rfl rfl (g) ?_ | refine pco rfl rfl rfl rfl rfl rfl rfl rfl (fun _ => g) ?_ | ((repeat ((fail_if_success (refine hK _ _ ?_)); clear hK)); refine hK _ _ ?_; clear hK))); ((first | refine qal tyok (fun b2 => ?_) | refine qbox (fun b2 => ?_) | refine qboxV (fun b2 => ?_))); (repeat (first | refine wK ?_ | refine awp_seq_k (fun K hK => ?_) | refine areg_text mixed tyok (by decide +kernel) ?_ | refine qal tyok (fun bx => ?_) | refine qbox (fun bx => ?_) | refine qboxV (fun bx => ?_) | refine TR.pcall rfl rfl rfl rfl True.intro rfl rfl (g) ?_ | refine pco rfl rfl rfl rfl rfl rfl rfl rfl (fun _ => g) ?_ | ((repeat ((fail_if_success (refine hK _ _ ?_)); clear hK)); refine hK _ _ ?_; clear hK))))
    refine fnQ_ret 1 rfl (.cell rfl rfl (List.Mem.head _) rfl trivial (.tmp rfl .nil)) ?_ ⟨rfl, rfl⟩
    rw [preF_none hr]
    exact Sub.tuple2 figZ_sub (Sub.refl _)
  | some l =>
    rw [hr] at g
    simp only [rowV] at g
    obtain ⟨⟨f, hf⟩, hlen⟩ := rowsOk_at asked_ok hr
    have hP := preF_some hr hf
    unfold preR at hf
    split at hf
    rotate_left
    · cases hf
    rename_i w0 p e
    cases hp : digF p with
    | none => rw [hp] at hf; cases hf
    | some pv =>
    rw [hp] at hf
    simp only at hf
    cases he : eqsF 0 e with
    | none => rw [he] at hf; cases hf
    | some ev =>
    rw [he] at hf
    simp only [Option.some.injEq] at hf
    subst hf
    have g1 := digit_c p pv hp (by have := hlen p (by simp); omega)
    have g2 := equations_c e 0 ev (by have := hlen e (by simp); omega) (by decide) (by decide) he
    have hl3 : (([w0, p, e] : List (List UInt8)).length : Int) = 3 := rfl
    ((repeat (first | refine wKB ?_ | refine awp_seq_k (fun K hK => ?_) | refine TR.pcall rfl rfl rfl rfl True.intro rfl rfl (g) ?_ | refine pco rfl rfl rfl rfl rfl rfl rfl rfl (fun _ => g) ?_ | ((repeat ((fail_if_success (refine hK _ _ ?_)); clear hK)); refine hK _ _ ?_; clear hK))); ((first | refine qal tyok (fun b2 => ?_) | refine qbox (fun b2 => ?_) | refine qboxV (fun b2 => ?_))); (repeat (first | refine wKB ?_ | refine awp_seq_k (fun K hK => ?_) | refine qal tyok (fun bx => ?_) | refine qbox (fun bx => ?_) | refine qboxV (fun bx => ?_) | refine TR.pcall rfl rfl rfl rfl True.intro rfl rfl (g) ?_ | refine pco rfl rfl rfl rfl rfl rfl rfl rfl (fun _ => g) ?_ | ((repeat ((fail_if_success (refine hK _ _ ?_)); clear hK)); refine hK _ _ ?_; clear hK))))
    refine areg_soft mixed tyok [4, 8] [] [0, 1, 2, 3, 4, 5, 6, 7, 8, 9, 10, 11] (by decide +kernel) ?_
    repeat (first | refine wKB ?_ | refine awp_seq_k (fun K hK => ?_) | refine areg_text mixed tyok (by decide +kernel) ?_ | refine qal tyok (fun bx => ?_) | refine qbox (fun bx => ?_) | refine qboxV (fun bx => ?_) | refine TR.pcall rfl rfl rfl rfl True.intro rfl rfl (g1) ?_ | refine TR.pcall rfl rfl rfl rfl True.intro rfl rfl (g2) ?_ | refine pco rfl rfl rfl rfl rfl rfl rfl rfl (fun _ => g1) ?_ | refine pco rfl rfl rfl rfl rfl rfl rfl rfl (fun _ => g2) ?_ | ((repeat ((fail_if_success (refine hK _ _ ?_)); clear hK)); refine hK _ _ ?_; clear hK))
    refine fnQ_ret 1 rfl (.cell rfl rfl (List.Mem.head _) rfl trivial (.tmp rfl .nil)) ?_ ⟨rfl, rfl⟩
    rw [hP]
    exact (Sub.tuple2 (subAgg (.cons (Sub.refl _) (.cons (Sub.refl _) (.cons (Sub.refl _) (.cons (Sub.nilsv _ _) (.cons (Sub.refl _) (.cons (Sub.refl _) (.cons (Sub.nilsv _ _) .nil)))))))) (Sub.refl _))

theorem allO_drop {α β : Type} {f : α → Option β} {l : List α} {r : List β} {k : Nat} {x : α} (hk : l[k]? = some x) (h : allO f (l.drop k) = some r) : ∃ y r', f x = some y ∧ allO f (l.drop (k + 1)) = some r' ∧ r = y :: r' := by
  have hk' := (List.getElem?_eq_some_iff.1 hk).1
  rw [List.drop_eq_getElem_cons hk', (List.getElem?_eq_some_iff.1 hk).2] at h
  simp only [allO] at h
  cases h1 : f x with
  | none => rw [h1] at h; cases h
  | some y =>
    rw [h1] at h
    simp only at h
    cases h2 : allO f (l.drop (k + 1)) with
    | none => rw [h2] at h; cases h
    | some r' =>
      rw [h2] at h
      simp only [Option.some.injEq] at h
      exact ⟨y, r', rfl, rfl, h.symm⟩

theorem fieldsGo_len : ∀ (l cur x : List UInt8), x ∈ Lib.fieldsGo cur l → x.length ≤ cur.length + l.length
  | [], cur, x, h => by
    simp only [Lib.fieldsGo] at h
    split at h
    · cases h
    · simp at h; simp [h]
  | b :: l, cur, x, h => by
    simp only [Lib.fieldsGo] at h
    split at h
    · split at h
      · have := fieldsGo_len l [] x h
        simp at this ⊢; omega
      · rcases List.mem_cons.1 h with rfl | h
        · simp
        · have := fieldsGo_len l [] x h
          simp at this ⊢; omega
    · have := fieldsGo_len l _ x h
      simp at this ⊢; omega

theorem fields_count (l : List UInt8) : (Lib.fields l).length ≤ l.length + 1 := by
  have : ∀ (l : List UInt8) (ws : Bool), Lib.cntF ws l ≤ l.length := by
    intro l
    induction l with
    | nil => intro ws; simp [Lib.cntF]
    | cons b l ih =>
      intro ws
      have := ih (Lib.isSp b)
      simp only [Lib.cntF, List.length_cons]
      split <;> omega
  rw [Lib.fields_length]
  have := this l true
  omega

theorem cbCo : Callable Tryz.prog 23 := fun _ _ => by kernel_rfl
set_option maxHeartbeats 6400000 in
set_option maxRecDepth 100000 in
theorem construction_c (w : List UInt8) : PCalls Tryz.prog 23 [.str w] (figV (conF w)) := by
  refine pcalls_of_awp tyok cbCo Tryz.func23 rfl rfl ?_
  have g := row_c made21 w (by have := made_len; omega)
  cases hr : rowF made21 w with
  | none =>
    rw [hr] at g
    simp only [rowV] at g
    ((repeat (first | refine wK ?_ | refine awp_seq_k (fun K hK => ?_) | refine areg_text mixed tyok (by decide +kernel) ?_ | refine TR.pcall rfl rfl rfl rfl True.intro rfl rfl (g) ?_ | refine pco rfl rfl rfl rfl rfl rfl rfl rfl (fun _ => g) ?_ | ((repeat ((fail_if_success (refine hK _ _ ?_)); clear hK)); refine hK _ _ ?_; clear hK))); ((first | refine qal tyok (fun b2 => ?_) | refine qbox (fun b2 => ?_) | refine qboxV (fun b2 => ?_))); (repeat (first | refine wK ?_ | refine awp_seq_k (fun K hK => ?_) | refine areg_text mixed tyok (by decide +kernel) ?_ | refine qal tyok (fun bx => ?_) | refine qbox (fun bx => ?_) | refine qboxV (fun bx => ?_) | refine TR.pcall rfl rfl rfl rfl True.intro rfl rfl (g) ?_ | refine pco rfl rfl rfl rfl rfl rfl rfl rfl (fun _ => g) ?_ | ((repeat ((fail_if_success (refine hK _ _ ?_)); clear hK)); refine hK _ _ ?_; clear hK))))
    refine fnQ_ret 1 rfl (.cell rfl rfl (List.Mem.head _) rfl trivial (.tmp rfl .nil)) ?_ ⟨rfl, rfl⟩
    rw [conF_none hr]
    exact Sub.tuple2 figZ_sub (Sub.refl _)
  | some l =>
    rw [hr] at g
    simp only [rowV] at g
    obtain ⟨⟨f, hf⟩, hlen⟩ := rowsOk_at made_ok hr
    have hP := conF_some hr hf
    unfold conR at hf
    split at hf
    rotate_left
    · cases hf
    rename_i w0 p n u e bt
    cases hp : digF p with
    | none => rw [hp] at hf; cases hf
    | some pv =>
    rw [hp] at hf
    simp only at hf
    cases hn : digF n with
    | none => rw [hn] at hf; cases hf
    | some nv =>
    rw [hn] at hf
    simp only at hf
    cases hu : asciiB u with
    | false => rw [hu] at hf; cases hf
    | true =>
    rw [hu] at hf
    simp only at hf
    cases hpr : allO pairF (Lib.fields u) with
    | none => rw [hpr] at hf; cases hf
    | some uv =>
    rw [hpr] at hf
    simp only at hf
    cases he : eqsF 1 e with
    | none => rw [he] at hf; cases hf
    | some ev =>
    rw [he] at hf
    simp only at hf
    cases hbt : builtF bt with
    | none => rw [hbt] at hf; cases hf
    | some q =>
    obtain ⟨bw, bp⟩ := q
    rw [hbt] at hf
    simp only [Option.some.injEq] at hf
    subst hf
    have lu : u.length ≤ 1000 := hlen u (by simp)
    have lb : bt.length ≤ 1000 := hlen bt (by simp)
    have g1 := digit_c p pv hp (by have := hlen p (by simp); omega)
    have g2 := digit_c n nv hn (by have := hlen n (by simp); omega)
    have g3 := equations_c e 1 ev (by have := hlen e (by simp); omega) (by decide) (by decide) he
    have g4 := fields_c u (by omega) hu
    have g5 := cut_c bt [32] (by omega)
    have lc := cut_len bt [32]
    have hl6 : (([w0, p, n, u, e, bt] : List (List UInt8)).length : Int) = 6 := rfl
    have hfc := fields_count u
    ((repeat (first | refine wKB ?_ | refine awp_seq_k (fun K hK => ?_) | refine TR.pcall rfl rfl rfl rfl True.intro rfl rfl (g) ?_ | refine pco rfl rfl rfl rfl rfl rfl rfl rfl (fun _ => g) ?_ | ((repeat ((fail_if_success (refine hK _ _ ?_)); clear hK)); refine hK _ _ ?_; clear hK))); ((first | refine qal tyok (fun b2 => ?_) | refine qbox (fun b2 => ?_) | refine qboxV (fun b2 => ?_))); (repeat (first | refine wKB ?_ | refine awp_seq_k (fun K hK => ?_) | refine qal tyok (fun bx => ?_) | refine qbox (fun bx => ?_) | refine qboxV (fun bx => ?_) | refine TR.pcall rfl rfl rfl rfl True.intro rfl rfl (g) ?_ | refine pco rfl rfl rfl rfl rfl rfl rfl rfl (fun _ => g) ?_ | ((repeat ((fail_if_success (refine hK _ _ ?_)); clear hK)); refine hK _ _ ?_; clear hK))))
    refine areg_soft mixed tyok [4, 8, 12] [] [0, 1, 2, 3, 4, 5, 6, 7, 8, 9, 10, 11, 12, 13, 14, 15] (by decide +kernel) ?_
    ((repeat (first | refine wKB ?_ | refine awp_seq_k (fun K hK => ?_) | refine areg_text mixed tyok (by decide +kernel) ?_ | refine TR.pcall rfl rfl rfl rfl True.intro rfl rfl (g1) ?_ | refine TR.pcall rfl rfl rfl rfl True.intro rfl rfl (g2) ?_ | refine TR.pcall rfl rfl rfl rfl True.intro rfl rfl (g3) ?_ | refine TR.pcall rfl rfl rfl rfl True.intro rfl rfl (g4) ?_ | refine pco rfl rfl rfl rfl rfl rfl rfl rfl (fun _ => g1) ?_ | refine pco rfl rfl rfl rfl rfl rfl rfl rfl (fun _ => g2) ?_ | refine pco rfl rfl rfl rfl rfl rfl rfl rfl (fun _ => g3) ?_ | refine pco rfl rfl rfl rfl rfl rfl rfl rfl (fun _ => g4) ?_ | ((repeat ((fail_if_success (refine hK _ _ ?_)); clear hK)); refine hK _ _ ?_; clear hK))); ((first | refine qal tyok (fun b6 => ?_) | refine qbox (fun b6 => ?_) | refine qboxV (fun b6 => ?_))); (repeat (first | refine wKB ?_ | refine awp_seq_k (fun K hK => ?_) | refine areg_text mixed tyok (by decide +kernel) ?_ | refine qal tyok (fun bx => ?_) | refine qbox (fun bx => ?_) | refine qboxV (fun bx => ?_) | refine TR.pcall rfl rfl rfl rfl True.intro rfl rfl (g1) ?_ | refine TR.pcall rfl rfl rfl rfl True.intro rfl rfl (g2) ?_ | refine TR.pcall rfl rfl rfl rfl True.intro rfl rfl (g3) ?_ | refine TR.pcall rfl rfl rfl rfl True.intro rfl rfl (g4) ?_ | refine pco rfl rfl rfl rfl rfl rfl rfl rfl (fun _ => g1) ?_ | refine pco rfl rfl rfl rfl rfl rfl rfl rfl (fun _ => g2) ?_ | refine pco rfl rfl rfl rfl rfl rfl rfl rfl (fun _ => g3) ?_ | refine pco rfl rfl rfl rfl rfl rfl rfl rfl (fun _ => g4) ?_ | ((repeat ((fail_if_success (refine hK _ _ ?_)); clear hK)); refine hK _ _ ?_; clear hK))))
    refine awp_boxSub [] (v' := .agg [.str w, .int .i64 pv, .int .i64 nv, sl pairE 2 [] (.own none 0), sl eqE 1 ev .view, .str [], .nils]) (subAgg (.cons (Sub.refl _) (.cons (Sub.refl _) (.cons (Sub.refl _) (.cons (Sub.sl_nil pairE 2) (SubL.refl _)))))) ?_
    refine awp_tok0 2 88 ?_
    refine awp_loop0 (ι := { y : Nat × List (Int × Int) × List (Int × Int) × Option Addr × Nat // y.1 ≤ (Lib.fields u).length ∧ allO pairF ((Lib.fields u).drop y.1) = some y.2.2.1 ∧ y.2.1 ++ y.2.2.1 = uv })
      (fun y => [(0, .str w), (2, .ptr b2 0), (4, sl txtE 1 [w0, p, n, u, e, bt] .view), (6, .ptr b6 0), (38, sl txtE 1 (Lib.fields u) .view), (39, .int .i64 (Lib.fields u).length), (40, .int .i64 y.1.1)])
      (fun y => [.tok y.1.2.2.2.1 y.1.2.2.2.2 y.1.2.1.length 2 88, .box b6 54 (.agg [.str w, .int .i64 pv, .int .i64 nv, sl pairE 2 y.1.2.1 (.own y.1.2.2.2.1 y.1.2.2.2.2), sl eqE 1 ev .view, .str [], .nils]), .box b2 54 (.agg [.str [], .int .i64 0, .int .i64 0, .nils, .nils, .str [], .nils])])
      (fun y => (Lib.fields u).length - y.1.1) ⟨(0, [], uv, none, 0), Nat.zero_le _, hpr, rfl⟩ (by (repeat (first | exact True.intro | refine ⟨⟨_, rfl, Sub.refl _⟩, ?_⟩ | refine ⟨⟨_, rfl, Sub.nilso _ _⟩, ?_⟩ | refine ⟨⟨_, rfl, sl_tail _ _ _ _ _⟩, ?_⟩ | refine ⟨⟨_, rfl, Sub.of_eq (by first | rfl | (congr 1; first | omega | (simp only; omega)) | (simp; done) | (simp; omega))⟩, ?_⟩ | refine ⟨⟨_, rfl, Sub.view _ _ _ _⟩, ?_⟩))) ⟨0, rfl⟩ ?_
    rintro ⟨⟨k, acc, rest, a2, c2⟩, hk, hall, hacc⟩
    simp only at hk hall hacc ⊢
    have hul := allO_len hpr
    have hal : acc.length + rest.length = uv.length := by rw [← List.length_append, hacc]
    by_cases hlt : k < (Lib.fields u).length
    · have hlt' : (k : Int) < (Lib.fields u).length := by omega
      have hgk : (Lib.fields u)[k]? = some ((Lib.fields u).getD k default) := by rw [List.getD_eq_getElem?_getD, List.getElem?_eq_getElem hlt]; rfl
      obtain ⟨pr, rest2, hpk, hall2, rfl⟩ := allO_drop hgk hall
      have hpl := fieldsGo_len u [] _ (List.mem_of_getElem? hgk)
      simp only [List.length_nil, Nat.zero_add] at hpl
      unfold pairF at hpk
      cases hlt2 : lettersF ((Lib.fields u).getD k default) with
      | false => rw [hlt2] at hpk; cases hpk
      | true =>
      rw [hlt2] at hpk
      simp only at hpk
      have gp := points_c ((Lib.fields u).getD k default) 0 hlt2 (by omega) (by decide) (by decide)
      split at hpk
      rotate_left
      · cases hpk
      rename_i x y r hpts
      cases hpk
      rw [hpts] at gp
      have hxl : ((x :: y :: r).length : Int) = r.length + 2 := by simp; omega
      repeat (first | refine wKB ?_ | refine awp_seq_k (fun K hK => ?_) | refine areg_text mixed tyok (by decide +kernel) ?_ | refine qal tyok (fun bx => ?_) | refine qbox (fun bx => ?_) | refine qboxV (fun bx => ?_) | refine TR.pcall rfl rfl rfl rfl True.intro rfl rfl (gp) ?_ | refine pco rfl rfl rfl rfl rfl rfl rfl rfl (fun _ => gp) ?_ | ((repeat ((fail_if_success (refine hK _ _ ?_)); clear hK)); refine hK _ _ ?_; clear hK))
      refine qarr2 tyok ?_
      repeat (first | refine wKB ?_ | refine awp_seq_k (fun K hK => ?_) | refine areg_text mixed tyok (by decide +kernel) ?_ | refine qal tyok (fun bx => ?_) | refine qbox (fun bx => ?_) | refine qboxV (fun bx => ?_) | ((repeat ((fail_if_success (refine hK _ _ ?_)); clear hK)); refine hK _ _ ?_; clear hK))
      refine qapp tyok pairE acc (x, y) (SubL.refl _) ?_ fun ad cp => ?_
      · simp only
        simp only [List.length_cons] at hal
        omega
      repeat (first | refine wKB ?_ | refine awp_seq_k (fun K hK => ?_) | refine areg_text mixed tyok (by decide +kernel) ?_ | refine qal tyok (fun bx => ?_) | refine qbox (fun bx => ?_) | refine qboxV (fun bx => ?_) | ((repeat ((fail_if_success (refine hK _ _ ?_)); clear hK)); refine hK _ _ ?_; clear hK))
      refine ⟨⟨(k + 1, acc ++ [(x, y)], rest2, ad, cp), hlt, hall2, by simpa using hacc⟩, (by (repeat (first | exact True.intro | refine ⟨⟨_, rfl, Sub.refl _⟩, ?_⟩ | refine ⟨⟨_, rfl, Sub.nilso _ _⟩, ?_⟩ | refine ⟨⟨_, rfl, sl_tail _ _ _ _ _⟩, ?_⟩ | refine ⟨⟨_, rfl, Sub.of_eq (by first | rfl | (congr 1; first | omega | (simp only; omega)) | (simp; done) | (simp; omega))⟩, ?_⟩ | refine ⟨⟨_, rfl, Sub.view _ _ _ _⟩, ?_⟩))), ⟨0, rfl⟩, ?_⟩
      simp only
      omega
    · have hge : ¬ (k : Int) < (Lib.fields u).length := by omega
      obtain rfl : k = (Lib.fields u).length := by omega
      rw [List.drop_length] at hall
      simp only [allO, Option.some.injEq] at hall
      subst hall
      rw [List.append_nil] at hacc
      subst hacc
      unfold builtF at hbt
      cases hc : Lib.cut bt [32] with
      | mk cw q2 =>
      obtain ⟨cl, ok⟩ := q2
      rw [hc] at hbt g5 lc
      simp only at hbt g5 lc
      cases ok with
      | false =>
        simp only [Option.some.injEq, Prod.mk.injEq] at hbt
        obtain ⟨rfl, rfl⟩ := hbt
        repeat (first | refine wKB ?_ | refine awp_seq_k (fun K hK => ?_) | refine areg_text mixed tyok (by decide +kernel) ?_ | refine qal tyok (fun bx => ?_) | refine qbox (fun bx => ?_) | refine qboxV (fun bx => ?_) | refine TR.pcall rfl rfl rfl rfl True.intro rfl rfl (g5) ?_ | refine pco rfl rfl rfl rfl rfl rfl rfl rfl (fun _ => g5) ?_ | ((repeat ((fail_if_success (refine hK _ _ ?_)); clear hK)); refine hK _ _ ?_; clear hK))
        refine fnQ_ret 3 rfl (.cell rfl rfl (List.Mem.tail _ (List.Mem.tail _ (List.Mem.head _))) rfl trivial (.tmp rfl .nil)) ?_ ⟨rfl, rfl⟩
        rw [hP]
        exact Sub.tuple2 (subAgg (.cons (Sub.refl _) (.cons (Sub.refl _) (.cons (Sub.refl _) (.cons (Sub.view _ _ _ _) (.cons (Sub.refl _) (.cons (Sub.refl _) (.cons (Sub.nilsv _ _) .nil)))))))) (Sub.refl _)
      | true =>
        simp only at hbt
        cases hll : lettersF cl with
        | false => rw [hll] at hbt; cases hbt
        | true =>
        rw [hll] at hbt
        simp only [Option.some.injEq, Prod.mk.injEq] at hbt
        obtain ⟨rfl, rfl⟩ := hbt
        have gp2 := points_c cl 1 hll (by omega) (by decide) (by decide)
        repeat (first | refine wKB ?_ | refine awp_seq_k (fun K hK => ?_) | refine areg_text mixed tyok (by decide +kernel) ?_ | refine qal tyok (fun bx => ?_) | refine qbox (fun bx => ?_) | refine qboxV (fun bx => ?_) | refine TR.pcall rfl rfl rfl rfl True.intro rfl rfl (g5) ?_ | refine TR.pcall rfl rfl rfl rfl True.intro rfl rfl (gp2) ?_ | refine pco rfl rfl rfl rfl rfl rfl rfl rfl (fun _ => g5) ?_ | refine pco rfl rfl rfl rfl rfl rfl rfl rfl (fun _ => gp2) ?_ | ((repeat ((fail_if_success (refine hK _ _ ?_)); clear hK)); refine hK _ _ ?_; clear hK))
        refine fnQ_ret 3 rfl (.cell rfl rfl (List.Mem.tail _ (List.Mem.tail _ (List.Mem.head _))) rfl trivial (.tmp rfl .nil)) ?_ ⟨rfl, rfl⟩
        rw [hP]
        exact Sub.tuple2 (subAgg (.cons (Sub.refl _) (.cons (Sub.refl _) (.cons (Sub.refl _) (.cons (Sub.view _ _ _ _) (.cons (Sub.refl _) (.cons (Sub.refl _) (.cons (Sub.refl _) .nil)))))))) (Sub.refl _)

end Go.Proofs.YtjinaakebjfbiaaGreatDoor
