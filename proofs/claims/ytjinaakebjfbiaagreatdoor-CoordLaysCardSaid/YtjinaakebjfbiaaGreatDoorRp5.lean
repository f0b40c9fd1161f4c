/-
  The document's parser: a script's statements.
-/
import Derived.Test.YtjinaakebjfbiaaGreatDoorRp3
import Derived.Test.YtjinaakebjfbiaaGreatDoorRx2
namespace Go.Proofs.YtjinaakebjfbiaaGreatDoor
open Go.Ab

theorem cbRpa : Callable Tryz.prog 45 := fun _ _ => by kernel_rfl
set_option maxHeartbeats 6400000 in
set_option maxRecDepth 100000 in
theorem rparse_c (s : List UInt8) (hs : s.length ≤ 1000000) : PCalls Tryz.prog 45 [.str s] (parseR s) := by
  refine pcalls_of_awp tyok cbRpa Tryz.func45 rfl rfl ?_
  have g := rlines_c s (by omega)
  by_cases hl : s.length > 65536 ∨ ∃ p, linesF s = .inl p
  · obtain ⟨l, c, e, h1, h2⟩ : ∃ l c e : Int, linesR s = .tuple [linesV [], placeV l c, .int .i64 e] ∧ e ≠ 0 := by
      by_cases h : s.length > 65536
      · exact ⟨0, 0, 3, by unfold linesR; rw [if_pos h], by decide⟩
      · obtain ⟨p, hp⟩ := hl.resolve_left h
        exact ⟨p.1, p.2, 4, linesR_inl h hp, by decide⟩
    rw [h1] at g
    rw [parseR_err h1 h2]
    repeat (first | refine wKB ?_ | refine awp_seq_k (fun K hK => ?_) | refine qal tyok (fun bx => ?_) | refine qbox (fun bx => ?_) | refine qboxV (fun bx => ?_) | refine TR.pcall rfl rfl rfl rfl True.intro rfl rfl (g) ?_ | refine pco rfl rfl rfl rfl rfl rfl rfl rfl (fun _ => g) ?_ | ((repeat ((fail_if_success (refine hK _ _ ?_)); clear hK)); refine hK _ _ ?_; clear hK))
    refine areg_kept mixed tyok [(2, [])] [0, 1, 2, 3, 4] (by decide +kernel) ?_
    repeat (first | refine wK ?_ | refine awp_seq_k (fun K hK => ?_) | refine areg_text mixed tyok (by decide +kernel) ?_ | refine qal tyok (fun bx => ?_) | refine qbox (fun bx => ?_) | refine qboxV (fun bx => ?_) | ((repeat ((fail_if_success (refine hK _ _ ?_)); clear hK)); refine hK _ _ ?_; clear hK))
    refine fnQ_ret 2 rfl (.tmp rfl (.cell rfl rfl (List.Mem.tail _ (List.Mem.head _)) rfl trivial (.tmp rfl .nil))) ?_ ⟨rfl, rfl⟩
    exact (Sub.of_eq (rfl : _ = AV.tuple [.nils, placeV l c, .int .i64 e])).trans (Sub.tuple3 (Sub.nilsv _ _) (Sub.refl _) (Sub.refl _))
  · have hlong : ¬ s.length > 65536 := fun h => hl (.inl h)
    obtain ⟨r, hr⟩ : ∃ r, linesF s = .inr r := by
      cases h : linesF s with
      | inl p => exact absurd (.inr ⟨p, h⟩) hl
      | inr r => exact ⟨r, rfl⟩
    rw [linesR_inr hlong hr] at g
    have hrl := lines_count hr
    ((repeat (first | refine wKB ?_ | refine awp_seq_k (fun K hK => ?_) | refine areg_text mixed tyok (by decide +kernel) ?_ | refine TR.pcall rfl rfl rfl rfl True.intro rfl rfl (g) ?_ | refine pco rfl rfl rfl rfl rfl rfl rfl rfl (fun _ => g) ?_ | ((repeat ((fail_if_success (refine hK _ _ ?_)); clear hK)); refine hK _ _ ?_; clear hK))); ((first | refine qal tyok (fun b3 => ?_) | refine qbox (fun b3 => ?_) | refine qboxV (fun b3 => ?_))); (repeat (first | refine wKB ?_ | refine awp_seq_k (fun K hK => ?_) | refine areg_text mixed tyok (by decide +kernel) ?_ | refine TR.pcall rfl rfl rfl rfl True.intro rfl rfl (g) ?_ | refine pco rfl rfl rfl rfl rfl rfl rfl rfl (fun _ => g) ?_ | ((repeat ((fail_if_success (refine hK _ _ ?_)); clear hK)); refine hK _ _ ?_; clear hK))); ((first | refine qal tyok (fun b6 => ?_) | refine qbox (fun b6 => ?_) | refine qboxV (fun b6 => ?_))); (repeat (first | refine wKB ?_ | refine awp_seq_k (fun K hK => ?_) | refine areg_text mixed tyok (by decide +kernel) ?_ | refine qal tyok (fun bx => ?_) | refine qbox (fun bx => ?_) | refine qboxV (fun bx => ?_) | refine TR.pcall rfl rfl rfl rfl True.intro rfl rfl (g) ?_ | refine pco rfl rfl rfl rfl rfl rfl rfl rfl (fun _ => g) ?_ | ((repeat ((fail_if_success (refine hK _ _ ?_)); clear hK)); refine hK _ _ ?_; clear hK))))
    refine awp_tok0 16 47 ?_
    refine awp_loop0 (ι := { x : Nat × List StR × Option Addr × Nat // x.1 ≤ r.length ∧ x.2.1.length = x.1 ∧ preS x.2.1 (parseG (r.drop x.1)) = parseG r })
      (fun i => [(8, sl stmtE 16 i.1.2.1 (.own i.1.2.2.1 i.1.2.2.2)), (9, .int .i64 i.1.1), (5, linesV r), (3, .ptr b3 0)])
      (fun i => [.tok i.1.2.2.1 i.1.2.2.2 i.1.2.1.length 16 47, .box b6 39 (placeV 0 0), .box b3 39 (placeV 0 0)])
      (fun i => r.length - i.1.1) ⟨(0, [], none, 0), Nat.zero_le _, rfl, preS_nil _⟩ (by (repeat (first | exact True.intro | refine ⟨⟨_, rfl, Sub.refl _⟩, ?_⟩ | refine ⟨⟨_, rfl, Sub.nilso _ _⟩, ?_⟩ | refine ⟨⟨_, rfl, sl_tail _ _ _ _ _⟩, ?_⟩ | refine ⟨⟨_, rfl, Sub.of_eq (by first | rfl | (congr 1; first | omega | (simp only; omega)) | (simp; done) | (simp; omega))⟩, ?_⟩ | refine ⟨⟨_, rfl, Sub.view _ _ _ _⟩, ?_⟩))) ⟨0, rfl⟩ ?_
    rintro ⟨⟨k, outs, a, cap⟩, hk, hol, hpre⟩
    simp only at hk hol hpre
    by_cases hkl : k < r.length
    · have hd : r.drop k = r[k] :: r.drop (k + 1) := List.drop_eq_getElem_cons hkl
      obtain ⟨hne, hll, hcol⟩ := line_bound hr (List.getElem_mem hkl)
      have hkin := line_kind hr (List.getElem_mem hkl)
      obtain ⟨t0, r0, hrk⟩ : ∃ t0 r0, r[k] = t0 :: r0 := by
        cases h : r[k] with
        | nil => exact absurd h hne
        | cons t0 r0 => exact ⟨t0, r0, rfl⟩
      rw [hrk] at hd hne hll hcol hkin
      rw [hd] at hpre
      have hget : r.getD k default = t0 :: r0 := by
        rw [List.getD_eq_getElem?_getD, List.getElem?_eq_getElem hkl, hrk]
        rfl
      have hcol2 : ∀ t ∈ t0 :: r0, t.co + t.w.length ≤ 1000000000000 := fun t ht => by
        have := hcol t ht
        omega
      have hst := rstmt_c t0 r0 (by omega) hcol2
      have hboth := stmt_both (t0 :: r0) hne hkin
      repeat (first | refine wKB ?_ | refine awp_seq_k (fun K hK => ?_) | refine areg_text mixed tyok (by decide +kernel) ?_ | refine qal tyok (fun bx => ?_) | refine qbox (fun bx => ?_) | refine qboxV (fun bx => ?_) | ((repeat ((fail_if_success (refine hK _ _ ?_)); clear hK)); refine hK _ _ ?_; clear hK))
      cases hF : stmtI (t0 :: r0) with
      | inl i =>
        rw [hF] at hboth
        have hpl := place_c (t0 :: r0) i hne hcol2 (by omega)
        have hpG : parseG r = .inl (placeI (t0 :: r0) i) := by
          rw [← hpre]
          simp [parseG, hboth, toP, preS]
        have hpR : parseR s = .tuple [stmtsV [], placeV (placeI (t0 :: r0) i).1 (placeI (t0 :: r0) i).2, .int .i64 4] := by
          unfold parseR parseF
          rw [if_neg hlong, hr]
          simp only [hpG]
        rw [hF, ← hget] at hst
        rw [← hget] at hpl hpR
        refine TR.hcall (Hc := []) rfl rfl rfl True.intro rfl rfl (List.Perm.refl _) hst (fun v H' hK => ?_) (fun v H' hK => ?_)
        rotate_left
        · obtain ⟨⟨s', e⟩, _⟩ := hK
          cases e
        obtain ⟨⟨s', e⟩, rfl⟩ := hK
        cases e
        ((repeat (first | refine wKB ?_ | refine awp_seq_k (fun K hK => ?_) | refine areg_text mixed tyok (by decide +kernel) ?_ | refine TR.pcall rfl rfl rfl rfl True.intro rfl rfl (hpl) ?_ | refine pco rfl rfl rfl rfl rfl rfl rfl rfl (fun _ => hpl) ?_ | ((repeat ((fail_if_success (refine hK _ _ ?_)); clear hK)); refine hK _ _ ?_; clear hK))); ((first | refine qal tyok (fun b10 => ?_) | refine qbox (fun b10 => ?_) | refine qboxV (fun b10 => ?_))); (repeat (first | refine wKB ?_ | refine awp_seq_k (fun K hK => ?_) | refine areg_text mixed tyok (by decide +kernel) ?_ | refine qal tyok (fun bx => ?_) | refine qbox (fun bx => ?_) | refine qboxV (fun bx => ?_) | refine TR.pcall rfl rfl rfl rfl True.intro rfl rfl (hpl) ?_ | refine pco rfl rfl rfl rfl rfl rfl rfl rfl (fun _ => hpl) ?_ | ((repeat ((fail_if_success (refine hK _ _ ?_)); clear hK)); refine hK _ _ ?_; clear hK))))
        refine fnQ_ret 4 rfl (.tmp rfl (.cell rfl rfl (List.Mem.tail _ (List.Mem.tail _ (List.Mem.tail _ (List.Mem.head _)))) rfl trivial (.tmp rfl .nil))) ?_ ⟨rfl, rfl⟩
        rw [hpR]
        exact (Sub.of_eq (rfl : _ = AV.tuple [.nils, placeV (placeI (r.getD k default) i).1 (placeI (r.getD k default) i).2, .int .i64 4])).trans (Sub.tuple3 (Sub.nilsv _ _) (Sub.refl _) (Sub.refl _))
      | inr st =>
        rw [hF] at hboth
        rw [hF, ← hget] at hst
        refine TR.hcall (Hc := []) rfl rfl rfl True.intro rfl rfl (List.Perm.refl _) hst (fun v H' hK => ?_) (fun v H' hK => ?_)
        rotate_left
        · obtain ⟨e, _⟩ := hK
          cases e
        obtain ⟨e, rfl⟩ := hK
        cases e
        ((repeat (first | refine wKB ?_ | refine awp_seq_k (fun K hK => ?_) | refine areg_text mixed tyok (by decide +kernel) ?_ | ((repeat ((fail_if_success (refine hK _ _ ?_)); clear hK)); refine hK _ _ ?_; clear hK))); ((first | refine qal tyok (fun b10 => ?_) | refine qbox (fun b10 => ?_) | refine qboxV (fun b10 => ?_))); (repeat (first | refine wKB ?_ | refine awp_seq_k (fun K hK => ?_) | refine areg_text mixed tyok (by decide +kernel) ?_ | refine qal tyok (fun bx => ?_) | refine qbox (fun bx => ?_) | refine qboxV (fun bx => ?_) | ((repeat ((fail_if_success (refine hK _ _ ?_)); clear hK)); refine hK _ _ ?_; clear hK))))
        refine qapp tyok stmtE outs st (SubL.refl _) ?_ fun ad cp => ?_
        · simp only
          omega
        repeat (first | refine wK ?_ | refine awp_seq_k (fun K hK => ?_) | refine areg_text mixed tyok (by decide +kernel) ?_ | refine qal tyok (fun bx => ?_) | refine qbox (fun bx => ?_) | refine qboxV (fun bx => ?_) | ((repeat ((fail_if_success (refine hK _ _ ?_)); clear hK)); refine hK _ _ ?_; clear hK))
        refine ⟨⟨(k + 1, outs ++ [st], ad, cp), by simp only; omega, by simp [hol], by rw [← hpre]; exact (parseG_step hboth).symm⟩, ⟨⟨_, rfl, Sub.refl _⟩, ⟨_, rfl, Sub.refl _⟩, ⟨_, rfl, Sub.refl _⟩, ⟨_, rfl, Sub.refl _⟩, trivial⟩, ⟨1, rfl⟩, by simp only; omega⟩
    · have hke : k = r.length := by omega
      subst hke
      rw [List.drop_length] at hpre
      simp only [parseG, preS, List.append_nil] at hpre
      have hpR : parseR s = .tuple [stmtsV outs, placeV 0 0, .int .i64 0] := by
        unfold parseR parseF
        rw [if_neg hlong, hr]
        simp only [← hpre]
      repeat (first | refine wKB ?_ | refine awp_seq_k (fun K hK => ?_) | refine areg_text mixed tyok (by decide +kernel) ?_ | refine qal tyok (fun bx => ?_) | refine qbox (fun bx => ?_) | refine qboxV (fun bx => ?_) | ((repeat ((fail_if_success (refine hK _ _ ?_)); clear hK)); refine hK _ _ ?_; clear hK))
      refine fnQ_ret 3 rfl (.tmp rfl (.cell rfl rfl (List.Mem.tail _ (List.Mem.tail _ (List.Mem.head _))) rfl trivial (.tmp rfl .nil))) ?_ ⟨rfl, rfl⟩
      rw [hpR]
      exact (Sub.of_eq (rfl : _ = AV.tuple [sl stmtE 16 outs (.own a cap), placeV 0 0, .int .i64 0])).trans (Sub.tuple3 (Sub.view _ _ _ _) (Sub.refl _) (Sub.refl _))

end Go.Proofs.YtjinaakebjfbiaaGreatDoor
