/-
  The document's answers for monomials: products and quotients are the program's.
-/
import Derived.Test.YtmjigepfjcokdaaRf2
namespace Go.Proofs.Ytmjigepfjcokdaa
open Go.Ab

theorem deg_range {m : List Pw} (h : may m = true) (v : Int) : 0 ≤ degF v m ∧ degF v m ≤ 10000 := by
  refine ⟨deg_nonneg (may_srt h) v, ?_⟩
  by_cases e : degF v m = 0
  · omega
  · exact (deg_bnd h e).2.2

theorem ofN_congr {f g : Nat → Int} {n : Nat} (h : ∀ v, 1 ≤ v → v ≤ n → f v = g v) : ofN f n = ofN g n := by
  induction n with
  | zero => rfl
  | succ n ih => rw [ofN_succ, ofN_succ, ih fun v h1 h2 => h v h1 (by omega), h (n + 1) (by omega) (by omega)]

theorem may_ofN {f : Nat → Int} (h : ∀ v, 1 ≤ v → v ≤ 200 → f v ≤ 10000) : may (ofN f 200) = true := by
  refine may_of (ofN_srt f 200) fun v hv => ?_
  obtain ⟨p, hp, e⟩ := deg_mem hv
  obtain ⟨u, h1, h2, rfl, h3⟩ := ofN_mem hp
  simp only at e
  subst e
  refine ⟨by omega, by omega, ?_⟩
  rw [deg_ofN, if_pos ⟨h1, h2, h3⟩]
  exact h u h1 h2

theorem deg_ofN_all {f : Nat → Int} {F : Int → Int} (h : ∀ v : Nat, 1 ≤ v → v ≤ 200 → 0 ≤ f v ∧ F v = f v) (h0 : ∀ v : Int, ¬ (1 ≤ v ∧ v ≤ 200) → F v = 0) (v : Int) : degF v (ofN f 200) = F v := by
  by_cases hv : 1 ≤ v ∧ v ≤ 200
  · obtain ⟨u, rfl⟩ : ∃ u : Nat, v = u := ⟨v.toNat, by omega⟩
    obtain ⟨h1, h2⟩ := h u (by omega) (by omega)
    rw [deg_ofN, h2]
    by_cases hp : 0 < f u
    · rw [if_pos ⟨by omega, by omega, hp⟩]
    · rw [if_neg (by omega)]; omega
  · rw [h0 v hv]
    exact Classical.byContradiction fun hne => by
      obtain ⟨p, hp, e⟩ := deg_mem hne
      obtain ⟨u, h1, h2, rfl, _⟩ := ofN_mem hp
      exact hv (by simp only at e; omega)

theorem deg_out {m : List Pw} (h : may m = true) {v : Int} (hv : ¬ (1 ≤ v ∧ v ≤ 200)) : degF v m = 0 :=
  Classical.byContradiction fun hne => hv ⟨(deg_bnd h hne).1, (deg_bnd h hne).2.1⟩

theorem timesF_ofN {a b : List Pw} (ha : may a = true) (hb : may b = true) (h : ∀ v : Nat, 1 ≤ v → v ≤ 200 → degF v a + degF v b ≤ 10000) : timesF a b = (ofN (fun v => degF v a + degF v b) 200, 0) := by
  refine timesF_of ha hb (may_ofN h) (deg_ofN_all (F := fun v => degF v a + degF v b) (fun v _ _ => ⟨?_, rfl⟩) fun v hv => ?_)
  · have := deg_range ha v
    have := deg_range hb v
    omega
  · simp only [deg_out ha hv, deg_out hb hv]
    rfl

theorem timesF_over {a b : List Pw} (ha : may a = true) (hb : may b = true) {v : Int} (h : degF v a + degF v b > 10000) : timesF a b = ([], 8) := by
  rcases timesF_cases ha hb with e | e
  · exact e
  · exfalso
    have hm : may (madeF gAdd (zipM a b)) = true := by
      rw [timesF, ha, hb] at e
      cases hh : may (madeF gAdd (zipM a b))
      · simp [hh] at e
      · rfl
    have h1 := (deg_range hm v).2
    rw [deg_add (may_srt ha) (may_srt hb)] at h1
    omega

theorem overF_ofN {a b : List Pw} (ha : may a = true) (hb : may b = true) (h : ∀ v : Nat, 1 ≤ v → v ≤ 200 → 0 ≤ degF v a - degF v b) : overF a b = (ofN (fun v => degF v a - degF v b) 200, 0) := by
  have hall : ∀ v, degF v b ≤ degF v a := fun v => by
    by_cases hv : 1 ≤ v ∧ v ≤ 200
    · obtain ⟨u, rfl⟩ : ∃ u : Nat, v = u := ⟨v.toNat, by omega⟩
      have := h u (by omega) (by omega)
      omega
    · rw [deg_out ha hv, deg_out hb hv]
      exact Int.le_refl _
  have hn := (none_false (may_srt ha) (may_srt hb)).2 hall
  have e : madeF gSub (zipM a b) = ofN (fun v => degF v a - degF v b) 200 := by
    refine srt_ext (made_srt' gSub (may_srt ha) (may_srt hb)) (ofN_srt _ _) fun v => ?_
    rw [deg_sub (may_srt ha) (may_srt hb), deg_ofN_all (F := fun v => degF v a - degF v b) (fun v h1 h2 => ⟨h v h1 h2, rfl⟩) fun v hv => by simp only [deg_out ha hv, deg_out hb hv]; rfl]
    have := hall v
    split <;> omega
  rw [overF, ha, hb, hn, e]
  rfl

theorem overF_none {a b : List Pw} (ha : may a = true) (hb : may b = true) {v : Int} (h : degF v a - degF v b < 0) : overF a b = ([], 5) := by
  have hn := (none_iff (may_srt ha) (may_srt hb)).2 ⟨v, by omega⟩
  rw [overF, ha, hb, hn]
  rfl

theorem expsc {m : List Pw} (hm : m.length ≤ 1000000) (h : may m = true) : PCalls Try.prog 33 [mono m] (vecI fun j => degF j m) := by
  have := exps_c m hm
  rwa [plain_may h] at this

theorem cbRTimes : Callable Try.prog 12 := fun _ _ => by kernel_rfl
set_option maxRecDepth 4000 in
theorem rtimes_c (a b : List Pw) (ha : a.length ≤ 400000) (hb : b.length ≤ 400000) : PCalls Try.prog 12 [mono a, mono b] (resE (timesF a b)) := by
  refine pcalls_of_awp tyok cbRTimes Try.func12 rfl rfl ?_
  cases hA : may a
  · have pa := rmayc (by omega) hA
    have e : timesF a b = ([], 2) := by simp [timesF, hA]
    repeat (first | refine awp_seq_k (fun K hK => ?_) | refine awp_region tyok ?_ | refine areg_text mixed tyok (by kernel_rfl) ?_ | refine awp_block ?_ | (((with_reducible refine tr_id ?_); first | refine qp ?_ | refine TR.nil ?_ | (refine tr_guarded rfl ?_; first | refine qon ?_ | refine qoff ?_ | refine qopt ?_ | refine qhopt ?_) | refine qld ?_ | refine qpick ?_ | refine qal tyok (fun bx => ?_) | refine qbox (fun bx => ?_) | refine qboxV (fun bx => ?_) | refine qstV tyok ?_ | refine qst tyok ?_ | refine qbs tyok ?_ | refine TR.pcall rfl rfl rfl rfl True.intro rfl rfl (pa) ?_ | refine TR.pcallopt rfl rfl rfl rfl rfl rfl (by (first | exact True.intro | exact ⟨id, True.intro⟩ | exact ⟨id, id, True.intro⟩ | exact ⟨id, id, id, True.intro⟩)) rfl rfl (fun _ => pa) ?_)) | refine awp_cond_true rfl ?_ | refine awp_cond_false rfl ?_ | refine awp_skip ?_ | refine awp_exit ?_ | refine awp_ret ?_ | refine awp_label ?_ | (with_reducible refine thenQ_normal ?_) | (with_reducible refine blockQ_normal ?_) | (with_reducible refine thenQ_exit ?_) | (with_reducible refine blockQ_hit ?_) | refine blockQ_miss rfl ?_ | (with_reducible refine thenQ_ret ?_) | (with_reducible refine blockQ_ret ?_) | (with_reducible refine thenQ_panic ?_) | (with_reducible refine blockQ_panic ?_) | ((repeat ((fail_if_success (refine hK _ _ ?_)); clear hK)); refine hK _ _ ?_; clear hK))
    rw [e]
    refine r2 ?_ ?_
    · exact Sub.nilsv _ _
    · exact Sub.refl _
  have pa := rmayc (by omega) hA
  cases hB : may b
  · have pb := rmayc (by omega) hB
    have e : timesF a b = ([], 2) := by simp [timesF, hB]
    repeat (first | refine awp_seq_k (fun K hK => ?_) | refine awp_region tyok ?_ | refine areg_text mixed tyok (by kernel_rfl) ?_ | refine awp_block ?_ | (((with_reducible refine tr_id ?_); first | refine qp ?_ | refine TR.nil ?_ | (refine tr_guarded rfl ?_; first | refine qon ?_ | refine qoff ?_ | refine qopt ?_ | refine qhopt ?_) | refine qld ?_ | refine qpick ?_ | refine qal tyok (fun bx => ?_) | refine qbox (fun bx => ?_) | refine qboxV (fun bx => ?_) | refine qstV tyok ?_ | refine qst tyok ?_ | refine qbs tyok ?_ | refine TR.pcall rfl rfl rfl rfl True.intro rfl rfl (pa) ?_ | refine TR.pcall rfl rfl rfl rfl True.intro rfl rfl (pb) ?_ | refine TR.pcallopt rfl rfl rfl rfl rfl rfl (by (first | exact True.intro | exact ⟨id, True.intro⟩ | exact ⟨id, id, True.intro⟩ | exact ⟨id, id, id, True.intro⟩)) rfl rfl (fun _ => pa) ?_ | refine TR.pcallopt rfl rfl rfl rfl rfl rfl (by (first | exact True.intro | exact ⟨id, True.intro⟩ | exact ⟨id, id, True.intro⟩ | exact ⟨id, id, id, True.intro⟩)) rfl rfl (fun _ => pb) ?_)) | refine awp_cond_true rfl ?_ | refine awp_cond_false rfl ?_ | refine awp_skip ?_ | refine awp_exit ?_ | refine awp_ret ?_ | refine awp_label ?_ | (with_reducible refine thenQ_normal ?_) | (with_reducible refine blockQ_normal ?_) | (with_reducible refine thenQ_exit ?_) | (with_reducible refine blockQ_hit ?_) | refine blockQ_miss rfl ?_ | (with_reducible refine thenQ_ret ?_) | (with_reducible refine blockQ_ret ?_) | (with_reducible refine thenQ_panic ?_) | (with_reducible refine blockQ_panic ?_) | ((repeat ((fail_if_success (refine hK _ _ ?_)); clear hK)); refine hK _ _ ?_; clear hK))
    rw [e]
    refine r2 ?_ ?_
    · exact Sub.nilsv _ _
    · exact Sub.refl _
  have pb := rmayc (by omega) hB
  have xa := expsc (by omega) hA
  have xb := expsc (by omega) hB
  have ra := deg_range hA
  have rb := deg_range hB
  ((repeat (first | refine awp_seq_k (fun K hK => ?_) | refine awp_region tyok ?_ | refine areg_text mixed tyok (by kernel_rfl) ?_ | refine awp_block ?_ | (((with_reducible refine tr_id ?_); first | refine qp ?_ | refine TR.nil ?_ | (refine tr_guarded rfl ?_; first | refine qon ?_ | refine qoff ?_ | refine qopt ?_ | refine qhopt ?_) | refine qld ?_ | refine qpick ?_ | refine qstV tyok ?_ | refine qst tyok ?_ | refine qbs tyok ?_ | refine TR.pcall rfl rfl rfl rfl True.intro rfl rfl (pa) ?_ | refine TR.pcall rfl rfl rfl rfl True.intro rfl rfl (pb) ?_ | refine TR.pcall rfl rfl rfl rfl True.intro rfl rfl (xa) ?_ | refine TR.pcall rfl rfl rfl rfl True.intro rfl rfl (xb) ?_ | refine TR.pcallopt rfl rfl rfl rfl rfl rfl (by (first | exact True.intro | exact ⟨id, True.intro⟩ | exact ⟨id, id, True.intro⟩ | exact ⟨id, id, id, True.intro⟩)) rfl rfl (fun _ => pa) ?_ | refine TR.pcallopt rfl rfl rfl rfl rfl rfl (by (first | exact True.intro | exact ⟨id, True.intro⟩ | exact ⟨id, id, True.intro⟩ | exact ⟨id, id, id, True.intro⟩)) rfl rfl (fun _ => pb) ?_ | refine TR.pcallopt rfl rfl rfl rfl rfl rfl (by (first | exact True.intro | exact ⟨id, True.intro⟩ | exact ⟨id, id, True.intro⟩ | exact ⟨id, id, id, True.intro⟩)) rfl rfl (fun _ => xa) ?_ | refine TR.pcallopt rfl rfl rfl rfl rfl rfl (by (first | exact True.intro | exact ⟨id, True.intro⟩ | exact ⟨id, id, True.intro⟩ | exact ⟨id, id, id, True.intro⟩)) rfl rfl (fun _ => xb) ?_)) | refine awp_cond_true rfl ?_ | refine awp_cond_false rfl ?_ | refine awp_skip ?_ | refine awp_exit ?_ | refine awp_ret ?_ | refine awp_label ?_ | (with_reducible refine thenQ_normal ?_) | (with_reducible refine blockQ_normal ?_) | (with_reducible refine thenQ_exit ?_) | (with_reducible refine blockQ_hit ?_) | refine blockQ_miss rfl ?_ | (with_reducible refine thenQ_ret ?_) | (with_reducible refine blockQ_ret ?_) | (with_reducible refine thenQ_panic ?_) | (with_reducible refine blockQ_panic ?_) | ((repeat ((fail_if_success (refine hK _ _ ?_)); clear hK)); refine hK _ _ ?_; clear hK))); ((first | refine qal tyok (fun b6 => ?_) | refine qbox (fun b6 => ?_) | refine qboxV (fun b6 => ?_))); (repeat (first | refine awp_seq_k (fun K hK => ?_) | refine awp_region tyok ?_ | refine areg_text mixed tyok (by kernel_rfl) ?_ | refine awp_block ?_ | (((with_reducible refine tr_id ?_); first | refine qp ?_ | refine TR.nil ?_ | (refine tr_guarded rfl ?_; first | refine qon ?_ | refine qoff ?_ | refine qopt ?_ | refine qhopt ?_) | refine qld ?_ | refine qpick ?_ | refine qstV tyok ?_ | refine qst tyok ?_ | refine qbs tyok ?_ | refine TR.pcall rfl rfl rfl rfl True.intro rfl rfl (pa) ?_ | refine TR.pcall rfl rfl rfl rfl True.intro rfl rfl (pb) ?_ | refine TR.pcall rfl rfl rfl rfl True.intro rfl rfl (xa) ?_ | refine TR.pcall rfl rfl rfl rfl True.intro rfl rfl (xb) ?_ | refine TR.pcallopt rfl rfl rfl rfl rfl rfl (by (first | exact True.intro | exact ⟨id, True.intro⟩ | exact ⟨id, id, True.intro⟩ | exact ⟨id, id, id, True.intro⟩)) rfl rfl (fun _ => pa) ?_ | refine TR.pcallopt rfl rfl rfl rfl rfl rfl (by (first | exact True.intro | exact ⟨id, True.intro⟩ | exact ⟨id, id, True.intro⟩ | exact ⟨id, id, id, True.intro⟩)) rfl rfl (fun _ => pb) ?_ | refine TR.pcallopt rfl rfl rfl rfl rfl rfl (by (first | exact True.intro | exact ⟨id, True.intro⟩ | exact ⟨id, id, True.intro⟩ | exact ⟨id, id, id, True.intro⟩)) rfl rfl (fun _ => xa) ?_ | refine TR.pcallopt rfl rfl rfl rfl rfl rfl (by (first | exact True.intro | exact ⟨id, True.intro⟩ | exact ⟨id, id, True.intro⟩ | exact ⟨id, id, id, True.intro⟩)) rfl rfl (fun _ => xb) ?_)) | refine awp_cond_true rfl ?_ | refine awp_cond_false rfl ?_ | refine awp_skip ?_ | refine awp_exit ?_ | refine awp_ret ?_ | refine awp_label ?_ | (with_reducible refine thenQ_normal ?_) | (with_reducible refine blockQ_normal ?_) | (with_reducible refine thenQ_exit ?_) | (with_reducible refine blockQ_hit ?_) | refine blockQ_miss rfl ?_ | (with_reducible refine thenQ_ret ?_) | (with_reducible refine blockQ_ret ?_) | (with_reducible refine thenQ_panic ?_) | (with_reducible refine blockQ_panic ?_) | ((repeat ((fail_if_success (refine hK _ _ ?_)); clear hK)); refine hK _ _ ?_; clear hK))); ((first | refine qal tyok (fun b7 => ?_) | refine qbox (fun b7 => ?_) | refine qboxV (fun b7 => ?_))); (repeat (first | refine awp_seq_k (fun K hK => ?_) | refine awp_region tyok ?_ | refine areg_text mixed tyok (by kernel_rfl) ?_ | refine awp_block ?_ | (((with_reducible refine tr_id ?_); first | refine qp ?_ | refine TR.nil ?_ | (refine tr_guarded rfl ?_; first | refine qon ?_ | refine qoff ?_ | refine qopt ?_ | refine qhopt ?_) | refine qld ?_ | refine qpick ?_ | refine qal tyok (fun bx => ?_) | refine qbox (fun bx => ?_) | refine qboxV (fun bx => ?_) | refine qstV tyok ?_ | refine qst tyok ?_ | refine qbs tyok ?_ | refine TR.pcall rfl rfl rfl rfl True.intro rfl rfl (pa) ?_ | refine TR.pcall rfl rfl rfl rfl True.intro rfl rfl (pb) ?_ | refine TR.pcall rfl rfl rfl rfl True.intro rfl rfl (xa) ?_ | refine TR.pcall rfl rfl rfl rfl True.intro rfl rfl (xb) ?_ | refine TR.pcallopt rfl rfl rfl rfl rfl rfl (by (first | exact True.intro | exact ⟨id, True.intro⟩ | exact ⟨id, id, True.intro⟩ | exact ⟨id, id, id, True.intro⟩)) rfl rfl (fun _ => pa) ?_ | refine TR.pcallopt rfl rfl rfl rfl rfl rfl (by (first | exact True.intro | exact ⟨id, True.intro⟩ | exact ⟨id, id, True.intro⟩ | exact ⟨id, id, id, True.intro⟩)) rfl rfl (fun _ => pb) ?_ | refine TR.pcallopt rfl rfl rfl rfl rfl rfl (by (first | exact True.intro | exact ⟨id, True.intro⟩ | exact ⟨id, id, True.intro⟩ | exact ⟨id, id, id, True.intro⟩)) rfl rfl (fun _ => xa) ?_ | refine TR.pcallopt rfl rfl rfl rfl rfl rfl (by (first | exact True.intro | exact ⟨id, True.intro⟩ | exact ⟨id, id, True.intro⟩ | exact ⟨id, id, id, True.intro⟩)) rfl rfl (fun _ => xb) ?_)) | refine awp_cond_true rfl ?_ | refine awp_cond_false rfl ?_ | refine awp_skip ?_ | refine awp_exit ?_ | refine awp_ret ?_ | refine awp_label ?_ | (with_reducible refine thenQ_normal ?_) | (with_reducible refine blockQ_normal ?_) | (with_reducible refine thenQ_exit ?_) | (with_reducible refine blockQ_hit ?_) | refine blockQ_miss rfl ?_ | (with_reducible refine thenQ_ret ?_) | (with_reducible refine blockQ_ret ?_) | (with_reducible refine thenQ_panic ?_) | (with_reducible refine blockQ_panic ?_) | ((repeat ((fail_if_success (refine hK _ _ ?_)); clear hK)); refine hK _ _ ?_; clear hK))))
  refine awp_loopK [6, 7] rfl (ι := { x : Nat × (Nat → Int) // x.1 ≤ 200 ∧ ∀ j : Nat, 1 ≤ j → (j ≤ x.1 → x.2 j = degF j a + degF j b ∧ x.2 j ≤ 10000) ∧ (x.1 < j → x.2 j = degF j a) })
    (fun x => [(8, .int .i64 ((x.1.1 : Int) + 1))]) (fun x => [.box b7 44 (vecI fun j => degF j b), .box b6 44 (vecI x.1.2)]) (fun x => 200 - x.1.1) ⟨(0, fun j => degF j a), Nat.zero_le _, fun j hj => ⟨fun h => absurd h (by simp only; omega), fun _ => rfl⟩⟩ ?_ ⟨0, rfl⟩ ?_
  · (repeat (first | exact True.intro | refine ⟨⟨_, rfl, Sub.refl _⟩, ?_⟩ | refine ⟨⟨_, rfl, Sub.nilso _ _⟩, ?_⟩ | refine ⟨⟨_, rfl, sl_tail _ _ _ _ _⟩, ?_⟩ | refine ⟨⟨_, rfl, Sub.of_eq (by first | rfl | simp | (congr 1; omega))⟩, ?_⟩ | refine ⟨⟨_, rfl, Sub.view _ _ _ _⟩, ?_⟩))
  rintro ⟨⟨k, g⟩, hk, hg⟩
  simp only at hk hg ⊢
  repeat (first | refine awp_seq_k (fun K hK => ?_) | refine awp_region tyok ?_ | refine areg_text mixed tyok (by kernel_rfl) ?_ | refine awp_block ?_ | (((with_reducible refine tr_id ?_); first | refine qp ?_ | refine TR.nil ?_ | (refine tr_guarded rfl ?_; first | refine qon ?_ | refine qoff ?_ | refine qopt ?_ | refine qhopt ?_) | refine qld ?_ | refine qpick ?_ | refine qal tyok (fun bx => ?_) | refine qbox (fun bx => ?_) | refine qboxV (fun bx => ?_) | refine qstV tyok ?_ | refine qst tyok ?_ | refine qbs tyok ?_)) | refine awp_cond_true rfl ?_ | refine awp_cond_false rfl ?_ | refine awp_skip ?_ | refine awp_exit ?_ | refine awp_ret ?_ | refine awp_label ?_ | (with_reducible refine thenQ_normal ?_) | (with_reducible refine blockQ_normal ?_) | (with_reducible refine thenQ_exit ?_) | (with_reducible refine blockQ_hit ?_) | refine blockQ_miss rfl ?_ | (with_reducible refine thenQ_ret ?_) | (with_reducible refine blockQ_ret ?_) | (with_reducible refine thenQ_panic ?_) | (with_reducible refine blockQ_panic ?_) | ((repeat ((fail_if_success (refine hK _ _ ?_)); clear hK)); refine hK _ _ ?_; clear hK))
  refine awp_cond rfl (fun hc => ?_) (fun hc => ?_)
  · have hlt : k < 200 := by simp at hc; omega
    have e1 : 0 + ((k : Int) + 1).toNat = k + 1 := by omega
    have h1 : g (0 + ((k : Int) + 1).toNat) = degF ((0 + ((k : Int) + 1).toNat : Nat) : Int) a := by rw [e1]; exact (hg (k + 1) (by omega)).2 (by omega)
    have h2 := ra ((0 + ((k : Int) + 1).toNat : Nat) : Int)
    have h3 := rb ((0 + ((k : Int) + 1).toNat : Nat) : Int)
    repeat (first | refine awp_seq_k (fun K hK => ?_) | refine awp_region tyok ?_ | refine areg_text mixed tyok (by kernel_rfl) ?_ | refine awp_block ?_ | (((with_reducible refine tr_id ?_); first | refine qp ?_ | refine TR.nil ?_ | (refine tr_guarded rfl ?_; first | refine qon ?_ | refine qoff ?_ | refine qopt ?_ | refine qhopt ?_) | refine qld ?_ | refine qpick ?_ | refine qal tyok (fun bx => ?_) | refine qbox (fun bx => ?_) | refine qboxV (fun bx => ?_) | refine qstV tyok ?_ | refine qst tyok ?_ | refine qbs tyok ?_)) | refine awp_cond_true rfl ?_ | refine awp_cond_false rfl ?_ | refine awp_skip ?_ | refine awp_exit ?_ | refine awp_ret ?_ | refine awp_label ?_ | (with_reducible refine thenQ_normal ?_) | (with_reducible refine blockQ_normal ?_) | (with_reducible refine thenQ_exit ?_) | (with_reducible refine blockQ_hit ?_) | refine blockQ_miss rfl ?_ | (with_reducible refine thenQ_ret ?_) | (with_reducible refine blockQ_ret ?_) | (with_reducible refine thenQ_panic ?_) | (with_reducible refine blockQ_panic ?_) | ((repeat ((fail_if_success (refine hK _ _ ?_)); clear hK)); refine hK _ _ ?_; clear hK))
    refine awp_cond rfl (fun hc => ?_) (fun hc => ?_)
    · simp only [if_pos, decide_eq_true_eq] at hc
      repeat (first | refine awp_seq_k (fun K hK => ?_) | refine awp_region tyok ?_ | refine areg_text mixed tyok (by kernel_rfl) ?_ | refine awp_block ?_ | (((with_reducible refine tr_id ?_); first | refine qp ?_ | refine TR.nil ?_ | (refine tr_guarded rfl ?_; first | refine qon ?_ | refine qoff ?_ | refine qopt ?_ | refine qhopt ?_) | refine qld ?_ | refine qpick ?_ | refine qal tyok (fun bx => ?_) | refine qbox (fun bx => ?_) | refine qboxV (fun bx => ?_) | refine qstV tyok ?_ | refine qst tyok ?_ | refine qbs tyok ?_)) | refine awp_cond_true rfl ?_ | refine awp_cond_false rfl ?_ | refine awp_skip ?_ | refine awp_exit ?_ | refine awp_ret ?_ | refine awp_label ?_ | (with_reducible refine thenQ_normal ?_) | (with_reducible refine blockQ_normal ?_) | (with_reducible refine thenQ_exit ?_) | (with_reducible refine blockQ_hit ?_) | refine blockQ_miss rfl ?_ | (with_reducible refine thenQ_ret ?_) | (with_reducible refine blockQ_ret ?_) | (with_reducible refine thenQ_panic ?_) | (with_reducible refine blockQ_panic ?_) | ((repeat ((fail_if_success (refine hK _ _ ?_)); clear hK)); refine hK _ _ ?_; clear hK))
      rw [timesF_over hA hB (v := ((0 + ((k : Int) + 1).toNat : Nat) : Int)) (by omega)]
      refine r2 ?_ ?_
      · exact Sub.nilsv _ _
      · exact Sub.refl _
    · simp only [if_pos, decide_eq_false_iff_not] at hc
      repeat (first | refine awp_seq_k (fun K hK => ?_) | refine awp_region tyok ?_ | refine areg_text mixed tyok (by kernel_rfl) ?_ | refine awp_block ?_ | (((with_reducible refine tr_id ?_); first | refine qp ?_ | refine TR.nil ?_ | (refine tr_guarded rfl ?_; first | refine qon ?_ | refine qoff ?_ | refine qopt ?_ | refine qhopt ?_) | refine qld ?_ | refine qpick ?_ | refine qal tyok (fun bx => ?_) | refine qbox (fun bx => ?_) | refine qboxV (fun bx => ?_) | refine qstV tyok ?_ | refine qst tyok ?_ | refine qbs tyok ?_)) | refine awp_cond_true rfl ?_ | refine awp_cond_false rfl ?_ | refine awp_skip ?_ | refine awp_exit ?_ | refine awp_ret ?_ | refine awp_label ?_ | (with_reducible refine thenQ_normal ?_) | (with_reducible refine blockQ_normal ?_) | (with_reducible refine thenQ_exit ?_) | (with_reducible refine blockQ_hit ?_) | refine blockQ_miss rfl ?_ | (with_reducible refine thenQ_ret ?_) | (with_reducible refine blockQ_ret ?_) | (with_reducible refine thenQ_panic ?_) | (with_reducible refine blockQ_panic ?_) | ((repeat ((fail_if_success (refine hK _ _ ?_)); clear hK)); refine hK _ _ ?_; clear hK))
      refine ⟨⟨(k + 1, fun j => if j = 0 + ((k : Int) + 1).toNat then g (0 + ((k : Int) + 1).toNat) + degF ((0 + ((k : Int) + 1).toNat : Nat) : Int) b else g j), hlt, fun j hj => ?_⟩, ?_, ⟨0, ?_⟩, ?_⟩
      · simp only
        by_cases e : j = 0 + ((k : Int) + 1).toNat
        · rw [if_pos e]
          subst e
          refine ⟨fun _ => ⟨by omega, by omega⟩, fun h => absurd h (by omega)⟩
        · rw [if_neg e]
          exact ⟨fun h => (hg j hj).1 (by omega), fun h => (hg j hj).2 (by omega)⟩
      · (repeat (first | exact True.intro | refine ⟨⟨_, rfl, Sub.refl _⟩, ?_⟩ | refine ⟨⟨_, rfl, Sub.nilso _ _⟩, ?_⟩ | refine ⟨⟨_, rfl, sl_tail _ _ _ _ _⟩, ?_⟩ | refine ⟨⟨_, rfl, Sub.of_eq (by first | rfl | simp | (congr 1; omega))⟩, ?_⟩ | refine ⟨⟨_, rfl, Sub.view _ _ _ _⟩, ?_⟩))
      · rfl
      · simp only; omega
  · have hge : k = 200 := by simp at hc; omega
    subst hge
    have oc := of_c g
    have e2 : ofN g 200 = ofN (fun v => degF v a + degF v b) 200 := ofN_congr fun v h1 h2 => ((hg v h1).1 h2).1
    rw [e2] at oc
    repeat (first | refine awp_seq_k (fun K hK => ?_) | refine awp_region tyok ?_ | refine areg_text mixed tyok (by kernel_rfl) ?_ | refine awp_block ?_ | (((with_reducible refine tr_id ?_); first | refine qp ?_ | refine TR.nil ?_ | (refine tr_guarded rfl ?_; first | refine qon ?_ | refine qoff ?_ | refine qopt ?_ | refine qhopt ?_) | refine qld ?_ | refine qpick ?_ | refine qal tyok (fun bx => ?_) | refine qbox (fun bx => ?_) | refine qboxV (fun bx => ?_) | refine qstV tyok ?_ | refine qst tyok ?_ | refine qbs tyok ?_ | refine TR.pcall rfl rfl rfl rfl True.intro rfl rfl (oc) ?_ | refine TR.pcallopt rfl rfl rfl rfl rfl rfl (by (first | exact True.intro | exact ⟨id, True.intro⟩ | exact ⟨id, id, True.intro⟩ | exact ⟨id, id, id, True.intro⟩)) rfl rfl (fun _ => oc) ?_)) | refine awp_cond_true rfl ?_ | refine awp_cond_false rfl ?_ | refine awp_skip ?_ | refine awp_exit ?_ | refine awp_ret ?_ | refine awp_label ?_ | (with_reducible refine thenQ_normal ?_) | (with_reducible refine blockQ_normal ?_) | (with_reducible refine thenQ_exit ?_) | (with_reducible refine blockQ_hit ?_) | refine blockQ_miss rfl ?_ | (with_reducible refine thenQ_ret ?_) | (with_reducible refine blockQ_ret ?_) | (with_reducible refine thenQ_panic ?_) | (with_reducible refine blockQ_panic ?_) | ((repeat ((fail_if_success (refine hK _ _ ?_)); clear hK)); refine hK _ _ ?_; clear hK))
    rw [timesF_ofN hA hB fun v h1 h2 => by have := (hg v h1).1 h2; omega]
    refine r2 ?_ ?_
    · exact Sub.refl _
    · exact Sub.refl _

end Go.Proofs.Ytmjigepfjcokdaa
