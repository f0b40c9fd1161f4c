/-
  Products, quotients, what two have in common and what both divide, held against each other, in plain words.
-/
import Derived.Test.YtmjigepfjcokdaaLa2
namespace Go.Proofs.Ytmjigepfjcokdaa
open Go.Ab

theorem deg_of_mem : ∀ {m : List Pw} {p : Pw}, m.Pairwise Lt2 → p ∈ m → degF p.1 m = p.2
  | q :: m, p, h, hp => by
    obtain ⟨h1, h2⟩ := List.pairwise_cons.1 h
    rcases List.mem_cons.1 hp with rfl | hp
    · exact deg_head _ _ _ rfl
    · have : q.1 < p.1 := h1 p hp
      rw [deg_tail _ _ _ (by omega)]
      exact deg_of_mem h2 hp

theorem may_of {m : List Pw} (h : Srt m) (hb : ∀ v, degF v m ≠ 0 → 1 ≤ v ∧ v ≤ 200 ∧ degF v m ≤ 10000) : may m = true := by
  refine (may_iff m 0).2 ⟨fun p hp => ?_, h.1⟩
  have e := deg_of_mem h.1 hp
  have h1 := h.2 p hp
  have := hb p.1 (by omega)
  omega

theorem deg_bnd {m : List Pw} (h : may m = true) {v : Int} (hv : degF v m ≠ 0) : 1 ≤ v ∧ v ≤ 200 ∧ degF v m ≤ 10000 := by
  obtain ⟨p, hp, e⟩ := deg_mem hv
  subst e
  have := deg_of_mem (may_srt h).1 hp
  have := ((may_iff m 0).1 h).1 p hp
  omega

theorem plain_may {m : List Pw} (h : may m = true) : plainF m = m := if_pos h

theorem deg_min {a b : List Pw} (ha : Srt a) (hb : Srt b) (v : Int) : degF v (madeF gMin (zipM a b)) = min (degF v a) (degF v b) := by
  rw [deg_zip gMin0 ha.1 hb.1]
  have h1 := deg_nonneg ha v
  have h2 := deg_nonneg hb v
  have e : gMin (v, degF v a, degF v b) = min (degF v a) (degF v b) := rfl
  rw [e]
  by_cases h : 0 < min (degF v a) (degF v b)
  · rw [if_pos h]
  · rw [if_neg h]; omega

theorem deg_max {a b : List Pw} (ha : Srt a) (hb : Srt b) (v : Int) : degF v (madeF gMax (zipM a b)) = max (degF v a) (degF v b) := by
  rw [deg_zip gMax0 ha.1 hb.1]
  have h1 := deg_nonneg ha v
  have h2 := deg_nonneg hb v
  have e : gMax (v, degF v a, degF v b) = max (degF v a) (degF v b) := rfl
  rw [e]
  by_cases h : 0 < max (degF v a) (degF v b)
  · rw [if_pos h]
  · rw [if_neg h]; omega

theorem deg_sub {a b : List Pw} (ha : Srt a) (hb : Srt b) (v : Int) : degF v (madeF gSub (zipM a b)) = if degF v b < degF v a then degF v a - degF v b else 0 := by
  rw [deg_zip gSub0 ha.1 hb.1]
  have e : gSub (v, degF v a, degF v b) = degF v a - degF v b := rfl
  rw [e]
  by_cases h : degF v b < degF v a
  · rw [if_pos h, if_pos (by omega)]
  · rw [if_neg h, if_neg (by omega)]

theorem none_iff {a b : List Pw} (ha : Srt a) (hb : Srt b) : noneF (zipM a b) = true ↔ ∃ v, degF v a < degF v b := by
  unfold noneF
  rw [List.any_eq_true]
  constructor
  · rintro ⟨t, ht, h⟩
    obtain ⟨e1, e2⟩ := zip_deg a b ha.1 hb.1 t ht
    exact ⟨t.1, by rw [← e1, ← e2]; exact of_decide_eq_true h⟩
  · rintro ⟨v, hv⟩
    have h1 := deg_nonneg ha v
    obtain ⟨t, ht, rfl⟩ := zip_all v a b (.inr (deg_mem (by omega)))
    obtain ⟨e1, e2⟩ := zip_deg a b ha.1 hb.1 t ht
    exact ⟨t, ht, decide_eq_true (by rw [e1, e2]; exact hv)⟩

theorem none_false {a b : List Pw} (ha : Srt a) (hb : Srt b) : noneF (zipM a b) = false ↔ ∀ v, degF v b ≤ degF v a := by
  constructor
  · intro h v
    apply Classical.byContradiction
    intro hn
    have := (none_iff ha hb).2 ⟨v, by omega⟩
    rw [h] at this
    cases this
  · intro h
    cases hn : noneF (zipM a b) with
    | false => rfl
    | true =>
      obtain ⟨v, hv⟩ := (none_iff ha hb).1 hn
      have := h v
      omega

theorem timesF_of {a b m : List Pw} (ha : may a = true) (hb : may b = true) (hm : may m = true) (h : ∀ v, degF v m = degF v a + degF v b) : timesF a b = (m, 0) := by
  have e : madeF gAdd (zipM a b) = m := srt_ext (made_srt' gAdd (may_srt ha) (may_srt hb)) (may_srt hm) fun v => by rw [deg_add (may_srt ha) (may_srt hb), h]
  rw [timesF, ha, hb, e, hm]
  rfl

/-- What the law says of two that may be, where their product may be. -/
theorem back_law {a b p : List Pw} (ha : may a = true) (hb : may b = true) (hp : timesF a b = (p, 0)) :
    overF p b = (a, 0) ∧ timesF (madeF gMin (zipM a b)) (madeF gMax (zipM a b)) = (p, 0) ∧
      ((overF a b = ([], 5) ∧ madeF gMin (zipM a b) ≠ b) ∨ ∃ s, overF a b = (s, 0) ∧ timesF s b = (a, 0) ∧ madeF gMin (zipM a b) = b) := by
  have sa := may_srt ha
  have sb := may_srt hb
  obtain ⟨mp, dp⟩ : may p = true ∧ ∀ v, degF v p = degF v a + degF v b := by
    rw [timesF, ha, hb] at hp
    simp only [Bool.and_self, if_true] at hp
    split at hp
    · rename_i hm
      cases hp
      exact ⟨hm, deg_add sa sb⟩
    · cases hp
  have sp := may_srt mp
  have smin := made_srt' gMin sa sb
  have smax := made_srt' gMax sa sb
  have mmin : may (madeF gMin (zipM a b)) = true := may_of smin fun v hv => by
    rw [deg_min sa sb] at hv ⊢
    have h1 := deg_nonneg sa v
    have h2 := deg_nonneg sb v
    have := deg_bnd ha (v := v) (by omega)
    omega
  have mmax : may (madeF gMax (zipM a b)) = true := may_of smax fun v hv => by
    rw [deg_max sa sb] at hv ⊢
    have h1 := deg_nonneg sa v
    have h2 := deg_nonneg sb v
    by_cases h : degF v a = 0
    · have := deg_bnd hb (v := v) (by omega)
      omega
    · have := deg_bnd ha h
      by_cases h' : degF v b = 0
      · omega
      · have := deg_bnd hb h'
        omega
  refine ⟨?_, timesF_of mmin mmax mp fun v => by rw [dp, deg_min sa sb, deg_max sa sb]; omega, ?_⟩
  · have hn : noneF (zipM p b) = false := (none_false sp sb).2 fun v => by
      rw [dp]
      have := deg_nonneg sa v
      omega
    have e : madeF gSub (zipM p b) = a := srt_ext (made_srt' gSub sp sb) sa fun v => by
      rw [deg_sub sp sb, dp]
      have := deg_nonneg sa v
      split <;> omega
    rw [overF, mp, hb, hn, e]
    rfl
  · cases hn : noneF (zipM a b) with
    | true =>
      left
      refine ⟨by rw [overF, ha, hb, hn]; rfl, fun e => ?_⟩
      obtain ⟨v, hv⟩ := (none_iff sa sb).1 hn
      have := congrArg (degF v) e
      rw [deg_min sa sb] at this
      omega
    | false =>
      right
      have hle := (none_false sa sb).1 hn
      have ss := made_srt' gSub sa sb
      have ds : ∀ v, degF v (madeF gSub (zipM a b)) = degF v a - degF v b := fun v => by
        rw [deg_sub sa sb]
        have := hle v
        split <;> omega
      have ms : may (madeF gSub (zipM a b)) = true := may_of ss fun v hv => by
        rw [ds] at hv ⊢
        have h1 := deg_nonneg sa v
        have h2 := deg_nonneg sb v
        have := hle v
        have := deg_bnd ha (v := v) (by omega)
        omega
      refine ⟨madeF gSub (zipM a b), by rw [overF, ha, hb, hn]; rfl, timesF_of ms hb ha fun v => by rw [ds]; omega, srt_ext smin sb fun v => ?_⟩
      rw [deg_min sa sb]
      have := hle v
      omega

theorem timesF_cases {a b : List Pw} (ha : may a = true) (hb : may b = true) : timesF a b = ([], 8) ∨ timesF a b = (madeF gAdd (zipM a b), 0) := by
  rw [timesF, ha, hb]
  cases may (madeF gAdd (zipM a b))
  · exact .inl rfl
  · exact .inr rfl

end Go.Proofs.Ytmjigepfjcokdaa
