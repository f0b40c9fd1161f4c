/-
  The order of monomials and the laws that hold its calls against each other, in plain words.
-/
import Derived.Test.YtmjigepfjcokdaaLa1
namespace Go.Proofs.Ytmjigepfjcokdaa
open Go.Ab

def stepC (c : Int) (t : Tr) : Int := if t.2.1 = t.2.2 then c else cmpI t.2.1 t.2.2

theorem cmp_spec : ∀ (L : List Tr) (c : Int), L.Pairwise LtT → (L.foldl stepC c = c ∧ ∀ t ∈ L, t.2.1 = t.2.2) ∨
    ∃ t ∈ L, t.2.1 ≠ t.2.2 ∧ L.foldl stepC c = cmpI t.2.1 t.2.2 ∧ ∀ u ∈ L, t.1 < u.1 → u.2.1 = u.2.2
  | [], c, _ => .inl ⟨rfl, by simp⟩
  | s :: L, c, h => by
    obtain ⟨h1, h2⟩ := List.pairwise_cons.1 h
    rw [List.foldl_cons]
    rcases cmp_spec L (stepC c s) h2 with ⟨e, hall⟩ | ⟨t, ht, hne, e, hl⟩
    · by_cases hs : s.2.1 = s.2.2
      · left
        refine ⟨by rw [e, stepC, if_pos hs], fun t ht => ?_⟩
        rcases List.mem_cons.1 ht with rfl | ht
        · exact hs
        · exact hall t ht
      · right
        refine ⟨s, by simp, hs, by rw [e, stepC, if_neg hs], fun u hu hlt => ?_⟩
        rcases List.mem_cons.1 hu with rfl | hu
        · omega
        · exact hall u hu
    · right
      refine ⟨t, by simp [ht], hne, e, fun u hu hlt => ?_⟩
      rcases List.mem_cons.1 hu with rfl | hu
      · have : u.1 < t.1 := h1 t ht
        omega
      · exact hl u hu hlt

/-- c tells how f and g compare: at the greatest place where they differ. -/
def Cm (f g : Int → Int) (c : Int) : Prop := (c = 0 ∧ ∀ v, f v = g v) ∨ ∃ v, f v ≠ g v ∧ c = cmpI (f v) (g v) ∧ ∀ u, v < u → f u = g u

theorem cm_zip {a b : List Pw} (ha : a.Pairwise Lt2) (hb : b.Pairwise Lt2) : Cm (fun v => degF v a) (fun v => degF v b) (cmpF (zipM a b)) := by
  have hd := zip_deg a b ha hb
  have hz : ∀ v, (∀ t ∈ zipM a b, t.1 ≠ v) → degF v a = degF v b := fun v h => by
    have e1 : degF v a = 0 := Classical.byContradiction fun hne => by
      obtain ⟨t, ht, e⟩ := zip_all v a b (.inl (deg_mem hne))
      exact h t ht e
    have e2 : degF v b = 0 := Classical.byContradiction fun hne => by
      obtain ⟨t, ht, e⟩ := zip_all v a b (.inr (deg_mem hne))
      exact h t ht e
    rw [e1, e2]
  have key : ∀ v, (∀ t ∈ zipM a b, t.1 = v → t.2.1 = t.2.2) → degF v a = degF v b := fun v h => by
    by_cases hex : ∃ t ∈ zipM a b, t.1 = v
    · obtain ⟨t, ht, rfl⟩ := hex
      rw [← (hd t ht).1, ← (hd t ht).2]
      exact h t ht rfl
    · exact hz v fun t ht e => hex ⟨t, ht, e⟩
  rcases cmp_spec (zipM a b) 0 (zip_pw a b ha hb) with ⟨e, hall⟩ | ⟨t, ht, hne, e, hl⟩
  · exact .inl ⟨e, fun v => key v fun t ht _ => hall t ht⟩
  · refine .inr ⟨t.1, ?_, ?_, fun u hu => key u fun s hs es => hl s hs (by omega)⟩
    · show degF t.1 a ≠ degF t.1 b
      rw [← (hd t ht).1, ← (hd t ht).2]
      exact hne
    · show _ = cmpI (degF t.1 a) (degF t.1 b)
      rw [← (hd t ht).1, ← (hd t ht).2]
      exact e

theorem cmpI_cases (x y : Int) : (x < y ∧ cmpI x y = -1) ∨ (y < x ∧ cmpI x y = 1) ∨ (x = y ∧ cmpI x y = 0) := by
  unfold cmpI
  by_cases h1 : x < y
  · exact .inl ⟨h1, if_pos h1⟩
  · by_cases h2 : x > y
    · exact .inr (.inl ⟨h2, by rw [if_neg h1, if_pos h2]⟩)
    · exact .inr (.inr ⟨by omega, by rw [if_neg h1, if_neg h2]⟩)

/-- Less, the same, or greater. -/
inductive Tri (f g : Int → Int) : Int → Prop
  | lt (v : Int) (h : f v < g v) (hu : ∀ u, v < u → f u = g u) : Tri f g (-1)
  | eq (h : ∀ v, f v = g v) : Tri f g 0
  | gt (v : Int) (h : g v < f v) (hu : ∀ u, v < u → f u = g u) : Tri f g 1

theorem Cm.tri {f g : Int → Int} {c : Int} (h : Cm f g c) : Tri f g c := by
  rcases h with ⟨rfl, h⟩ | ⟨v, hne, rfl, hu⟩
  · exact .eq h
  · rcases cmpI_cases (f v) (g v) with ⟨h, e⟩ | ⟨h, e⟩ | ⟨h, e⟩
    · rw [e]; exact .lt v h hu
    · rw [e]; exact .gt v h hu
    · exact absurd h hne

theorem Tri.unique {f g : Int → Int} {c c' : Int} (h : Tri f g c) (k : Tri f g c') : c = c' := by
  cases h with
  | lt v h hu =>
    cases k with
    | lt => rfl
    | eq k => have := k v; omega
    | gt w k ku =>
      rcases (by omega : v < w ∨ w < v ∨ v = w) with e | e | e
      · have := hu w e; omega
      · have := ku v e; omega
      · subst e; omega
  | eq h =>
    cases k with
    | lt w k => have := h w; omega
    | eq => rfl
    | gt w k => have := h w; omega
  | gt v h hu =>
    cases k with
    | gt => rfl
    | eq k => have := k v; omega
    | lt w k ku =>
      rcases (by omega : v < w ∨ w < v ∨ v = w) with e | e | e
      · have := hu w e; omega
      · have := ku v e; omega
      · subst e; omega

theorem Tri.symm {f g : Int → Int} {c : Int} (h : Tri f g c) : Tri g f (-c) := by
  cases h with
  | lt v h hu => exact .gt v h fun u x => (hu u x).symm
  | eq h => exact .eq fun v => (h v).symm
  | gt v h hu => exact .lt v h fun u x => (hu u x).symm

theorem Tri.add {f g f' g' : Int → Int} {c : Int} (h : Tri f g c) (e : ∀ v, f' v - g' v = f v - g v) : Tri f' g' c := by
  cases h with
  | lt v h hu => exact .lt v (by have := e v; omega) fun u x => by have := e u; have := hu u x; omega
  | eq h => exact .eq fun v => by have := e v; have := h v; omega
  | gt v h hu => exact .gt v (by have := e v; omega) fun u x => by have := e u; have := hu u x; omega

theorem Tri.le {f g h : Int → Int} {x z w : Int} (hx : Tri f g x) (hz : Tri g h z) (hw : Tri f h w) (x0 : x ≤ 0) (z0 : z ≤ 0) : w ≤ 0 := by
  have key : Tri f h (-1) ∨ Tri f h 0 := by
    cases hx with
    | gt => omega
    | eq e =>
      have : f = g := funext e
      subst this
      cases hz with
      | gt => omega
      | eq e => exact .inr (.eq e)
      | lt v h hu => exact .inl (.lt v h hu)
    | lt v h1 hu =>
      cases hz with
      | gt => omega
      | eq e =>
        have : g = h := funext e
        subst this
        exact .inl (.lt v h1 hu)
      | lt v' h2 hu' =>
        left
        rcases (by omega : v < v' ∨ v' < v ∨ v = v') with e | e | e
        · exact .lt v' (by have := hu v' e; omega) fun u x => by have := hu u (by omega); have := hu' u x; omega
        · exact .lt v (by have := hu' v e; omega) fun u x => by have := hu u x; have := hu' u (by omega); omega
        · subst e
          exact .lt v (by omega) fun u x => by have := hu u x; have := hu' u x; omega
  rcases key with k | k <;> have := hw.unique k <;> omega

theorem Tri.ge {f g h : Int → Int} {x z w : Int} (hx : Tri f g x) (hz : Tri g h z) (hw : Tri f h w) (x0 : 0 ≤ x) (z0 : 0 ≤ z) : 0 ≤ w := by
  have := Tri.le hz.symm hx.symm hw.symm (by omega) (by omega)
  omega

theorem Tri.cases {f g : Int → Int} {c : Int} (h : Tri f g c) : c = -1 ∨ c = 0 ∨ c = 1 := by
  cases h <;> simp

theorem may_srt {m : List Pw} (h : may m = true) : Srt m := by
  obtain ⟨h1, h2⟩ := (may_iff m 0).1 h
  exact ⟨h2, fun p hp => by have := h1 p hp; omega⟩

theorem deg_nonneg {m : List Pw} (h : Srt m) (v : Int) : 0 ≤ degF v m := by
  by_cases hz : degF v m = 0
  · omega
  · have : ∀ (m : List Pw), (∀ p ∈ m, 0 < p.2) → 0 ≤ degF v m := by
      intro m
      induction m with
      | nil => intro _; simp [degF]
      | cons p m ih =>
        intro hp
        by_cases e : p.1 = v
        · rw [deg_head _ _ _ e]
          have := hp p (by simp)
          omega
        · rw [deg_tail _ _ _ e]
          exact ih fun q hq => hp q (by simp [hq])
    exact this m h.2

theorem compare_tri {a b : List Pw} (ha : may a = true) (hb : may b = true) : ∃ c, compareF a b = (c, 0) ∧ Tri (fun v => degF v a) (fun v => degF v b) c := by
  refine ⟨cmpF (zipM a b), ?_, (cm_zip (may_srt ha).1 (may_srt hb).1).tri⟩
  rw [compareF, ha, hb]
  rfl

theorem tri_zero {a b : List Pw} (ha : may a = true) (hb : may b = true) {c : Int} (h : Tri (fun v => degF v a) (fun v => degF v b) c) : c = 0 ↔ a = b := by
  constructor
  · rintro rfl
    have key : ∀ {c}, Tri (fun v => degF v a) (fun v => degF v b) c → c = 0 → ∀ v, degF v a = degF v b := by
      intro c h e
      cases h with
      | lt => omega
      | gt => omega
      | eq h => exact h
    exact srt_ext (may_srt ha) (may_srt hb) (key h rfl)
  · rintro rfl
    exact h.unique (.eq fun _ => rfl)

theorem gAdd0 (v : Int) : gAdd (v, 0, 0) = 0 := rfl
theorem gSub0 (v : Int) : gSub (v, 0, 0) = 0 := rfl
theorem gMin0 (v : Int) : gMin (v, 0, 0) = 0 := rfl
theorem gMax0 (v : Int) : gMax (v, 0, 0) = 0 := rfl

theorem deg_add {a b : List Pw} (ha : Srt a) (hb : Srt b) (v : Int) : degF v (madeF gAdd (zipM a b)) = degF v a + degF v b := by
  rw [deg_zip gAdd0 ha.1 hb.1]
  have h1 := deg_nonneg ha v
  have h2 := deg_nonneg hb v
  have e : gAdd (v, degF v a, degF v b) = degF v a + degF v b := rfl
  rw [e]
  by_cases h : 0 < degF v a + degF v b
  · rw [if_pos h]
  · rw [if_neg h]; omega

theorem made_srt' (g : Tr → Int) {a b : List Pw} (ha : Srt a) (hb : Srt b) : Srt (madeF g (zipM a b)) := made_srt g _ (zip_pw a b ha.1 hb.1)

/-- What the law of the order says. -/
theorem total_law {a b c : List Pw} (ha : may a = true) (hb : may b = true) (hc : may c = true) : ∃ x z w o : Int,
    compareF a b = (x, 0) ∧ compareF b a = (-x, 0) ∧ compareF b c = (z, 0) ∧ compareF a c = (w, 0) ∧ compareF a [] = (o, 0) ∧ (x = 0 ↔ a = b) ∧ (x ≤ 0 → z ≤ 0 → w ≤ 0) ∧ (0 ≤ x → 0 ≤ z → 0 ≤ w) ∧
    0 ≤ o ∧ (o = 0 ↔ a = []) ∧ (x = -1 ∨ x = 0 ∨ x = 1) ∧
    ∀ p q, timesF a c = (p, 0) → timesF b c = (q, 0) → compareF p q = (x, 0) := by
  obtain ⟨x, e1, h1⟩ := compare_tri ha hb
  obtain ⟨y, e2, h2⟩ := compare_tri hb ha
  obtain ⟨z, e3, h3⟩ := compare_tri hb hc
  obtain ⟨w, e4, h4⟩ := compare_tri ha hc
  have hn : may [] = true := rfl
  obtain ⟨o, e5, h5⟩ := compare_tri ha hn
  have hy : y = -x := h2.unique h1.symm
  subst hy
  refine ⟨x, z, w, o, e1, e2, e3, e4, e5, tri_zero ha hb h1, Tri.le h1 h3 h4, Tri.ge h1 h3 h4, ?_, tri_zero ha hn h5, h1.cases, ?_⟩
  · have key : ∀ {c}, Tri (fun v => degF v a) (fun v => degF v []) c → 0 ≤ c := by
      intro c h
      cases h with
      | lt v h =>
        have := deg_nonneg (may_srt ha) v
        have e : degF v [] = 0 := rfl
        simp only [e] at h
        omega
      | gt => omega
      | eq => omega
    exact key h5
  · intro p q hp hq
    have hpq : ∀ {a p : List Pw}, may a = true → timesF a c = (p, 0) → may p = true ∧ ∀ v, degF v p = degF v a + degF v c := by
      intro a p ha hp
      rw [timesF, ha, hc] at hp
      simp only [Bool.and_self, if_true] at hp
      split at hp
      · rename_i hm
        cases hp
        exact ⟨hm, deg_add (may_srt ha) (may_srt hc)⟩
      · cases hp
    obtain ⟨mp, dp⟩ := hpq ha hp
    obtain ⟨mq, dq⟩ := hpq hb hq
    obtain ⟨v, ev, hv⟩ := compare_tri mp mq
    rw [ev]
    have : Tri (fun v => degF v p) (fun v => degF v q) x := h1.add fun v => by simp only [dp, dq]; omega
    rw [hv.unique this]

end Go.Proofs.Ytmjigepfjcokdaa
