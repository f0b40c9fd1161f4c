/-
  Monomials as exponents of variables: in plain words, no program in sight.
-/
import Derived.Test.YtmjigepfjcokdaaMo9
namespace Go.Proofs.Ytmjigepfjcokdaa
open Go.Ab

def Lt2 (p q : Pw) : Prop := p.1 < q.1
def LtT (s t : Tr) : Prop := s.1 < t.1

theorem may_iff : ∀ (m : List Pw) (last : Int), mayF last m = true ↔ (∀ p ∈ m, last < p.1 ∧ p.1 ≤ 200 ∧ 1 ≤ p.2 ∧ p.2 ≤ 10000) ∧ m.Pairwise Lt2
  | [], _ => ⟨fun _ => ⟨by simp, .nil⟩, fun _ => rfl⟩
  | p :: m, last => by
    rw [may_cons, may_iff m p.1]
    constructor
    · rintro ⟨h1, h2, h3⟩
      refine ⟨fun q hq => ?_, List.pairwise_cons.2 ⟨fun q hq => (h2 q hq).1, h3⟩⟩
      rcases List.mem_cons.1 hq with rfl | hq
      · exact h1
      · have := h2 q hq; omega
    · rintro ⟨h1, h2⟩
      obtain ⟨h2, h3⟩ := List.pairwise_cons.1 h2
      refine ⟨h1 p (by simp), fun q hq => ?_, h3⟩
      have := h1 q (by simp [hq])
      have h4 : p.1 < q.1 := h2 q hq
      omega

theorem zip_lt (v : Int) (a b : List Pw) (ha : ∀ p ∈ a, v < p.1) (hb : ∀ p ∈ b, v < p.1) : ∀ t ∈ zipM a b, v < t.1 := by
  fun_induction zipM a b with
  | case1 => intro t ht; cases ht
  | case2 p a ih =>
    intro t ht
    rcases List.mem_cons.1 ht with rfl | ht
    · exact ha p (by simp)
    · exact ih (fun p hp => ha p (by simp [hp])) hb t ht
  | case3 q b ih =>
    intro t ht
    rcases List.mem_cons.1 ht with rfl | ht
    · exact hb q (by simp)
    · exact ih ha (fun p hp => hb p (by simp [hp])) t ht
  | case4 p a q b h ih =>
    intro t ht
    rcases List.mem_cons.1 ht with rfl | ht
    · exact ha p (by simp)
    · exact ih (fun p hp => ha p (by simp [hp])) hb t ht
  | case5 p a q b h h' ih =>
    intro t ht
    rcases List.mem_cons.1 ht with rfl | ht
    · exact hb q (by simp)
    · exact ih ha (fun p hp => hb p (by simp [hp])) t ht
  | case6 p a q b h h' ih =>
    intro t ht
    rcases List.mem_cons.1 ht with rfl | ht
    · exact ha p (by simp)
    · exact ih (fun p hp => ha p (by simp [hp])) (fun p hp => hb p (by simp [hp])) t ht

theorem zip_pw (a b : List Pw) (ha : a.Pairwise Lt2) (hb : b.Pairwise Lt2) : (zipM a b).Pairwise LtT := by
  fun_induction zipM a b with
  | case1 => exact .nil
  | case2 p a ih =>
    obtain ⟨h1, h2⟩ := List.pairwise_cons.1 ha
    exact .cons (fun t ht => zip_lt p.1 a [] h1 (by simp) t ht) (ih h2 hb)
  | case3 q b ih =>
    obtain ⟨h1, h2⟩ := List.pairwise_cons.1 hb
    exact .cons (fun t ht => zip_lt q.1 [] b (by simp) h1 t ht) (ih ha h2)
  | case4 p a q b h ih =>
    obtain ⟨h1, h2⟩ := List.pairwise_cons.1 ha
    obtain ⟨h3, _⟩ := List.pairwise_cons.1 hb
    refine .cons (fun t ht => zip_lt p.1 a (q :: b) h1 (fun r hr => ?_) t ht) (ih h2 hb)
    rcases List.mem_cons.1 hr with rfl | hr
    · exact h
    · exact Int.lt_trans h (h3 r hr)
  | case5 p a q b h h' ih =>
    obtain ⟨h1, h2⟩ := List.pairwise_cons.1 ha
    obtain ⟨h3, h4⟩ := List.pairwise_cons.1 hb
    refine .cons (fun t ht => zip_lt q.1 (p :: a) b (fun r hr => ?_) h3 t ht) (ih ha h4)
    rcases List.mem_cons.1 hr with rfl | hr
    · exact h'
    · exact Int.lt_trans h' (h1 r hr)
  | case6 p a q b h h' ih =>
    obtain ⟨h1, h2⟩ := List.pairwise_cons.1 ha
    obtain ⟨h3, h4⟩ := List.pairwise_cons.1 hb
    have e : p.1 = q.1 := by omega
    exact .cons (fun t ht => zip_lt p.1 a b h1 (fun r hr => by rw [e]; exact h3 r hr) t ht) (ih h2 h4)

theorem deg_head (v : Int) (p : Pw) (m : List Pw) (h : p.1 = v) : degF v (p :: m) = p.2 := by rw [degF, if_pos h]
theorem deg_tail (v : Int) (p : Pw) (m : List Pw) (h : p.1 ≠ v) : degF v (p :: m) = degF v m := by rw [degF, if_neg h]
theorem deg_low {v : Int} {m : List Pw} (h : ∀ p ∈ m, v < p.1) : degF v m = 0 := deg_none m fun p hp => by have := h p hp; omega

theorem zip_deg (a b : List Pw) (ha : a.Pairwise Lt2) (hb : b.Pairwise Lt2) : ∀ t ∈ zipM a b, t.2.1 = degF t.1 a ∧ t.2.2 = degF t.1 b := by
  fun_induction zipM a b with
  | case1 => intro t ht; cases ht
  | case2 p a ih =>
    intro t ht
    obtain ⟨h1, h2⟩ := List.pairwise_cons.1 ha
    rcases List.mem_cons.1 ht with rfl | ht
    · exact ⟨(deg_head p.1 p a rfl).symm, rfl⟩
    · have := zip_lt p.1 a [] h1 (by simp) t ht
      rw [deg_tail _ _ _ (by omega)]
      exact ih h2 hb t ht
  | case3 q b ih =>
    intro t ht
    obtain ⟨h1, h2⟩ := List.pairwise_cons.1 hb
    rcases List.mem_cons.1 ht with rfl | ht
    · exact ⟨rfl, (deg_head q.1 q b rfl).symm⟩
    · have := zip_lt q.1 [] b (by simp) h1 t ht
      rw [deg_tail _ q b (by omega)]
      exact ih ha h2 t ht
  | case4 p a q b h ih =>
    intro t ht
    obtain ⟨h1, h2⟩ := List.pairwise_cons.1 ha
    obtain ⟨h3, _⟩ := List.pairwise_cons.1 hb
    have hq : ∀ r ∈ q :: b, p.1 < r.1 := fun r hr => by
      rcases List.mem_cons.1 hr with rfl | hr
      · exact h
      · exact Int.lt_trans h (h3 r hr)
    rcases List.mem_cons.1 ht with rfl | ht
    · exact ⟨(deg_head p.1 p a rfl).symm, (deg_low hq).symm⟩
    · have := zip_lt p.1 a (q :: b) h1 hq t ht
      rw [deg_tail _ p a (by omega)]
      exact ih h2 hb t ht
  | case5 p a q b h h' ih =>
    intro t ht
    obtain ⟨h1, _⟩ := List.pairwise_cons.1 ha
    obtain ⟨h3, h4⟩ := List.pairwise_cons.1 hb
    have hq : ∀ r ∈ p :: a, q.1 < r.1 := fun r hr => by
      rcases List.mem_cons.1 hr with rfl | hr
      · exact h'
      · exact Int.lt_trans h' (h1 r hr)
    rcases List.mem_cons.1 ht with rfl | ht
    · exact ⟨(deg_low hq).symm, (deg_head q.1 q b rfl).symm⟩
    · have := zip_lt q.1 (p :: a) b hq h3 t ht
      rw [deg_tail _ q b (by omega)]
      exact ih ha h4 t ht
  | case6 p a q b h h' ih =>
    intro t ht
    obtain ⟨h1, h2⟩ := List.pairwise_cons.1 ha
    obtain ⟨h3, h4⟩ := List.pairwise_cons.1 hb
    have e : p.1 = q.1 := by omega
    rcases List.mem_cons.1 ht with rfl | ht
    · exact ⟨(deg_head p.1 p a rfl).symm, (deg_head p.1 q b e.symm).symm⟩
    · have := zip_lt p.1 a b h1 (fun r hr => by rw [e]; exact h3 r hr) t ht
      rw [deg_tail _ p a (by omega), deg_tail _ q b (by omega)]
      exact ih h2 h4 t ht

theorem zip_all (v : Int) (a b : List Pw) (h : (∃ p ∈ a, p.1 = v) ∨ ∃ p ∈ b, p.1 = v) : ∃ t ∈ zipM a b, t.1 = v := by
  fun_induction zipM a b with
  | case1 => simp at h
  | case2 p a ih =>
    rcases h with ⟨r, hr, e⟩ | ⟨r, hr, e⟩
    · rcases List.mem_cons.1 hr with rfl | hr
      · exact ⟨_, List.mem_cons_self .., e⟩
      · obtain ⟨t, ht, e⟩ := ih (.inl ⟨r, hr, e⟩)
        exact ⟨t, by simp [ht], e⟩
    · cases hr
  | case3 q b ih =>
    rcases h with ⟨r, hr, e⟩ | ⟨r, hr, e⟩
    · cases hr
    · rcases List.mem_cons.1 hr with rfl | hr
      · exact ⟨_, List.mem_cons_self .., e⟩
      · obtain ⟨t, ht, e⟩ := ih (.inr ⟨r, hr, e⟩)
        exact ⟨t, by simp [ht], e⟩
  | case4 p a q b h1 ih =>
    rcases h with ⟨r, hr, e⟩ | ⟨r, hr, e⟩
    · rcases List.mem_cons.1 hr with rfl | hr
      · exact ⟨_, List.mem_cons_self .., e⟩
      · obtain ⟨t, ht, e⟩ := ih (.inl ⟨r, hr, e⟩)
        exact ⟨t, by simp [ht], e⟩
    · obtain ⟨t, ht, e⟩ := ih (.inr ⟨r, hr, e⟩)
      exact ⟨t, by simp [ht], e⟩
  | case5 p a q b h1 h2 ih =>
    rcases h with ⟨r, hr, e⟩ | ⟨r, hr, e⟩
    · obtain ⟨t, ht, e⟩ := ih (.inl ⟨r, hr, e⟩)
      exact ⟨t, by simp [ht], e⟩
    · rcases List.mem_cons.1 hr with rfl | hr
      · exact ⟨_, List.mem_cons_self .., e⟩
      · obtain ⟨t, ht, e⟩ := ih (.inr ⟨r, hr, e⟩)
        exact ⟨t, by simp [ht], e⟩
  | case6 p a q b h1 h2 ih =>
    have e' : p.1 = q.1 := by omega
    rcases h with ⟨r, hr, e⟩ | ⟨r, hr, e⟩
    · rcases List.mem_cons.1 hr with rfl | hr
      · exact ⟨_, List.mem_cons_self .., e⟩
      · obtain ⟨t, ht, e⟩ := ih (.inl ⟨r, hr, e⟩)
        exact ⟨t, by simp [ht], e⟩
    · rcases List.mem_cons.1 hr with rfl | hr
      · exact ⟨_, List.mem_cons_self .., e'.trans e⟩
      · obtain ⟨t, ht, e⟩ := ih (.inr ⟨r, hr, e⟩)
        exact ⟨t, by simp [ht], e⟩

/-- Rising, and of each variable some power. -/
def Srt (m : List Pw) : Prop := m.Pairwise Lt2 ∧ ∀ p ∈ m, 0 < p.2

theorem made_mem {g : Tr → Int} {L : List Tr} {p : Pw} (h : p ∈ madeF g L) : ∃ t ∈ L, p = (t.1, g t) ∧ 0 < g t := by
  obtain ⟨t, ht, e⟩ := List.mem_filterMap.1 h
  split at e
  · rename_i hg
    cases e
    exact ⟨t, ht, rfl, hg⟩
  · cases e

theorem made_srt (g : Tr → Int) : ∀ (L : List Tr), L.Pairwise LtT → Srt (madeF g L)
  | [], _ => ⟨.nil, by simp [madeF]⟩
  | t :: L, h => by
    obtain ⟨h1, h2⟩ := List.pairwise_cons.1 h
    obtain ⟨ih1, ih2⟩ := made_srt g L h2
    by_cases hg : g t > 0
    · have e : madeF g (t :: L) = (t.1, g t) :: madeF g L := by simp [madeF, hg]
      rw [e]
      refine ⟨.cons (fun p hp => ?_) ih1, fun p hp => ?_⟩
      · obtain ⟨s, hs, rfl, _⟩ := made_mem hp
        exact h1 s hs
      · rcases List.mem_cons.1 hp with rfl | hp
        · exact hg
        · exact ih2 p hp
    · have e : madeF g (t :: L) = madeF g L := by simp [madeF, hg]
      rw [e]
      exact ⟨ih1, ih2⟩

theorem deg_made_none {g : Tr → Int} {L : List Tr} {v : Int} (h : ∀ t ∈ L, t.1 ≠ v) : degF v (madeF g L) = 0 :=
  deg_none _ fun p hp => by
    obtain ⟨t, ht, rfl, _⟩ := made_mem hp
    exact h t ht

theorem deg_made {g : Tr → Int} : ∀ {L : List Tr} {t : Tr}, L.Pairwise LtT → t ∈ L → degF t.1 (madeF g L) = if 0 < g t then g t else 0
  | s :: L, t, h, ht => by
    obtain ⟨h1, h2⟩ := List.pairwise_cons.1 h
    rcases List.mem_cons.1 ht with rfl | ht
    · by_cases hg : g t > 0
      · have e : madeF g (t :: L) = (t.1, g t) :: madeF g L := by simp [madeF, hg]
        rw [e, deg_head t.1 (t.1, g t) _ rfl, if_pos hg]
      · have e : madeF g (t :: L) = madeF g L := by simp [madeF, hg]
        rw [e, if_neg hg]
        exact deg_made_none fun u hu => by have : t.1 < u.1 := h1 u hu; omega
    · have hlt : s.1 < t.1 := h1 t ht
      by_cases hg : g s > 0
      · have e : madeF g (s :: L) = (s.1, g s) :: madeF g L := by simp [madeF, hg]
        rw [e, deg_tail _ _ _ (show s.1 ≠ t.1 by omega)]
        exact deg_made h2 ht
      · have e : madeF g (s :: L) = madeF g L := by simp [madeF, hg]
        rw [e]
        exact deg_made h2 ht

theorem deg_mem {v : Int} : ∀ {m : List Pw}, degF v m ≠ 0 → ∃ p ∈ m, p.1 = v
  | [], h => absurd rfl h
  | p :: m, h => by
    by_cases e : p.1 = v
    · exact ⟨p, by simp, e⟩
    · rw [deg_tail _ _ _ e] at h
      obtain ⟨q, hq, e⟩ := deg_mem h
      exact ⟨q, by simp [hq], e⟩

/-- The exponents of what is made. -/
theorem deg_zip {g : Tr → Int} (h0 : ∀ v, g (v, 0, 0) = 0) {a b : List Pw} (ha : a.Pairwise Lt2) (hb : b.Pairwise Lt2) (v : Int) :
    degF v (madeF g (zipM a b)) = if 0 < g (v, degF v a, degF v b) then g (v, degF v a, degF v b) else 0 := by
  by_cases h : ∃ t ∈ zipM a b, t.1 = v
  · obtain ⟨t, ht, rfl⟩ := h
    obtain ⟨e1, e2⟩ := zip_deg a b ha hb t ht
    rw [deg_made (zip_pw a b ha hb) ht, ← e1, ← e2]
  · have hn : ∀ t ∈ zipM a b, t.1 ≠ v := fun t ht e => h ⟨t, ht, e⟩
    have e1 : degF v a = 0 := Classical.byContradiction fun hne => h (zip_all v a b (.inl (deg_mem hne)))
    have e2 : degF v b = 0 := Classical.byContradiction fun hne => h (zip_all v a b (.inr (deg_mem hne)))
    rw [deg_made_none hn, e1, e2, h0]
    rfl

theorem srt_ext : ∀ {a b : List Pw}, Srt a → Srt b → (∀ v, degF v a = degF v b) → a = b
  | [], [], _, _, _ => rfl
  | p :: a, [], ha, _, h => by
    have := h p.1
    rw [deg_head _ _ _ rfl] at this
    have h2 := ha.2 p (by simp)
    simp [degF] at this
    omega
  | [], q :: b, _, hb, h => by
    have := h q.1
    rw [deg_head _ _ _ rfl] at this
    have h2 := hb.2 q (by simp)
    simp [degF] at this
    omega
  | p :: a, q :: b, ha, hb, h => by
    obtain ⟨ha1, ha2⟩ := List.pairwise_cons.1 ha.1
    obtain ⟨hb1, hb2⟩ := List.pairwise_cons.1 hb.1
    have hp := ha.2 p (by simp)
    have hq := hb.2 q (by simp)
    have e1 : p.1 = q.1 := by
      apply Classical.byContradiction
      intro hne
      rcases (by omega : p.1 < q.1 ∨ q.1 < p.1) with hl | hl
      · have := h p.1
        rw [deg_head _ _ _ rfl, deg_low (m := q :: b)] at this
        · omega
        · intro r hr
          rcases List.mem_cons.1 hr with rfl | hr
          · exact hl
          · exact Int.lt_trans hl (hb1 r hr)
      · have := h q.1
        rw [deg_head q.1 q b rfl, deg_low (m := p :: a)] at this
        · omega
        · intro r hr
          rcases List.mem_cons.1 hr with rfl | hr
          · exact hl
          · exact Int.lt_trans hl (ha1 r hr)
    have e2 : p.2 = q.2 := by
      have := h p.1
      rwa [deg_head _ _ _ rfl, deg_head _ _ _ e1.symm] at this
    have e : p = q := Prod.ext e1 e2
    subst e
    congr 1
    refine srt_ext ⟨ha2, fun r hr => ha.2 r (by simp [hr])⟩ ⟨hb2, fun r hr => hb.2 r (by simp [hr])⟩ fun v => ?_
    by_cases ev : p.1 = v
    · subst ev
      rw [deg_low ha1, deg_low hb1]
    · have := h v
      rwa [deg_tail _ _ _ ev, deg_tail _ _ _ ev] at this

end Go.Proofs.Ytmjigepfjcokdaa
