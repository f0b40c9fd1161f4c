/-
  Plain law of layer 22: of what is well formed.
-/
import Derived.Test.YtjinaakebjfbiaaGreatDoorSh0
namespace Go.Proofs.YtjinaakebjfbiaaGreatDoor
open Go.Ab

theorem meet_id {s : LkR} {b : Bool} {e ln co : Int} (he : e ≠ 0) (h : (s.meet b e ln co).e = 0) : s.meet b e ln co = s := by
  obtain ⟨_, rfl⟩ := meet_zero he h
  rfl

theorem numM_id {f : FigR} {i : Nat} {t : TokI} {s : LkR} (h : (numM f i t s).e = 0) : numM f i t s = s ∧ t.k = 3 := by
  unfold numM at h ⊢
  have h1 := (meet_zero (by decide) h).1
  have h2 := (meet_zero (by decide) h1).2
  rw [meet_id (by decide) h, meet_id (by decide) h1]
  exact ⟨rfl, by simpa using h2⟩

theorem ptM_id {f : FigR} {A : List TokI} {i : Nat} {t : TokI} {s : LkR} (h : (ptM f A i t s).e = 0) : ptM f A i t s = s ∧ t.k = 1 ∧ s.ns.contains t.w = true := by
  unfold ptM at h ⊢
  have h1 := (meet_zero (by decide) h).1
  have h2 := (meet_zero (by decide) h1).1
  have h3 := (meet_zero (by decide) h1).2
  have h4 := (meet_zero (by decide) h2).2
  rw [meet_id (by decide) h, meet_id (by decide) h1, meet_id (by decide) h2]
  exact ⟨rfl, by simpa using h4, by simpa using h3⟩

theorem argsG_id {f : FigR} {A : List TokI} {el ec : Int} : ∀ {l : List TokI} {i : Nat} {s : LkR}, (argsG f A el ec i l s).e = 0 →
    argsG f A el ec i l s = s ∧ ∀ t ∈ l, t.k = 3 ∨ (t.k = 1 ∧ s.ns.contains t.w = true)
  | [], _, _, h => by
    unfold argsG at h ⊢
    exact ⟨meet_id (by decide) h, by simp⟩
  | t :: l, i, s, h => by
    unfold argsG at h ⊢
    split at h
    · have := (meet_zero (by decide) h).2
      cases this
    rename_i h1
    rw [if_neg h1]
    split at h
    · rename_i h2
      rw [if_pos h2]
      obtain ⟨k1, k2⟩ := numM_id (argsG_zero h)
      rw [k1] at h ⊢
      obtain ⟨k3, k4⟩ := argsG_id h
      refine ⟨k3, fun u hu => ?_⟩
      rcases List.mem_cons.1 hu with rfl | hu
      · exact .inl k2
      · exact k4 u hu
    · rename_i h2
      rw [if_neg h2]
      obtain ⟨k1, k2⟩ := ptM_id (argsG_zero h)
      rw [k1] at h ⊢
      obtain ⟨k3, k4⟩ := argsG_id h
      refine ⟨k3, fun u hu => ?_⟩
      rcases List.mem_cons.1 hu with rfl | hu
      · exact .inr k2
      · exact k4 u hu

/-- The points that a statement makes. -/
def namesOf (x : StI) : List (List UInt8) := if x.k = 3 then x.args.map (·.w) else if x.k = 4 then [x.new.w] else []
def namesF (l : List StI) : List (List UInt8) := l.flatMap namesOf

theorem fresh_id {s : LkR} {t : TokI} (h : (s.fresh t).e = 0) : s.fresh t = s := by
  unfold LkR.fresh at h ⊢
  have h1 := (meet_zero (by decide) h).1
  rw [meet_id (by decide) h, meet_id (by decide) h1]

theorem ptsG_zero {l : List TokI} {s : LkR} (h : (ptsG l s).e = 0) : s.e = 0 := by
  by_cases hs : s.e = 0
  · exact hs
  · rw [ptsG_dead l hs] at h; exact h

theorem ptsG_id : ∀ {l : List TokI} {s : LkR}, (ptsG l s).e = 0 → ptsG l s = ⟨s.e, s.ln, s.co, s.ns ++ l.map (·.w)⟩ ∧ (s.ns.Nodup → (s.ns ++ l.map (·.w)).Nodup)
  | [], s, _ => by simp [ptsG]
  | t :: l, s, h => by
    unfold ptsG at h ⊢
    have h1 := ptsG_zero h
    rw [add_e] at h1
    have h2 := fresh_zero h1
    rw [fresh_id h1, add_live h2.1] at h ⊢
    obtain ⟨k1, k2⟩ := ptsG_id h
    simp only [List.append_assoc, List.cons_append, List.nil_append] at k1 k2
    refine ⟨k1, fun hn => ?_⟩
    simp only [List.map_cons]
    refine k2 ?_
    rw [List.nodup_append]
    refine ⟨hn, by simp, fun a ha b hb => ?_⟩
    simp only [List.mem_singleton] at hb
    subst hb
    rintro rfl
    have := h2.2.1
    rw [List.contains_eq_mem, decide_eq_false_iff_not] at this
    exact this ha

theorem stmtG_zero {x : StI} {s : LkR} (h : (stmtG x s).e = 0) : s.e = 0 := by
  by_cases hs : s.e = 0
  · exact hs
  · rw [stmtG_dead x hs] at h; exact h

theorem stmtG_id {x : StI} {s : LkR} (h : (stmtG x s).e = 0) : stmtG x s = ⟨s.e, s.ln, s.co, s.ns ++ namesOf x⟩ ∧ (s.ns.Nodup → (s.ns ++ namesOf x).Nodup) := by
  unfold stmtG at h ⊢
  unfold namesOf
  split at h
  · rename_i hk
    rw [if_pos hk, if_pos hk]
    have h1 := ptsG_zero h
    rw [meet_id (by decide) h1] at h ⊢
    exact ptsG_id h
  rename_i hk
  rw [if_neg hk, if_neg hk]
  split at h
  · rename_i hk
    rw [if_pos hk, if_pos hk]
    rw [add_e] at h
    have h1 := make_zero h
    unfold argsF at h ⊢
    have h2 := argsG_id h
    have h3 := (meet_zero (by decide) (argsG_zero h)).1
    rw [h2.1, meet_id (by decide) (argsG_zero h), fresh_id h3, add_live h1.1]
    refine ⟨rfl, fun hn => ?_⟩
    rw [List.nodup_append]
    refine ⟨hn, by simp, fun a ha b hb => ?_⟩
    simp only [List.mem_singleton] at hb
    subst hb
    rintro rfl
    have := h1.2.1
    rw [List.contains_eq_mem, decide_eq_false_iff_not] at this
    exact this ha
  rename_i hk
  rw [if_neg hk, if_neg hk]
  simp only [List.append_nil]
  split at h
  · rename_i hk
    rw [if_pos hk]
    unfold argsF at h ⊢
    rw [(argsG_id h).1, meet_id (by decide) (argsG_zero h)]
    exact ⟨rfl, id⟩
  · rename_i hk
    rw [if_neg hk]
    exact ⟨rfl, id⟩

/-- The arguments of a figure that is told. -/
theorem stmtG_args {x : StI} {s : LkR} (h : (stmtG x s).e = 0) (hk : x.k = 4 ∨ x.k = 5) : ∀ t ∈ x.args, t.k = 3 ∨ (t.k = 1 ∧ s.ns.contains t.w = true) := by
  unfold stmtG argsF at h
  rcases hk with hk | hk
  · rw [if_neg (by omega), if_pos hk, add_e] at h
    have := (argsG_id h).2
    rw [meet_ns, fresh_ns] at this
    exact this
  · rw [if_neg (by omega), if_neg (by omega), if_pos hk] at h
    have := (argsG_id h).2
    rw [meet_ns] at this
    exact this

theorem namesF_append (a b : List StI) : namesF (a ++ b) = namesF a ++ namesF b := by simp [namesF]
theorem namesF_cons (x : StI) (l : List StI) : namesF (x :: l) = namesOf x ++ namesF l := by simp [namesF]

theorem lookG_id {n : Nat} : ∀ {l : List StI} {i : Nat} {s : LkR}, (lookG n i l s).e = 0 → lookG n i l s = ⟨s.e, s.ln, s.co, s.ns ++ namesF l⟩ ∧ (s.ns.Nodup → (s.ns ++ namesF l).Nodup) ∧
    ∀ j, (h : j < l.length) → placeB n (i + j) l[j] = true ∧ (stmtG l[j] ⟨s.e, s.ln, s.co, s.ns ++ namesF (l.take j)⟩).e = 0
  | [], _, s, _ => by simp [lookG, namesF]
  | x :: l, i, s, h => by
    unfold lookG at h ⊢
    have h1 := lookG_zero h
    have h2 := stmtG_zero h1
    have h3 := (meet_zero (by decide) h2).2
    rw [meet_id (by decide) h2] at h h1 ⊢
    obtain ⟨k1, k2⟩ := stmtG_id h1
    rw [k1] at h ⊢
    obtain ⟨m1, m2, m3⟩ := lookG_id h
    simp only [List.append_assoc] at m1 m2 m3
    refine ⟨by rw [m1, namesF_cons], fun hn => ?_, fun j hj => ?_⟩
    · rw [namesF_cons]
      exact m2 (k2 hn)
    · cases j with
      | zero =>
        refine ⟨by simpa using h3, ?_⟩
        simpa [namesF] using h1
      | succ j =>
        have := m3 j (by simpa using hj)
        rw [show i + (j + 1) = i + 1 + j by omega]
        refine ⟨by simpa using this.1, ?_⟩
        rw [List.take_succ_cons, namesF_cons]
        exact this.2

theorem lookF_id {l : List StI} (h : (lookF l).e = 0) : 3 ≤ l.length ∧ lookF l = ⟨0, 0, 0, namesF l⟩ ∧ (namesF l).Nodup ∧ (namesF l).length ≤ 40 ∧
    ∀ j, (hj : j < l.length) → placeB l.length j l[j] = true ∧ (stmtG l[j] ⟨0, 0, 0, namesF (l.take j)⟩).e = 0 := by
  unfold lookF at h ⊢
  have h1 := lookG_zero h
  have h2 := (meet_zero (by decide) h1).2
  rw [meet_id (by decide) h1] at h ⊢
  obtain ⟨k1, k2, k3⟩ := lookG_id h
  simp only [List.nil_append, Nat.zero_add] at k1 k2 k3
  have hlen : ∀ (l : List StI) (n i : Nat) (s : LkR), s.ns.length ≤ 40 → (lookG n i l s).ns.length ≤ 40 := by
    intro l
    induction l with
    | nil => intro n i s hs; exact hs
    | cons x l ih => intro n i s hs; exact ih _ _ _ (stmtG_len x (by rw [meet_ns]; exact hs))
  have h40 := hlen l l.length 0 ⟨0, 0, 0, []⟩ (by simp)
  rw [k1] at h40
  exact ⟨by have := of_decide_eq_false h2; omega, k1, k2 (by simp), h40, k3⟩

/-! Places change nothing of whether it is. -/

def StI.bare (x : StI) : StI := { x with l1 := 0, c1 := 0, l2 := 0, c2 := 0 }

def Alike (s t : LkR) : Prop := s.e = t.e ∧ s.ns = t.ns

theorem meet_alike {s t : LkR} (h : Alike s t) (b : Bool) (e l c l' c' : Int) : Alike (s.meet b e l c) (t.meet b e l' c') := by
  unfold LkR.meet
  rw [h.1]
  split
  · exact ⟨rfl, h.2⟩
  · exact h

theorem fresh_alike {s t : LkR} (h : Alike s t) (u : TokI) : Alike (s.fresh u) (t.fresh u) := by
  unfold LkR.fresh
  rw [h.2]
  exact meet_alike (meet_alike h ..) ..

theorem add_alike {s t : LkR} (h : Alike s t) (u : TokI) : Alike (s.add u) (t.add u) := by
  unfold LkR.add
  rw [h.1]
  split
  · exact ⟨rfl, by simp only [h.2]⟩
  · exact h

theorem argsG_alike (f : FigR) (A : List TokI) (el ec el' ec' : Int) : ∀ (l : List TokI) (i : Nat) {s t : LkR}, Alike s t → Alike (argsG f A el ec i l s) (argsG f A el' ec' i l t)
  | [], _, _, _, h => meet_alike h ..
  | u :: l, i, s, t, h => by
    unfold argsG
    split
    · exact meet_alike h ..
    split
    · exact argsG_alike f A el ec el' ec' l (i + 1) (meet_alike (meet_alike h ..) ..)
    · refine argsG_alike f A el ec el' ec' l (i + 1) ?_
      unfold ptM
      rw [h.2]
      exact meet_alike (meet_alike (meet_alike h ..) ..) ..

theorem ptsG_alike : ∀ (l : List TokI) {s t : LkR}, Alike s t → Alike (ptsG l s) (ptsG l t)
  | [], _, _, h => h
  | u :: l, _, _, h => ptsG_alike l (add_alike (fresh_alike h u) u)

theorem stmtG_alike (x : StI) {s t : LkR} (h : Alike s t) : Alike (stmtG x s) (stmtG x.bare t) := by
  unfold stmtG argsF
  by_cases h3 : x.k = 3
  · rw [if_pos h3, if_pos (show x.bare.k = 3 from h3)]
    exact ptsG_alike _ (meet_alike h ..)
  rw [if_neg h3, if_neg (show ¬ x.bare.k = 3 from h3)]
  by_cases h4 : x.k = 4
  · rw [if_pos h4, if_pos (show x.bare.k = 4 from h4)]
    exact add_alike (argsG_alike _ _ _ _ _ _ _ _ (meet_alike (fresh_alike h _) ..)) _
  rw [if_neg h4, if_neg (show ¬ x.bare.k = 4 from h4)]
  by_cases h5 : x.k = 5
  · rw [if_pos h5, if_pos (show x.bare.k = 5 from h5)]
    exact argsG_alike _ _ _ _ _ _ _ _ (meet_alike h ..)
  · rw [if_neg h5, if_neg (show ¬ x.bare.k = 5 from h5)]
    exact h

theorem lookG_alike (n : Nat) : ∀ (l : List StI) (i : Nat) {s t : LkR}, Alike s t → Alike (lookG n i l s) (lookG n i (l.map StI.bare) t)
  | [], _, _, _, h => h
  | x :: l, i, s, t, h => by
    unfold lookG
    rw [List.map_cons]
    exact lookG_alike n l (i + 1) (stmtG_alike x (meet_alike h _ _ _ _ x.bare.l1 x.bare.c1))

theorem bare_ok {l : List StI} (h : (lookF l).e = 0) : (lookF (l.map StI.bare)).e = 0 := by
  unfold lookF at h ⊢
  rw [List.length_map]
  have := lookG_alike l.length l 0 (meet_alike (s := ⟨0, 0, 0, []⟩) (t := ⟨0, 0, 0, []⟩) ⟨rfl, rfl⟩ (decide (l.length < 3)) 4 (shortAt l).1 (shortAt l).2 (shortAt (l.map StI.bare)).1 (shortAt (l.map StI.bare)).2)
  rw [← this.1]
  exact h

/-! Without its first, or its last statement it is not. -/

theorem place_k {n i : Nat} {x : StI} (h : placeB n i x = true) : (i = 0 → x.k = 1 ∧ x.args.length = 4) ∧ (i = 1 → x.k = 2) ∧ (2 ≤ i → i + 1 = n → x.k = 5) ∧ (2 ≤ i → i + 1 ≠ n → x.k = 3 ∨ x.k = 4) := by
  unfold placeB at h
  split at h
  · simp only [Bool.and_eq_true, decide_eq_true_eq] at h
    refine ⟨fun _ => ⟨h.1, ?_⟩, by omega, by omega, by omega⟩
    have h2 := h.2
    unfold limB at h2
    split at h2
    · rename_i e
      rw [e]; rfl
    · cases h2
  split at h
  · simp only [Bool.and_eq_true, decide_eq_true_eq] at h
    exact ⟨by omega, fun _ => h.1, by omega, by omega⟩
  split at h
  · simp only [decide_eq_true_eq] at h
    exact ⟨by omega, by omega, fun _ _ => h, by omega⟩
  · simp only [Bool.or_eq_true, decide_eq_true_eq] at h
    exact ⟨by omega, by omega, by omega, fun _ _ => h⟩

theorem tail_no {l : List StI} (h : (lookF l).e = 0) : (lookF (l.drop 1)).e ≠ 0 := by
  intro h2
  obtain ⟨g1, _, _, _, g2⟩ := lookF_id h
  obtain ⟨k1, _, _, _, k2⟩ := lookF_id h2
  have a := (place_k (g2 1 (by omega)).1).2.1 rfl
  have b := (place_k (k2 0 (by omega)).1).1 rfl
  have e : (l.drop 1)[0]'(by omega) = l[1]'(by omega) := by simp
  rw [e] at b
  omega

theorem init_no {l : List StI} (h : (lookF l).e = 0) : (lookF (l.take (l.length - 1))).e ≠ 0 := by
  intro h2
  obtain ⟨g1, _, _, _, g2⟩ := lookF_id h
  obtain ⟨k1, _, _, _, k2⟩ := lookF_id h2
  have hl : (l.take (l.length - 1)).length = l.length - 1 := by rw [List.length_take]; omega
  rw [hl] at k1
  have a := (place_k (g2 (l.length - 2) (by omega)).1).2.2.2 (by omega) (by omega)
  have b := (place_k (k2 (l.length - 2) (by omega)).1).2.2.1 (by omega) (by omega)
  rw [List.getElem_take] at b
  omega

end Go.Proofs.YtjinaakebjfbiaaGreatDoor
