/-
  How many statements and words a script has at most.
-/
import Derived.Test.YtjinaakebjfbiaaGreatDoorPr3
namespace Go.Proofs.YtjinaakebjfbiaaGreatDoor
open Go.Ab

theorem allK_inr {ks : List Int} {r : List TokR} {s st : StR} (h : allK ks r s = .inr st) : st = s := by
  unfold allK at h
  split at h
  · cases h
  · simpa using h.symm

theorem needK_inr {k : Int} {r : List TokR} {e : Nat × Nat} {f : TokR → List TokR → (Nat × Nat) ⊕ StR} {st : StR} (h : needK k r e f = .inr st) : ∃ t r', r = t :: r' ∧ f t r' = .inr st := by
  unfold needK at h
  split at h
  · cases h
  · rename_i t r'
    split at h
    · exact ⟨t, r', rfl, h⟩
    · cases h

theorem stmtF_args {l : List TokR} {st : StR} (h : stmtF l = .inr st) : st.args.length ≤ l.length := by
  cases l with
  | nil => cases h
  | cons t0 r0 =>
    simp only [stmtF] at h
    split at h
    · obtain ⟨t, r', rfl, h⟩ := needK_inr h
      obtain ⟨t2, r2, rfl, h⟩ := needK_inr h
      rw [allK_inr h]
      simp only [List.length_cons]
      omega
    · split at h
      · cases h
      · split at h
        · rw [allK_inr h]
          simp
        · split at h
          · obtain ⟨t, r', rfl, h⟩ := needK_inr h
            rw [allK_inr h]
            simp
          · split at h
            · rw [allK_inr h]
              simp
            · split at h
              · obtain ⟨t, r', rfl, h⟩ := needK_inr h
                rw [allK_inr h]
                simp only [List.length_cons]
                omega
              · cases h

theorem parseG_mem : ∀ {ls : List (List TokR)} {r : List StR}, parseG ls = .inr r → r.length = ls.length ∧ ∀ x ∈ r, ∃ l ∈ ls, stmtF l = .inr x
  | [], r, h => by
    simp only [parseG, Sum.inr.injEq] at h
    subst h
    exact ⟨rfl, fun x hx => absurd hx List.not_mem_nil⟩
  | l :: ls, r, h => by
    simp only [parseG] at h
    split at h
    · cases h
    · rename_i s hs
      split at h
      · cases h
      · rename_i r' hr
        obtain ⟨h1, h2⟩ := parseG_mem hr
        simp only [Sum.inr.injEq] at h
        subst h
        refine ⟨by simp [h1], fun x hx => ?_⟩
        rcases List.mem_cons.1 hx with rfl | hx
        · exact ⟨l, by simp, hs⟩
        · obtain ⟨l', h3, h4⟩ := h2 x hx
          exact ⟨l', by simp [h3], h4⟩

theorem parseG_bound {s : List UInt8} {r : List StR} (h : parseF s = .inr r) : r.length ≤ s.length + 1 ∧ ∀ x ∈ r, x.args.length ≤ s.length + 1 := by
  unfold parseF at h
  split at h
  · cases h
  · rename_i ls hls
    obtain ⟨h1, h2⟩ := parseG_mem h
    refine ⟨by rw [h1]; exact lines_count hls, fun x hx => ?_⟩
    obtain ⟨l, h3, h4⟩ := h2 x hx
    exact Nat.le_trans (stmtF_args h4) (line_bound hls h3).2.1

end Go.Proofs.YtjinaakebjfbiaaGreatDoor
