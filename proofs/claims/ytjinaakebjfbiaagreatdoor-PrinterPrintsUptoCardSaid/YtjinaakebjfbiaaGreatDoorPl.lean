/-
  ParserLines returns true.
-/
import Derived.Test.YtjinaakebjfbiaaGreatDoorLn
import Derived.Test.YtjinaakebjfbiaaGreatDoorBl
import Derived.Test.YtjinaakebjfbiaaGreatDoorPp
namespace Go.Proofs.YtjinaakebjfbiaaGreatDoor
open Go.Ab

theorem tokF_is {w : List UInt8} {n : Int} (h : tokF w = some (4, n)) : w = [61] := by
  unfold tokF at h
  split at h
  · rename_i h1
    exact beq_iff_eq.1 h1
  split at h
  · simp at h
  split at h
  · simp at h
  · split at h
    · split at h
      · cases h
      · simp at h
    · cases h

theorem good_is {l : List TokR} (h : ∀ t ∈ l, goodT t) : ∀ t ∈ l, t.k = 4 → t.w = [61] := fun t ht hk => by
  have := (h t ht).2
  rw [hk] at this
  exact tokF_is this

theorem stmtF_mem {l : List TokR} {x : StR} (h : stmtF l = .inr x) : (x.new = tok0 ∨ x.new ∈ l) ∧ (x.word = tok0 ∨ x.word ∈ l) := by
  cases l with
  | nil => simp [stmtF] at h
  | cons t0 r0 =>
    simp only [stmtF] at h
    split at h
    · obtain ⟨t1, r1, rfl, hk1, h⟩ := needK_inr' h
      obtain ⟨t2, r2, rfl, _, h⟩ := needK_inr' h
      obtain ⟨rfl, _⟩ := allK_some h
      exact ⟨.inr (by simp), .inr (by simp)⟩
    split at h
    · cases h
    split at h
    · obtain ⟨rfl, _⟩ := allK_some h
      exact ⟨.inl rfl, .inl rfl⟩
    split at h
    · obtain ⟨t1, r1, rfl, _, h⟩ := needK_inr' h
      obtain ⟨rfl, ho⟩ := allK_some h
      exact ⟨.inl rfl, .inr (by simp)⟩
    split at h
    · obtain ⟨rfl, _⟩ := allK_some h
      exact ⟨.inl rfl, .inl rfl⟩
    split at h
    · obtain ⟨t1, r1, rfl, _, h⟩ := needK_inr' h
      obtain ⟨rfl, ho⟩ := allK_some h
      exact ⟨.inl rfl, .inr (by simp)⟩
    cases h

theorem cntL_drop : ∀ (n : Nat) (xs : List (List UInt8)), cntL (xs.drop n) ≤ cntL xs
  | 0, xs => by simp
  | n + 1, [] => by simp
  | n + 1, x :: xs => by
    have := cntL_drop n xs
    have e : cntL (x :: xs) = x.length + 1 + cntL xs := rfl
    rw [List.drop_succ_cons]
    omega

/-- What is known of the line of a statement that was read. -/
theorem line_of {s : List UInt8} {r : List (List TokR)} {a : List StR} (hf : linesF s = .inr r) (hp : parseG r = .inr a) {i : Nat} (hi : i < r.length) :
    lineI (a.getD i default).up = wordT (r.getD i default) ∧ lenI (a.getD i default).up ≤ 3 * (s.length + 1) ∧ (a.getD i default).up.args.length ≤ s.length + 1 := by
  obtain ⟨h1, h2⟩ := parseG_get hp
  have hs := h2 i hi
  have hm : r.getD i default ∈ r := by rw [getD_def hi]; exact List.getElem_mem _
  obtain ⟨hne, hg⟩ := linesF_good hf _ hm
  have pl := stmtF_pl hs
  obtain ⟨m1, m2⟩ := stmtF_mem hs
  have e1 : (wordT (r.getD i default)).length + 1 = cntL ((r.getD i default).map TokR.w) := (join_cnt 32 ((r.getD i default).map TokR.w)).2 (fun e => hne (List.map_eq_nil_iff.1 e))
  have e2 := cnt_mem (List.mem_map_of_mem (f := wordT) hm)
  have e3 := told_len hf
  have w0 : ∀ t : TokR, (t = tok0 ∨ t ∈ r.getD i default) → t.w.length ≤ cntL ((r.getD i default).map TokR.w) := by
    rintro t (rfl | ht)
    · exact Nat.zero_le _
    · have := cnt_mem (List.mem_map_of_mem (f := TokR.w) ht)
      omega
  have e4 := w0 _ m1
  have e5 := w0 _ m2
  have e6 : cntL ((a.getD i default).args.map TokR.w) ≤ cntL ((r.getD i default).map TokR.w) := by
    rw [pl.args, List.map_drop]
    exact cntL_drop _ _
  refine ⟨?_, ?_, ?_⟩
  · unfold lineI wordT
    rw [lnWords_up, pl.words (good_is hg)]
  · unfold lenI
    have e7 : ((a.getD i default).up.args.map (·.w)) = (a.getD i default).args.map TokR.w := by
      show ((a.getD i default).args.map TokR.up).map (·.w) = _
      rw [List.map_map]; rfl
    rw [e7]
    show (a.getD i default).new.w.length + (a.getD i default).word.w.length + _ ≤ _
    omega
  · have e8 : (a.getD i default).up.args.length = (a.getD i default).args.length := by
      show ((a.getD i default).args.map TokR.up).length = _
      simp
    have e9 : ∀ xs : List (List UInt8), xs.length ≤ cntL xs := by
      intro xs
      induction xs with
      | nil => exact Nat.zero_le _
      | cons x xs ih =>
        have e : cntL (x :: xs) = x.length + 1 + cntL xs := rfl
        simp only [List.length_cons]
        omega
    have e10 := e9 ((a.getD i default).args.map TokR.w)
    rw [List.length_map] at e10
    omega

def sumW (l : List TokI) : Nat := (l.map fun t => t.w.length).sum


end Go.Proofs.YtjinaakebjfbiaaGreatDoor
