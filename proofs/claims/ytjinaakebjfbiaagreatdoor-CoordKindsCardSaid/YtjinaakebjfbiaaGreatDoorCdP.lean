/-
  Plain law of layer 25: each number is just one point's one coordinate; names and numbers find each other.
-/
import Derived.Test.YtjinaakebjfbiaaGreatDoorCd0
namespace Go.Proofs.YtjinaakebjfbiaaGreatDoor
open Go.Ab

/-- No, one, or two equations. -/
def Few (ms : List Int) : Prop := ∀ n ∈ ms, n = 0 ∨ n = 1 ∨ n = 2

theorem Few.tail {n : Int} {ms : List Int} (h : Few (n :: ms)) : Few ms := fun m hm => h m (List.mem_cons_of_mem _ hm)
theorem Few.head {n : Int} {ms : List Int} (h : Few (n :: ms)) : n = 0 ∨ n = 1 ∨ n = 2 := h n (List.mem_cons_self ..)

theorem parN_cons (n : Int) (ms : List Int) : parN (n :: ms) = parA n + parN ms := by simp [parN]
theorem depN_cons (n : Int) (ms : List Int) : depN (n :: ms) = depA n + depN ms := by simp [depN]

theorem all_two : ∀ {ms : List Int}, Few ms → parN ms + depN ms = 2 * ms.length
  | [], _ => rfl
  | n :: ms, h => by
    have ih := all_two h.tail
    rw [parN_cons, depN_cons, List.length_cons]
    rcases h.head with rfl | rfl | rfl <;> simp only [parA, depA] <;> simp <;> omega

theorem cel2_0 (ms : List Int) (p d : Int) : cel2 (0 :: ms) p d = (p + 1) :: (p + 2) :: cel2 ms (p + 2) (d + 0) := rfl
theorem cel2_1 (ms : List Int) (p d : Int) : cel2 (1 :: ms) p d = (p + 1) :: (d + 1) :: cel2 ms (p + 1) (d + 1) := rfl
theorem cel2_2 (ms : List Int) (p d : Int) : cel2 (2 :: ms) p d = (d + 1) :: (d + 2) :: cel2 ms (p + 0) (d + 2) := rfl

def cnt1 (b : Prop) [Decidable b] : Int := if b then 1 else 0
theorem cnt1_beq (a b : Int) : ((if (a == b) = true then 1 else 0 : Nat) : Int) = cnt1 (a = b) := by
  unfold cnt1
  by_cases h : a = b
  · rw [if_pos (beq_iff_eq.2 h), if_pos h]; rfl
  · rw [if_neg (fun e => h (beq_iff_eq.1 e)), if_neg h]; rfl

theorem cel2_count : ∀ {ms : List Int} (p d v : Int), Few ms → ((cel2 ms p d).count v : Int) = cnt1 (p < v ∧ v ≤ p + parN ms) + cnt1 (d < v ∧ v ≤ d + depN ms)
  | [], p, d, v, _ => by
    have e1 : parN [] = 0 := rfl
    have e2 : depN [] = 0 := rfl
    unfold cnt1
    rw [e1, e2, if_neg (by omega), if_neg (by omega)]
    rfl
  | n :: ms, p, d, v, h => by
    have b1 := parN_bd ms
    have b2 := depN_bd ms
    rw [parN_cons, depN_cons]
    rcases h.head with rfl | rfl | rfl
    · have e1 : parA 0 = 2 := rfl
      have e2 : depA 0 = 0 := rfl
      rw [cel2_0, List.count_cons, List.count_cons, Int.natCast_add, Int.natCast_add, cel2_count _ _ _ h.tail, cnt1_beq, cnt1_beq, e1, e2]
      generalize parN ms = P at b1
      generalize depN ms = D at b2
      unfold cnt1
      repeat' split
      all_goals omega
    · have e1 : parA 1 = 1 := rfl
      have e2 : depA 1 = 1 := rfl
      rw [cel2_1, List.count_cons, List.count_cons, Int.natCast_add, Int.natCast_add, cel2_count _ _ _ h.tail, cnt1_beq, cnt1_beq, e1, e2]
      generalize parN ms = P at b1
      generalize depN ms = D at b2
      unfold cnt1
      repeat' split
      all_goals omega
    · have e1 : parA 2 = 0 := rfl
      have e2 : depA 2 = 2 := rfl
      rw [cel2_2, List.count_cons, List.count_cons, Int.natCast_add, Int.natCast_add, cel2_count _ _ _ h.tail, cnt1_beq, cnt1_beq, e1, e2]
      generalize parN ms = P at b1
      generalize depN ms = D at b2
      unfold cnt1
      repeat' split
      all_goals omega

theorem cel2_in : ∀ {ms : List Int} {p d : Int}, Few ms → 0 ≤ p → p + parN ms ≤ d → ∀ c ∈ pairsC (cel2 ms p d), 1 ≤ c.1 ∧ c.1 < c.2 ∧ c.2 ≤ d + depN ms
  | [], _, _, _, _, _, c, hc => by simp [cel2, pairsC] at hc
  | n :: ms, p, d, h, hp, hd, c, hc => by
    have b1 := parN_bd ms
    have b2 := depN_bd ms
    have b3 := parA_bd n
    have b4 := depA_bd n
    rw [parN_cons] at hd
    rw [depN_cons]
    rw [cel2, pairsC] at hc
    rcases List.mem_cons.1 hc with rfl | hc
    · rcases h.head with rfl | rfl | rfl
      · simp only [parA, depA] at hd ⊢
        simp at hd ⊢
        omega
      · simp only [parA, depA] at hd ⊢
        simp at hd ⊢
        omega
      · simp only [parA, depA] at hd ⊢
        simp at hd ⊢
        omega
    · have := cel2_in h.tail (show 0 ≤ p + parA n by omega) (show p + parA n + parN ms ≤ d + depA n by omega) c hc
      omega

/-! Names. -/

theorem nameF_none : ∀ (ns : List (List UInt8)) (cs : List (Int × Int)) (v : Int), (∀ c ∈ cs, c.1 ≠ v ∧ c.2 ≠ v) → nameF ns cs v = []
  | [], cs, v, _ => by cases cs <;> rfl
  | n :: ns, [], v, _ => rfl
  | n :: ns, c :: cs, v, h => by
    have hc := h c (List.mem_cons_self ..)
    rw [nameF, if_neg (fun e => hc.1 e.symm), if_neg (fun e => hc.2 e.symm), nameF_none ns cs v fun x hx => h x (List.mem_cons_of_mem _ hx)]

theorem nameF_some : ∀ (ns : List (List UInt8)) (cs : List (Int × Int)) (v : Int), ns.length = cs.length → (∃ c ∈ cs, c.1 = v ∨ c.2 = v) → ∃ m ∈ ns, nameF ns cs v = 120 :: m ∨ nameF ns cs v = 121 :: m
  | _, [], v, _, h => by obtain ⟨c, hc, _⟩ := h; cases hc
  | [], c :: cs, v, h, _ => by simp at h
  | n :: ns, c :: cs, v, hl, h => by
    rw [nameF]
    by_cases h1 : v = c.1
    · exact ⟨n, List.mem_cons_self .., .inl (by rw [if_pos h1])⟩
    by_cases h2 : v = c.2
    · exact ⟨n, List.mem_cons_self .., .inr (by rw [if_neg h1, if_pos h2])⟩
    rw [if_neg h1, if_neg h2]
    obtain ⟨x, hx, hv⟩ := h
    rcases List.mem_cons.1 hx with rfl | hx
    · rcases hv with rfl | rfl
      · exact absurd rfl h1
      · exact absurd rfl h2
    obtain ⟨m, hm, e⟩ := nameF_some ns cs v (by simpa using hl) ⟨x, hx, hv⟩
    exact ⟨m, List.mem_cons_of_mem _ hm, e⟩

theorem find_name : ∀ (ns : List (List UInt8)) (cs : List (Int × Int)) (v : Int), ns.Nodup → ns.length = cs.length → (∃ c ∈ cs, c.1 = v ∨ c.2 = v) → findF ns cs (nameF ns cs v) = v
  | _, [], v, _, _, h => by obtain ⟨c, hc, _⟩ := h; cases hc
  | [], c :: cs, v, _, h, _ => by simp at h
  | n :: ns, c :: cs, v, hnd, hl, h => by
    rw [nameF]
    by_cases h1 : v = c.1
    · rw [if_pos h1, findF, if_pos rfl, h1]
    by_cases h2 : v = c.2
    · rw [if_neg h1, if_pos h2, findF, if_neg (by simp), if_pos rfl, h2]
    rw [if_neg h1, if_neg h2]
    obtain ⟨x, hx, hv⟩ := h
    have hx' : x ∈ cs := by
      rcases List.mem_cons.1 hx with rfl | hx
      · rcases hv with rfl | rfl
        · exact absurd rfl h1
        · exact absurd rfl h2
      · exact hx
    obtain ⟨hn, hnd'⟩ := List.nodup_cons.1 hnd
    have hl' : ns.length = cs.length := by simpa using hl
    obtain ⟨m, hm, e⟩ := nameF_some ns cs v hl' ⟨x, hx', hv⟩
    have hne : m ≠ n := fun e => hn (e ▸ hm)
    have ih := find_name ns cs v hnd' hl' ⟨x, hx', hv⟩
    rw [findF, if_neg, if_neg, ih]
    · rcases e with e | e <;> rw [e] <;> simp [hne]
    · rcases e with e | e <;> rw [e] <;> simp [hne]

/-- A point's coordinates. -/
theorem cel2_get : ∀ (ms : List Int) (p d : Int) (i : Nat), i < ms.length → (pairsC (cel2 ms p d)).getD i default =
    (if ms.getD i 0 < 2 then p + parN (ms.take i) + 1 else if ms.getD i 0 = 2 then d + depN (ms.take i) + 1 else 0, if ms.getD i 0 < 1 then p + parN (ms.take i) + 2 else d + depN (ms.take i) + depA (ms.getD i 0))
  | [], _, _, _, h => by simp at h
  | n :: ms, p, d, 0, _ => by simp [cel2, pairsC, parN, depN]
  | n :: ms, p, d, i + 1, h => by
    have ih := cel2_get ms (p + parA n) (d + depA n) i (by simpa using h)
    rw [cel2, pairsC, List.getD_cons_succ, ih, List.getD_cons_succ, List.take_succ_cons, parN_cons, depN_cons]
    simp only [Int.add_assoc]

/-! Of well formed statements each point is made by no, one, or two equations. -/

def fewB (t : List UInt8) : Bool := (rowsF t).all fun l => match conR l with
  | none => true
  | some f => decide (f.eqs.length = 1 ∨ f.eqs.length = 2)

set_option maxRecDepth 100000 in
theorem made_few : fewB made21 = true := by decide +kernel

theorem con_few {w : List UInt8} (h : (conF w).isNone = false) : (fig0 (conF w)).eqs.length = 1 ∨ (fig0 (conF w)).eqs.length = 2 := by
  unfold conF at h ⊢
  cases hr : rowF made21 w with
  | none => rw [hr] at h; cases h
  | some l =>
    rw [hr] at h
    simp only at h ⊢
    cases hf : conR l with
    | none => rw [hf] at h; cases h
    | some f =>
      have := List.all_eq_true.1 made_few l (rowG_mem hr)
      rw [hf] at this
      exact of_decide_eq_true this

theorem con_some {x : StI} {s : LkR} (h : (stmtG x s).e = 0) (hk : x.k = 4) : (conF x.word.w).isNone = false := by
  unfold stmtG argsF at h
  rw [if_neg (by omega), if_pos hk, add_e] at h
  exact (meet_zero (by decide) (argsG_zero h)).2

/-- How many points a statement tells or makes, how free they are. -/
def cntM (x : StI) : Nat := if x.k = 3 then x.args.length else if x.k = 4 then 1 else 0
noncomputable def freeM (x : StI) : Int := if x.k = 4 then 2 - ((fig0 (conF x.word.w)).eqs.length : Int) else 2

theorem manyOf_rep (x : StI) : manyOf x = List.replicate (cntM x) (2 - freeM x) := by
  unfold manyOf cntM freeM
  by_cases h3 : x.k = 3
  · rw [if_pos h3, if_pos h3, if_neg (by omega), List.map_const']
    rfl
  rw [if_neg h3, if_neg h3]
  by_cases h4 : x.k = 4
  · rw [if_pos h4, if_pos h4, if_pos h4, show (2 : Int) - (2 - ((fig0 (conF x.word.w)).eqs.length : Int)) = ((fig0 (conF x.word.w)).eqs.length : Int) by omega]
    rfl
  · rw [if_neg h4, if_neg h4]
    rfl

theorem few_stmt {l : List StI} (h : (lookF l).e = 0) {x : StI} (hx : x ∈ l) : (x.k = 4 → (conF x.word.w).isNone = false) ∧ (2 - freeM x = 0 ∨ 2 - freeM x = 1 ∨ 2 - freeM x = 2) := by
  obtain ⟨_, _, _, _, hp⟩ := lookF_id h
  obtain ⟨j, hj, rfl⟩ := List.getElem_of_mem hx
  have hs := (hp j hj).2
  refine ⟨fun hk => con_some hs hk, ?_⟩
  unfold freeM
  by_cases h4 : l[j].k = 4
  · rw [if_pos h4]
    have := con_few (con_some hs h4)
    omega
  · rw [if_neg h4]
    omega

theorem few_of {l : List StI} (h : (lookF l).e = 0) : Few (manyF l) := by
  intro n hn
  obtain ⟨x, hx, hn⟩ := List.mem_flatMap.1 hn
  rw [manyOf_rep] at hn
  obtain ⟨_, rfl⟩ := List.mem_replicate.1 hn
  exact (few_stmt h hx).2

end Go.Proofs.YtjinaakebjfbiaaGreatDoor
