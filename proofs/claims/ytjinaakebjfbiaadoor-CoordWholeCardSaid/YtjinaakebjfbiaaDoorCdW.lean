/-
  CoordWhole returns true.
-/
import Derived.Test.YtjinaakebjfbiaaDoorCd2
import Derived.Test.YtjinaakebjfbiaaDoorCdP
import Derived.Test.YtjinaakebjfbiaaDoorSm
namespace Go.Proofs.YtjinaakebjfbiaaDoor
open Go.Ab

theorem script_inl {s : List UInt8} {p : Int × Int × Int} (h : scriptF s = .inl p) : p.2.2 ≠ 0 := by
  unfold scriptF at h
  split at h
  · cases h; simp
  split at h
  · cases h; simp
  split at h
  · cases h
  · rename_i he
    cases h
    exact he

/-! Words of a script are no longer than it is. -/

theorem splitC_le (c : UInt8) (l : List UInt8) : ∀ p ∈ splitC c l, p.length ≤ l.length := by
  intro p hp
  have h := splitC_len c l
  have h1 : ∀ (xs : List (List UInt8)), p ∈ xs → p.length + xs.length ≤ (xs.map List.length).sum + xs.length := by
    intro xs hx
    induction xs with
    | nil => cases hx
    | cons y ys ih =>
      simp only [List.map_cons, List.sum_cons, List.length_cons]
      rcases List.mem_cons.1 hx with rfl | hx
      · omega
      · have := ih hx
        omega
  have h2 := h1 _ hp
  have h3 : 0 < (splitC c l).length := List.length_pos_iff.2 (splitC_ne c l)
  omega

theorem wordsG_le (N : Nat) : ∀ (ps : List (List UInt8)) (k : Nat), (∀ p ∈ ps, p.length ≤ N) → ∀ q ∈ wordsG k ps, q.2.length ≤ N
  | [], _, _, q, hq => by cases hq
  | p :: ps, k, h, q, hq => by
    have ih := fun k' => wordsG_le N ps k' fun x hx => h x (List.mem_cons_of_mem _ hx)
    simp only [wordsG] at hq
    split at hq
    · cases hq
    · split at hq
      · exact ih _ q hq
      · rcases List.mem_cons.1 hq with rfl | hq
        · exact h p (List.mem_cons_self ..)
        · exact ih _ q hq

theorem toksF_le (N n : Nat) : ∀ (ws : List (Nat × List UInt8)) (ts : List TokR), toksF n ws = .inr ts → (∀ q ∈ ws, q.2.length ≤ N) → ∀ t ∈ ts, t.w.length ≤ N
  | [], ts, h, _, t, ht => by
    simp only [toksF, Sum.inr.injEq] at h
    subst h
    cases ht
  | (c, w) :: ws, ts, h, hq, t, ht => by
    simp only [toksF] at h
    split at h
    · cases h
    · split at h
      · cases h
      · rename_i _ _ _ _ _ ts' he
        simp only [Sum.inr.injEq] at h
        subst h
        rcases List.mem_cons.1 ht with rfl | ht
        · exact hq (c, w) (List.mem_cons_self ..)
        · exact toksF_le N n ws ts' he (fun q hm => hq q (List.mem_cons_of_mem _ hm)) t ht

theorem linesG_le (N : Nat) : ∀ (ps : List (List UInt8)) (n : Nat) (r : List (List TokR)), linesG n ps = .inr r → (∀ p ∈ ps, p.length ≤ N) → ∀ l ∈ r, ∀ t ∈ l, t.w.length ≤ N
  | [], n, r, h, _, l, hl => by
    simp only [linesG, Sum.inr.injEq] at h
    subst h
    cases hl
  | p :: ps, n, r, h, hp, l, hl => by
    simp only [linesG] at h
    split at h
    · cases h
    · rename_i ts he
      split at h
      · cases h
      · rename_i r' hr
        simp only [Sum.inr.injEq] at h
        have ih := linesG_le N ps (n + 1) r' hr fun q hq => hp q (List.mem_cons_of_mem _ hq)
        have hts := toksF_le N (n + 1) _ ts he (wordsG_le N _ 0 fun q hq => Nat.le_trans (splitC_le 32 p q hq) (hp p (List.mem_cons_self ..)))
        split at h
        · subst h
          exact ih l hl
        · subst h
          rcases List.mem_cons.1 hl with rfl | hl
          · exact hts
          · exact ih l hl

theorem stmtF_new {l : List TokR} {x : StR} (h : stmtF l = .inr x) : x.k = 4 → x.new ∈ l := by
  cases l with
  | nil => simp [stmtF] at h
  | cons t0 r0 =>
    simp only [stmtF] at h
    split at h
    · obtain ⟨t1, r1, rfl, hk1, h⟩ := needK_inr' h
      obtain ⟨t2, r2, rfl, _, h⟩ := needK_inr' h
      obtain ⟨rfl, _⟩ := allK_some h
      exact fun _ => by simp
    split at h
    · cases h
    split at h
    · obtain ⟨rfl, _⟩ := allK_some h
      exact fun h => by simp at h
    split at h
    · obtain ⟨t1, r1, rfl, _, h⟩ := needK_inr' h
      obtain ⟨rfl, ho⟩ := allK_some h
      exact fun h => by simp at h
    split at h
    · obtain ⟨rfl, _⟩ := allK_some h
      exact fun h => by simp at h
    split at h
    · obtain ⟨t1, r1, rfl, _, h⟩ := needK_inr' h
      obtain ⟨rfl, ho⟩ := allK_some h
      exact fun h => by simp at h
    cases h

theorem names_le {s : List UInt8} {a : List StR} (h : parseF s = .inr a) : ∀ n ∈ namesF (a.map StR.up), n.length ≤ s.length := by
  unfold parseF at h
  cases hf : linesF s with
  | inl p => rw [hf] at h; cases h
  | inr r =>
    rw [hf] at h
    simp only at h
    obtain ⟨h1, h2⟩ := parseG_get h
    have hw := linesG_le s.length _ _ _ hf (splitC_le 10 s)
    intro n hn
    obtain ⟨x, hx, hn⟩ := List.mem_flatMap.1 hn
    obtain ⟨y, hy, rfl⟩ := List.mem_map.1 hx
    obtain ⟨i, hi, rfl⟩ := List.getElem_of_mem hy
    have hi' : i < r.length := by omega
    have hs := h2 i hi'
    rw [getD_at hi, getD_at hi'] at hs
    have hl := hw _ (List.getElem_mem hi')
    unfold namesOf at hn
    split at hn
    · obtain ⟨t, ht, rfl⟩ := List.mem_map.1 hn
      obtain ⟨u, hu, rfl⟩ := List.mem_map.1 (show t ∈ (a[i]).args.map TokR.up from ht)
      rw [(stmtF_pl hs).args] at hu
      exact hl u (List.mem_of_mem_drop hu)
    · split at hn
      · rename_i hk
        simp only [List.mem_singleton] at hn
        subst hn
        exact hl _ (stmtF_new hs hk)
      · cases hn

/-- How often each number was seen. -/
def cntV (L : List Int) (m : Nat) : List Int := (List.range m).map fun v : Nat => ((L.count (v : Int) : Nat) : Int)
theorem cntV_len (L : List Int) (m : Nat) : (cntV L m).length = m := by simp [cntV]
theorem cntV_nil (m : Nat) : cntV [] m = List.replicate m 0 := by
  unfold cntV
  refine List.ext_getElem (by simp) fun i h1 h2 => by simp
theorem cntV_get {L : List Int} {m v : Nat} (h : v < m) : (cntV L m).getD v 0 = ((L.count (v : Int) : Nat) : Int) := by
  have h1 : v < (cntV L m).length := by rw [cntV_len]; exact h
  rw [List.getD_eq_getElem?_getD, List.getElem?_eq_getElem h1]
  simp [cntV]
theorem cntV_snoc {L : List Int} {m : Nat} {x : Int} {k : Nat} (hk : x = (k : Int)) (h : k < m) : cntV (L ++ [x]) m = (cntV L m).set k ((cntV L m).getD k 0 + 1) := by
  rw [cntV_get h]
  refine List.ext_getElem (by simp [cntV]) fun i h1 h2 => ?_
  have hi : i < m := by rw [cntV_len] at h1; exact h1
  rw [List.getElem_set]
  simp only [cntV, List.getElem_map, List.getElem_range, List.count_append]
  by_cases e : k = i
  · subst e
    rw [if_pos rfl, hk]
    simp
  · rw [if_neg e, hk]
    have : ([(k : Int)] : List Int).count (i : Int) = 0 := by
      rw [List.count_eq_zero]
      intro hm
      simp at hm
      omega
    rw [this]
    simp

theorem take_pair : ∀ (l : List Int) (i : Nat), 2 * i + 1 < l.length → l.take (2 * (i + 1)) = l.take (2 * i) ++ [((pairsC l).getD i default).1, ((pairsC l).getD i default).2]
  | [], i, h => by simp at h
  | [a], i, h => by simp at h
  | a :: b :: l, 0, _ => by simp [pairsC]
  | a :: b :: l, i + 1, h => by
    have ih := take_pair l i (by simp only [List.length_cons] at h; omega)
    have e1 : 2 * (i + 1 + 1) = 2 * (i + 1) + 1 + 1 := by omega
    have e2 : 2 * (i + 1) = 2 * i + 1 + 1 := by omega
    rw [e1, List.take_succ_cons, List.take_succ_cons, ih, e2, List.take_succ_cons, List.take_succ_cons, pairsC, List.getD_cons_succ]
    simp

theorem mem_pairs : ∀ {l : List Int} {m : Nat} {v : Int}, l.length = 2 * m → v ∈ l → ∃ c ∈ pairsC l, c.1 = v ∨ c.2 = v
  | [], _, _, _, h => by cases h
  | [a], m, _, h, _ => by simp at h; omega
  | a :: b :: l, m, v, hl, h => by
    simp only [List.length_cons] at hl
    rcases List.mem_cons.1 h with rfl | h
    · exact ⟨(v, b), List.mem_cons_self .., .inl rfl⟩
    rcases List.mem_cons.1 h with rfl | h
    · exact ⟨(a, v), List.mem_cons_self .., .inr rfl⟩
    obtain ⟨c, hc, e⟩ := mem_pairs (m := m - 1) (by omega) h
    exact ⟨c, List.mem_cons_of_mem _ hc, e⟩

theorem pairs_mem : ∀ {l : List Int} {c : Int × Int}, c ∈ pairsC l → c.1 ∈ l ∧ c.2 ∈ l
  | [], _, h => by simp [pairsC] at h
  | [a], _, h => by simp [pairsC] at h
  | a :: b :: l, c, h => by
    rw [pairsC] at h
    rcases List.mem_cons.1 h with rfl | h
    · simp
    · obtain ⟨h1, h2⟩ := pairs_mem h
      exact ⟨by simp [h1], by simp [h2]⟩

/-- What is known of a layout of a well formed script. -/
structure CdOk (ns : List (List UInt8)) (L : List Int) (P : Int) : Prop where
  nd : ns.Nodup
  len : L.length = 2 * ns.length
  n40 : ns.length ≤ 40
  p0 : 0 ≤ P
  pv : P ≤ 2 * ns.length
  one : ∀ v : Int, 1 ≤ v → v ≤ 2 * ns.length → L.count v = 1
  bd : ∀ c ∈ pairsC L, 1 ≤ c.1 ∧ c.1 < c.2 ∧ c.2 ≤ 2 * ns.length

theorem CdOk.zero {ns : List (List UInt8)} {L : List Int} {P : Int} (h : CdOk ns L P) : nameF ns (pairsC L) 0 = [] :=
  nameF_none _ _ _ fun c hc => by have := h.bd c hc; omega
theorem CdOk.more {ns : List (List UInt8)} {L : List Int} {P : Int} (h : CdOk ns L P) : nameF ns (pairsC L) (((2 * ns.length : Nat) : Int) + 1) = [] :=
  nameF_none _ _ _ fun c hc => by have := h.bd c hc; omega
theorem CdOk.back {ns : List (List UInt8)} {L : List Int} {P : Int} (h : CdOk ns L P) {v : Int} (h1 : 1 ≤ v) (h2 : v ≤ 2 * ns.length) : findF ns (pairsC L) (nameF ns (pairsC L) v) = v := by
  refine find_name _ _ _ h.nd (pairsC_len _ _ h.len).symm (mem_pairs h.len ?_)
  have := h.one v h1 h2
  exact List.count_pos_iff.1 (by omega)

theorem cdOk_of {l : List StI} (h : (lookF l).e = 0) : CdOk (namesF l) (cel2 (manyF l) 0 (parN (manyF l))) (parN (manyF l)) := by
  obtain ⟨_, _, hnd, h40, _⟩ := lookF_id h
  have hf := few_of h
  have hm := manyF_len l
  have h2 := all_two hf
  have hp := parN_bd (manyF l)
  have hd := depN_bd (manyF l)
  refine ⟨hnd, by rw [cel2_len, hm], h40, hp.1, by omega, fun v h1 hv => ?_, fun c hc => ?_⟩
  · have := cel2_count 0 (parN (manyF l)) v hf
    unfold cnt1 at this
    by_cases hv2 : v ≤ parN (manyF l)
    · rw [if_pos (by omega), if_neg (by omega)] at this
      omega
    · rw [if_neg (by omega), if_pos (by omega)] at this
      omega
  · have := cel2_in hf (Int.le_refl 0) (by omega) c hc
    omega

theorem cntV_put (X : List Int) {m a : Nat} (h : a < m) : (fun j : Nat => AV.int .i64 (if j = a then (cntV X m).getD a 0 + 1 else (cntV X m).getD j 0)) = fun j => AV.int .i64 ((cntV (X ++ [(a : Int)]) m).getD j 0) := by
  rw [cntV_snoc rfl h]
  funext j
  have hl := cntV_len X m
  simp only [List.getD_eq_getElem?_getD, List.getElem?_set]
  by_cases e : j = a
  · subst e
    simp [hl, h]
  · rw [if_neg e, if_neg (fun h => e h.symm)]

theorem at_one (a : Nat) : 0 + ((a : Int)).toNat = a := by simp

theorem cbCdW : Callable Tryd.prog 3 := fun _ _ => by kernel_rfl
set_option maxHeartbeats 6400000 in
set_option maxRecDepth 100000 in
theorem coordWhole_c (s : List UInt8) : PCalls Tryd.prog 3 [.str s] (.bool true) := by
  refine pcalls_of_awp tyok cbCdW Tryd.func3 rfl rfl ?_
  by_cases hs : s.length > 3000
  · have hs' : (s.length : Int) > 3000 := by omega
    repeat (first | refine wKB ?_ | refine awp_seq_k (fun K hK => ?_) | refine areg_text mixed tyok (by decide +kernel) ?_ | refine qal tyok (fun bx => ?_) | refine qbox (fun bx => ?_) | refine qboxV (fun bx => ?_) | refine TR.pcall rfl rfl rfl rfl True.intro rfl rfl (known25_c) ?_ | refine pco rfl rfl rfl rfl rfl rfl rfl rfl (fun _ => known25_c) ?_ | ((repeat ((fail_if_success (refine hK _ _ ?_)); clear hK)); refine hK _ _ ?_; clear hK))
    refine r1 ?_
    exact Sub.refl _
  have hs' : ¬ (s.length : Int) > 3000 := by omega
  have g1 := script22_c s (by omega)
  cases hss : scriptF s with
  | inl p =>
    obtain ⟨p1, p2, p3⟩ := p
    have hp : p3 ≠ 0 := script_inl hss
    rw [hss] at g1
    simp only [scriptV] at g1
    repeat (first | refine wKB ?_ | refine awp_seq_k (fun K hK => ?_) | refine areg_text mixed tyok (by decide +kernel) ?_ | refine qal tyok (fun bx => ?_) | refine qbox (fun bx => ?_) | refine qboxV (fun bx => ?_) | refine TR.pcall rfl rfl rfl rfl True.intro rfl rfl (known25_c) ?_ | refine TR.pcall rfl rfl rfl rfl True.intro rfl rfl (g1) ?_ | refine pco rfl rfl rfl rfl rfl rfl rfl rfl (fun _ => known25_c) ?_ | refine pco rfl rfl rfl rfl rfl rfl rfl rfl (fun _ => g1) ?_ | ((repeat ((fail_if_success (refine hK _ _ ?_)); clear hK)); refine hK _ _ ?_; clear hK))
    refine r1 ?_
    exact Sub.refl _
  | inr r =>
  rw [hss] at g1
  simp only [scriptV] at g1
  obtain ⟨i1, i2, i3⟩ := scriptF_inr hss
  obtain ⟨b1, b2⟩ := scriptF_bd hss
  have hA : ∀ x ∈ r.map StR.up, x.args.length ≤ 10000000000000000 := by
    intro x hx
    obtain ⟨y, hy, rfl⟩ := List.mem_map.1 hx
    have := b2 y hy
    show (y.args.map TokR.up).length ≤ _
    rw [List.length_map]
    omega
  have gv := PCalls.sub (of_view (r.map StR.up) (by rw [List.length_map]; omega) hA i3) (.cons (stmts_up r) .nil)
  have ok := cdOk_of i3
  have hV : parN (manyF (r.map StR.up)) + depN (manyF (r.map StR.up)) = ((2 * (namesF (r.map StR.up)).length : Nat) : Int) := by
    have := all_two (few_of i3)
    rw [manyF_len] at this
    omega
  rw [hV] at gv
  generalize cel2 (manyF (r.map StR.up)) 0 (parN (manyF (r.map StR.up))) = L at gv ok
  generalize parN (manyF (r.map StR.up)) = P at gv ok
  have hwn : ∀ x ∈ namesF (r.map StR.up), x.length ≤ 1000000000000000 := by
    intro x hx
    have := names_le i2 x hx
    omega
  generalize namesF (r.map StR.up) = ns at gv ok hwn
  have hcl := pairsC_len _ _ ok.len
  have o40 := ok.n40
  have op0 := ok.p0
  have opv := ok.pv
  have n0 := name_c ns (pairsC L) P ((2 * ns.length : Nat) : Int) 0 (by omega) (by omega) hwn
  rw [ok.zero] at n0
  have n1 := name_c ns (pairsC L) P ((2 * ns.length : Nat) : Int) (((2 * ns.length : Nat) : Int) + 1) (by omega) (by omega) hwn
  rw [ok.more] at n1
  have hb := ok.bd
  have hgb : ∀ i, i < ns.length → 1 ≤ ((pairsC L).getD i default).1 ∧ ((pairsC L).getD i default).1 < ((pairsC L).getD i default).2 ∧ ((pairsC L).getD i default).2 ≤ 2 * ns.length := fun i hi => hb _ (by rw [getD_at (by omega)]; exact List.getElem_mem _)
  have hgt : ∀ i, i < ns.length → L.take (2 * (i + 1)) = L.take (2 * i) ++ [((pairsC L).getD i default).1, ((pairsC L).getD i default).2] := fun i hi => take_pair L i (by rw [ok.len]; omega)
  have hnb : ∀ v : Nat, 1 ≤ v → v ≤ 2 * ns.length → PCalls Tryd.prog 7 [layV ns (pairsC L) P ((2 * ns.length : Nat) : Int), .int .i64 v] (.str (nameF ns (pairsC L) v)) ∧ PCalls Tryd.prog 8 [layV ns (pairsC L) P ((2 * ns.length : Nat) : Int), .str (nameF ns (pairsC L) v)] (.int .i64 v) := fun v h1 h2 => by
    refine ⟨name_c _ _ _ _ _ (by omega) (by omega) hwn, ?_⟩
    have := find_c ns (pairsC L) P ((2 * ns.length : Nat) : Int) (nameF ns (pairsC L) v) (by omega) (by omega) hwn
    rw [ok.back (by omega) (by omega)] at this
    exact this
  have hlast : ∀ v : Nat, 1 ≤ v → v ≤ 2 * ns.length → (cntV L (2 * ns.length + 1)).getD v 0 = 1 := fun v h1 h2 => by
    rw [cntV_get (by omega), ok.one v (by omega) (by omega)]
    rfl
  have hLt : L.take (2 * ns.length) = L := List.take_of_length_le (by rw [ok.len]; omega)
  generalize hcs : pairsC L = cs at gv hcl n0 n1 hgb hgt hnb
  have hcl' : (cs.length : Int) = ns.length := by omega
  unfold layV at gv n0 n1 hnb
  ((repeat (first | refine wKB ?_ | refine awp_seq_k (fun K hK => ?_) | refine areg_text mixed tyok (by decide +kernel) ?_ | refine TR.pcall rfl rfl rfl rfl True.intro rfl rfl (g1) ?_ | refine TR.pcall rfl rfl rfl rfl True.intro rfl rfl (gv) ?_ | refine TR.pcall rfl rfl rfl rfl True.intro rfl rfl (n0) ?_ | refine TR.pcall rfl rfl rfl rfl True.intro rfl rfl (n1) ?_ | refine pco rfl rfl rfl rfl rfl rfl rfl rfl (fun _ => g1) ?_ | refine pco rfl rfl rfl rfl rfl rfl rfl rfl (fun _ => gv) ?_ | refine pco rfl rfl rfl rfl rfl rfl rfl rfl (fun _ => n0) ?_ | refine pco rfl rfl rfl rfl rfl rfl rfl rfl (fun _ => n1) ?_ | ((repeat ((fail_if_success (refine hK _ _ ?_)); clear hK)); refine hK _ _ ?_; clear hK))); ((first | refine qal tyok (fun b4 => ?_) | refine qbox (fun b4 => ?_) | refine qboxV (fun b4 => ?_))); (repeat (first | refine wKB ?_ | refine awp_seq_k (fun K hK => ?_) | refine areg_text mixed tyok (by decide +kernel) ?_ | refine TR.pcall rfl rfl rfl rfl True.intro rfl rfl (g1) ?_ | refine TR.pcall rfl rfl rfl rfl True.intro rfl rfl (gv) ?_ | refine TR.pcall rfl rfl rfl rfl True.intro rfl rfl (n0) ?_ | refine TR.pcall rfl rfl rfl rfl True.intro rfl rfl (n1) ?_ | refine pco rfl rfl rfl rfl rfl rfl rfl rfl (fun _ => g1) ?_ | refine pco rfl rfl rfl rfl rfl rfl rfl rfl (fun _ => gv) ?_ | refine pco rfl rfl rfl rfl rfl rfl rfl rfl (fun _ => n0) ?_ | refine pco rfl rfl rfl rfl rfl rfl rfl rfl (fun _ => n1) ?_ | ((repeat ((fail_if_success (refine hK _ _ ?_)); clear hK)); refine hK _ _ ?_; clear hK))); ((first | refine qal tyok (fun b6 => ?_) | refine qbox (fun b6 => ?_) | refine qboxV (fun b6 => ?_))); (repeat (first | refine wKB ?_ | refine awp_seq_k (fun K hK => ?_) | refine areg_text mixed tyok (by decide +kernel) ?_ | refine qal tyok (fun bx => ?_) | refine qbox (fun bx => ?_) | refine qboxV (fun bx => ?_) | refine TR.pcall rfl rfl rfl rfl True.intro rfl rfl (g1) ?_ | refine TR.pcall rfl rfl rfl rfl True.intro rfl rfl (gv) ?_ | refine TR.pcall rfl rfl rfl rfl True.intro rfl rfl (n0) ?_ | refine TR.pcall rfl rfl rfl rfl True.intro rfl rfl (n1) ?_ | refine pco rfl rfl rfl rfl rfl rfl rfl rfl (fun _ => g1) ?_ | refine pco rfl rfl rfl rfl rfl rfl rfl rfl (fun _ => gv) ?_ | refine pco rfl rfl rfl rfl rfl rfl rfl rfl (fun _ => n0) ?_ | refine pco rfl rfl rfl rfl rfl rfl rfl rfl (fun _ => n1) ?_ | ((repeat ((fail_if_success (refine hK _ _ ?_)); clear hK)); refine hK _ _ ?_; clear hK))))
  refine qmakeI tyok 1 (m := 2 * ns.length + 1) (ho := rfl) (hti := rfl) (hk := rfl) (hei := rfl) (fun g8 => ?_) ?_
  rotate_left
  · exact ⟨show 8 * (2 * ns.length + 1) ≤ _ by omega, by omega⟩
  rw [Nat.mul_one, ← cntV_nil]
  repeat (first | refine wKB ?_ | refine awp_seq_k (fun K hK => ?_) | refine areg_text mixed tyok (by decide +kernel) ?_ | refine qal tyok (fun bx => ?_) | refine qbox (fun bx => ?_) | refine qboxV (fun bx => ?_) | ((repeat ((fail_if_success (refine hK _ _ ?_)); clear hK)); refine hK _ _ ?_; clear hK))
  refine awp_freeze [_] (s := 6) rfl rfl ?_
  refine (awp_drop ?_ : AWP _ _ _ _ ([_] ++ [_]) _)
  have hclen : ∀ X : List Int, (cntV X (2 * ns.length + 1)).length = 2 * ns.length + 1 := fun X => cntV_len X _
  have hcb : ∀ (X : List Int) (j : Nat), X.length ≤ 100 → j < 2 * ns.length + 1 → 0 ≤ (cntV X (2 * ns.length + 1)).getD j 0 ∧ (cntV X (2 * ns.length + 1)).getD j 0 ≤ 1000 := fun X j hX hj => by
    have := List.count_le_length (a := (j : Int)) (l := X)
    rw [cntV_get hj]
    omega
  have hL := ok.len
  refine awp_loop0 (ι := { i : Nat // i ≤ ns.length })
    (fun i => [(6, .rptr [sl txtE 1 ns .view, sl cooE 2 cs .view, .int .i64 P, .int .i64 ((2 * ns.length : Nat) : Int)]), (8, .mslice g8 0 (2 * ns.length + 1) (2 * ns.length + 1)), (80, sl cooE 2 cs .view), (81, .int .i64 cs.length), (82, .int .i64 i.1)])
    (fun i => [rowI g8 3 (cntV (L.take (2 * i.1)) (2 * ns.length + 1))]) (fun i => ns.length - i.1) ⟨0, Nat.zero_le _⟩ (by (repeat (first | exact True.intro | refine ⟨⟨_, rfl, Sub.refl _⟩, ?_⟩ | refine ⟨⟨_, rfl, Sub.nilso _ _⟩, ?_⟩ | refine ⟨⟨_, rfl, sl_tail _ _ _ _ _⟩, ?_⟩ | refine ⟨⟨_, rfl, Sub.of_eq (by first | rfl | (congr 1; first | omega | (simp only; omega)) | (simp; done) | (simp; omega))⟩, ?_⟩ | refine ⟨⟨_, rfl, Sub.view _ _ _ _⟩, ?_⟩))) ⟨0, rfl⟩ ?_
  · rintro ⟨i, hi⟩
    simp only at hi ⊢
    by_cases hlt : i < ns.length
    · have hlt' : (i : Int) < cs.length := by omega
      have hg := hgb i hlt
      have ht := hgt i hlt
      have htl : (L.take (2 * i)).length ≤ 80 := by rw [List.length_take]; omega
      ((repeat (first | refine wKB ?_ | refine awp_seq_k (fun K hK => ?_) | refine areg_text mixed tyok (by decide +kernel) ?_ | ((repeat ((fail_if_success (refine hK _ _ ?_)); clear hK)); refine hK _ _ ?_; clear hK))); ((first | refine qal tyok (fun b10 => ?_) | refine qbox (fun b10 => ?_) | refine qboxV (fun b10 => ?_))))
      (((repeat (first | refine wT ?_ | refine qal tyok (fun bx => ?_) | refine qbox (fun bx => ?_) | refine qboxV (fun bx => ?_)))); repeat (first | (with_reducible refine pQ_normal ?_) | (with_reducible refine thenQ_normal ?_) | (with_reducible refine blockQ_normal ?_) | (with_reducible refine thenQ_exit ?_) | (with_reducible refine blockQ_hit ?_) | refine blockQ_miss rfl ?_ | (with_reducible refine thenQ_ret ?_) | (with_reducible refine blockQ_ret ?_) | (with_reducible refine pQ_panic ?_) | (with_reducible refine thenQ_panic ?_) | (with_reducible refine blockQ_panic ?_)); ((repeat ((fail_if_success (refine hK _ _ ?_)); clear hK)); refine hK _ _ ?_; clear hK))
      refine awp_boxSub [] (v' := .agg [.int .i64 (cs.getD i default).1, .int .i64 (cs.getD i default).2]) (Sub.of_eq rfl) ?_
      refine awp_freeze [] (s := 10) rfl rfl ?_
      generalize cs.getD i default = c at hg ht ⊢
      obtain ⟨a, ha⟩ : ∃ a : Nat, c.1 = (a : Int) := ⟨c.1.toNat, by omega⟩
      obtain ⟨b, hb⟩ : ∃ b : Nat, c.2 = (b : Int) := ⟨c.2.toNat, by omega⟩
      rw [ha, hb] at hg ht ⊢
      generalize L.take (2 * i) = X at htl ht ⊢
      have hl1 := hclen X
      have hb1 := hcb X (0 + ((a : Int)).toNat) (by omega) (by omega)
      have hb2 := hcb (X ++ [(a : Int)]) b (by rw [List.length_append, List.length_singleton]; omega) (by omega)
      have e2 := cntV_put (X ++ [(a : Int)]) (show b < 2 * ns.length + 1 by omega)
      rw [List.append_assoc, List.singleton_append, ← ht] at e2
      unfold rowI rowM
      rw [hl1]
      repeat (first | refine wKB ?_ | refine awp_seq_k (fun K hK => ?_) | refine areg_text mixed tyok (by decide +kernel) ?_ | refine qal tyok (fun bx => ?_) | refine qbox (fun bx => ?_) | refine qboxV (fun bx => ?_) | ((repeat ((fail_if_success (refine hK _ _ ?_)); clear hK)); refine hK _ _ ?_; clear hK))
      rw [at_one a, at_one b, cntV_put X (show a < 2 * ns.length + 1 by omega)]
      dsimp only
      repeat (first | refine wKB ?_ | refine awp_seq_k (fun K hK => ?_) | refine areg_text mixed tyok (by decide +kernel) ?_ | refine qal tyok (fun bx => ?_) | refine qbox (fun bx => ?_) | refine qboxV (fun bx => ?_) | ((repeat ((fail_if_success (refine hK _ _ ?_)); clear hK)); refine hK _ _ ?_; clear hK))
      rw [at_one b, e2]
      exact ⟨⟨i + 1, hlt⟩, (by (repeat (first | exact True.intro | refine ⟨⟨_, rfl, Sub.refl _⟩, ?_⟩ | refine ⟨⟨_, rfl, Sub.nilso _ _⟩, ?_⟩ | refine ⟨⟨_, rfl, sl_tail _ _ _ _ _⟩, ?_⟩ | refine ⟨⟨_, rfl, Sub.of_eq (by first | rfl | (congr 1; first | omega | (simp only; omega)) | (simp; done) | (simp; omega))⟩, ?_⟩ | refine ⟨⟨_, rfl, Sub.view _ _ _ _⟩, ?_⟩))), ⟨0, by unfold rowI rowM; simp only [hclen, List.drop_zero]⟩, by simp only; omega⟩
    · have hge : ¬ (i : Int) < cs.length := by omega
      obtain rfl : i = ns.length := by omega
      rw [hLt]
      repeat (first | refine wKB ?_ | refine awp_seq_k (fun K hK => ?_) | refine areg_text mixed tyok (by decide +kernel) ?_ | refine qal tyok (fun bx => ?_) | refine qbox (fun bx => ?_) | refine qboxV (fun bx => ?_) | ((repeat ((fail_if_success (refine hK _ _ ?_)); clear hK)); refine hK _ _ ?_; clear hK))
      have hl1 := hclen L
      refine awp_loop0 (ι := { v : Nat // 1 ≤ v ∧ v ≤ 2 * ns.length + 1 })
        (fun v => [(6, .rptr [sl txtE 1 ns .view, sl cooE 2 cs .view, .int .i64 P, .int .i64 ((2 * ns.length : Nat) : Int)]), (8, .mslice g8 0 (2 * ns.length + 1) (2 * ns.length + 1)), (11, .int .i64 v.1)])
        (fun _ => [rowI g8 3 (cntV L (2 * ns.length + 1))]) (fun v => 2 * ns.length + 1 - v.1) ⟨1, by omega⟩ (by (repeat (first | exact True.intro | refine ⟨⟨_, rfl, Sub.refl _⟩, ?_⟩ | refine ⟨⟨_, rfl, Sub.nilso _ _⟩, ?_⟩ | refine ⟨⟨_, rfl, sl_tail _ _ _ _ _⟩, ?_⟩ | refine ⟨⟨_, rfl, Sub.of_eq (by first | rfl | (congr 1; first | omega | (simp only; omega)) | (simp; done) | (simp; omega))⟩, ?_⟩ | refine ⟨⟨_, rfl, Sub.view _ _ _ _⟩, ?_⟩))) ⟨0, rfl⟩ ?_
      rintro ⟨v, hv1, hv2⟩
      simp only at hv1 hv2 ⊢
      by_cases hvl : v ≤ 2 * ns.length
      · have hvl' : (v : Int) ≤ ((2 * ns.length : Nat) : Int) := by omega
        obtain ⟨q1, q2⟩ := hnb v hv1 hvl
        have hl : (cntV L (2 * ns.length + 1)).getD (0 + ((v : Int)).toNat) 0 = 1 := by
          rw [at_one]
          exact hlast v hv1 hvl
        generalize nameF ns cs v = w at q1 q2
        unfold rowI rowM
        repeat (first | refine wKB ?_ | refine awp_seq_k (fun K hK => ?_) | refine qal tyok (fun bx => ?_) | refine qbox (fun bx => ?_) | refine qboxV (fun bx => ?_) | ((repeat ((fail_if_success (refine hK _ _ ?_)); clear hK)); refine hK _ _ ?_; clear hK))
        refine areg_soft mixed tyok [9, 10] [] [0, 1, 2, 3, 4, 5, 6, 7, 8, 9, 10, 11, 12, 13] (by decide +kernel) ?_
        repeat (first | refine wKB ?_ | refine awp_seq_k (fun K hK => ?_) | refine areg_text mixed tyok (by decide +kernel) ?_ | refine qal tyok (fun bx => ?_) | refine qbox (fun bx => ?_) | refine qboxV (fun bx => ?_) | refine TR.pcall rfl rfl rfl rfl True.intro rfl rfl (q1) ?_ | refine TR.pcall rfl rfl rfl rfl True.intro rfl rfl (q2) ?_ | refine pco rfl rfl rfl rfl rfl rfl rfl rfl (fun _ => q1) ?_ | refine pco rfl rfl rfl rfl rfl rfl rfl rfl (fun _ => q2) ?_ | ((repeat ((fail_if_success (refine hK _ _ ?_)); clear hK)); refine hK _ _ ?_; clear hK))
        exact ⟨⟨v + 1, by omega, by omega⟩, (by (repeat (first | exact True.intro | refine ⟨⟨_, rfl, Sub.refl _⟩, ?_⟩ | refine ⟨⟨_, rfl, Sub.nilso _ _⟩, ?_⟩ | refine ⟨⟨_, rfl, sl_tail _ _ _ _ _⟩, ?_⟩ | refine ⟨⟨_, rfl, Sub.of_eq (by first | rfl | (congr 1; first | omega | (simp only; omega)) | (simp; done) | (simp; omega))⟩, ?_⟩ | refine ⟨⟨_, rfl, Sub.view _ _ _ _⟩, ?_⟩))), ⟨0, rfl⟩, by simp only; omega⟩
      · have hvg : ¬ (v : Int) ≤ ((2 * ns.length : Nat) : Int) := by omega
        repeat (first | refine wKB ?_ | refine awp_seq_k (fun K hK => ?_) | refine areg_text mixed tyok (by decide +kernel) ?_ | refine qal tyok (fun bx => ?_) | refine qbox (fun bx => ?_) | refine qboxV (fun bx => ?_) | refine TR.pcall rfl rfl rfl rfl True.intro rfl rfl (known25_c) ?_ | refine pco rfl rfl rfl rfl rfl rfl rfl rfl (fun _ => known25_c) ?_ | ((repeat ((fail_if_success (refine hK _ _ ?_)); clear hK)); refine hK _ _ ?_; clear hK))
        exact fnQ_ret 1 rfl (.tmp rfl .nil) (Sub.refl _) ⟨rfl, rfl⟩

end Go.Proofs.YtjinaakebjfbiaaDoor
