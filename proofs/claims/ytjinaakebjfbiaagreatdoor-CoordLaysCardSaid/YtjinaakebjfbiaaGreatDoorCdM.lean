/-
  Plain law of layer 25: the numbers of points' coordinates; their names.
-/
import Derived.Test.YtjinaakebjfbiaaGreatDoorShM
import Derived.Test.YtjinaakebjfbiaaGreatDoorAb29
import Derived.Test.YtjinaakebjfbiaaGreatDoorAb30
import Derived.Test.YtjinaakebjfbiaaGreatDoorCa
import Derived.Test.YtjinaakebjfbiaaGreatDoorShK
import Derived.Test.YtjinaakebjfbiaaGreatDoorRsM
namespace Go.Proofs.YtjinaakebjfbiaaGreatDoor
open Go.Ab

/-- By how many equations each point is made. -/
noncomputable def manyOf (x : StI) : List Int := if x.k = 3 then x.args.map (fun _ => 0) else if x.k = 4 then [((fig0 (conF x.word.w)).eqs.length : Int)] else []
noncomputable def manyF (l : List StI) : List Int := l.flatMap manyOf

theorem manyOf_len (x : StI) : (manyOf x).length = (namesOf x).length := by
  unfold manyOf namesOf
  split
  · simp
  split <;> rfl

theorem manyF_len : ∀ l : List StI, (manyF l).length = (namesF l).length
  | [] => rfl
  | x :: l => by
    rw [namesF_cons, show manyF (x :: l) = manyOf x ++ manyF l from rfl, List.length_append, List.length_append, manyOf_len, manyF_len l]

def parA (n : Int) : Int := (if n < 2 then 1 else 0) + (if n < 1 then 1 else 0)
def depA (n : Int) : Int := (if n = 2 then 1 else 0) + (if 1 ≤ n then 1 else 0)
def parN (ns : List Int) : Int := (ns.map parA).sum
def depN (ns : List Int) : Int := (ns.map depA).sum

theorem parA_bd (n : Int) : 0 ≤ parA n ∧ parA n ≤ 2 := by
  unfold parA
  split <;> split <;> omega
theorem depA_bd (n : Int) : 0 ≤ depA n ∧ depA n ≤ 2 := by
  unfold depA
  split <;> split <;> omega
theorem parN_snoc (ns : List Int) (n : Int) : parN (ns ++ [n]) = parN ns + parA n := by simp [parN]
theorem depN_snoc (ns : List Int) (n : Int) : depN (ns ++ [n]) = depN ns + depA n := by simp [depN]
theorem parN_bd : ∀ ns : List Int, 0 ≤ parN ns ∧ parN ns ≤ 2 * ns.length
  | [] => by simp [parN]
  | n :: ns => by
    have h1 := parN_bd ns
    have h2 := parA_bd n
    have e : parN (n :: ns) = parA n + parN ns := by simp [parN]
    rw [e]
    simp only [List.length_cons]
    omega
theorem depN_bd : ∀ ns : List Int, 0 ≤ depN ns ∧ depN ns ≤ 2 * ns.length
  | [] => by simp [depN]
  | n :: ns => by
    have h1 := depN_bd ns
    have h2 := depA_bd n
    have e : depN (n :: ns) = depA n + depN ns := by simp [depN]
    rw [e]
    simp only [List.length_cons]
    omega

/-- The cells behind the first pass; behind the second. -/
def cel1 : List Int → Int → List Int
  | [], _ => []
  | n :: ns, p => (if n < 2 then p + 1 else 0) :: (if n < 1 then p + 2 else 0) :: cel1 ns (p + parA n)
def cel2 : List Int → Int → Int → List Int
  | [], _, _ => []
  | n :: ns, p, d => (if n < 2 then p + 1 else if n = 2 then d + 1 else 0) :: (if n < 1 then p + 2 else d + depA n) :: cel2 ns (p + parA n) (d + depA n)

theorem cel1_len : ∀ (ns : List Int) (p : Int), (cel1 ns p).length = 2 * ns.length
  | [], _ => rfl
  | n :: ns, p => by
    simp only [cel1, List.length_cons, cel1_len ns]
    omega
theorem cel2_len : ∀ (ns : List Int) (p d : Int), (cel2 ns p d).length = 2 * ns.length
  | [], _, _ => rfl
  | n :: ns, p, d => by
    simp only [cel2, List.length_cons, cel2_len ns]
    omega
theorem cel1_snoc : ∀ (ns : List Int) (n p : Int), cel1 (ns ++ [n]) p = cel1 ns p ++ [if n < 2 then p + parN ns + 1 else 0, if n < 1 then p + parN ns + 2 else 0]
  | [], n, p => by simp [cel1, parN]
  | m :: ns, n, p => by
    have e : parN (m :: ns) = parA m + parN ns := by simp [parN]
    rw [List.cons_append, cel1, cel1_snoc ns, cel1, e]
    simp only [List.cons_append, Int.add_assoc]
theorem cel2_snoc : ∀ (ns : List Int) (n p d : Int), cel2 (ns ++ [n]) p d = cel2 ns p d ++ [if n < 2 then p + parN ns + 1 else if n = 2 then d + depN ns + 1 else 0, if n < 1 then p + parN ns + 2 else d + depN ns + depA n]
  | [], n, p, d => by simp [cel2, parN, depN]
  | m :: ns, n, p, d => by
    have e : parN (m :: ns) = parA m + parN ns := by simp [parN]
    have e2 : depN (m :: ns) = depA m + depN ns := by simp [depN]
    rw [List.cons_append, cel2, cel2_snoc ns, cel2, e, e2]
    simp only [List.cons_append, Int.add_assoc]

theorem set_one {A R : List Int} {a v : Int} {k : Nat} (h : A.length = k) : (A ++ a :: R).set k v = A ++ v :: R := by
  subst h
  simp
theorem set_two {A R : List Int} {a b v : Int} {k : Nat} (h : A.length = k) : (A ++ a :: b :: R).set (k + 1) v = A ++ a :: v :: R := by
  have e : A ++ a :: b :: R = (A ++ [a]) ++ b :: R := by simp
  rw [e, set_one (by simp [h])]
  simp

/-- Pairs of cells. -/
def pairsC : List Int → List (Int × Int)
  | a :: b :: l => (a, b) :: pairsC l
  | _ => []
def cooE (c : Int × Int) : List AV := [.int .i64 c.1, .int .i64 c.2]

theorem pairsC_len : ∀ (l : List Int) (m : Nat), l.length = 2 * m → (pairsC l).length = m
  | [], m, h => by
    have : m = 0 := by simp only [List.length_nil] at h; omega
    subst this
    rfl
  | [a], m, h => by simp at h; omega
  | a :: b :: l, m, h => by
    simp only [List.length_cons] at h
    simp only [pairsC, List.length_cons]
    rw [pairsC_len l (m - 1) (by omega)]
    omega

theorem pairsC_get : ∀ (l : List Int) (i : Nat), 2 * i + 1 < l.length → (pairsC l).getD i default = (l.getD (2 * i) 0, l.getD (2 * i + 1) 0)
  | [], i, h => by simp at h
  | [a], i, h => by simp at h
  | a :: b :: l, 0, _ => rfl
  | a :: b :: l, i + 1, h => by
    have ih := pairsC_get l i (by simp only [List.length_cons] at h; omega)
    have e : 2 * (i + 1) = 2 * i + 1 + 1 := by omega
    simp only [pairsC, List.getD_cons_succ, e]
    exact ih

/-- Such an array that stands still: its pairs. -/
theorem rowI_view {g m : Nat} {xs : List Int} (h : xs.length = 2 * m) : SubH g xs.length (fun j => .int .i64 (xs.getD j 0)) (.mslice g 0 m m) (sl cooE 2 (pairsC xs) .view) := by
  have e : (pairsC xs).length = m := pairsC_len xs m h
  unfold sl
  rw [e]
  refine SubH.row (by omega) (Nat.le_refl _) (fun _ _ => rfl) fun i j v hi hv => ?_
  rw [pairsC_get xs i (by omega)] at hv
  match j, hv with
  | 0, hv =>
    cases hv
    rw [Nat.mul_comm i 2]
    rfl
  | 1, hv =>
    cases hv
    rw [Nat.mul_comm i 2]
  | j + 2, hv => cases hv

/-! Names. -/

def nameF : List (List UInt8) → List (Int × Int) → Int → List UInt8
  | n :: ns, c :: cs, v => if v = c.1 then 120 :: n else if v = c.2 then 121 :: n else nameF ns cs v
  | _, _, _ => []
def findF : List (List UInt8) → List (Int × Int) → List UInt8 → Int
  | n :: ns, c :: cs, w => if w = 120 :: n then c.1 else if w = 121 :: n then c.2 else findF ns cs w
  | _, _, _ => 0

end Go.Proofs.YtjinaakebjfbiaaGreatDoor

/-
  Layer 25: coord.Of, Name, Find.
-/
namespace Go.Proofs.YtjinaakebjfbiaaGreatDoor
open Go.Ab

def cnE (n : Int) : List AV := [.int .i64 n]

theorem manyF_take {l : List StI} {i : Nat} (h : i < l.length) : manyF (l.take (i + 1)) = manyF (l.take i) ++ manyOf (l.getD i default) := by
  unfold manyF
  rw [List.take_succ_eq_append_getElem h, List.flatMap_append, getD_at h]
  simp
theorem manyF_pre (l : List StI) (i : Nat) : (manyF (l.take i)).length ≤ (manyF l).length := by
  have e : manyF l = manyF (l.take i) ++ manyF (l.drop i) := by
    unfold manyF
    rw [← List.flatMap_append, List.take_append_drop]
  rw [e, List.length_append]
  omega

theorem cbEqn : Callable Tryz.prog 41 := fun _ _ => by kernel_rfl
set_option maxHeartbeats 3200000 in
set_option maxRecDepth 100000 in
theorem coordEqs_c (l : List StI) (hl : l.length ≤ 10000000000000000) (hA : ∀ x ∈ l, x.args.length ≤ 10000000000000000) (hn : (manyF l).length ≤ 1000000) : PCalls Tryz.prog 41 [stmtsI l] (sl cnE 1 (manyF l) .view) := by
  refine pcalls_of_awp tyok cbEqn Tryz.func41 rfl rfl ?_
  repeat (first | refine wK ?_ | refine awp_seq_k (fun K hK => ?_) | refine areg_text mixed tyok (by decide +kernel) ?_ | refine qal tyok (fun bx => ?_) | refine qbox (fun bx => ?_) | refine qboxV (fun bx => ?_) | ((repeat ((fail_if_success (refine hK _ _ ?_)); clear hK)); refine hK _ _ ?_; clear hK))
  refine awp_tok0 1 3 ?_
  refine awp_loop0 (ι := { y : Nat × List Int × Option Addr × Nat // y.1 ≤ l.length ∧ y.2.1 = manyF (l.take y.1) })
    (fun y => [(2, sl cnE 1 y.1.2.1 (.own y.1.2.2.1 y.1.2.2.2)), (7, stmtsI l), (8, .int .i64 l.length), (9, .int .i64 y.1.1)])
    (fun y => [.tok y.1.2.2.1 y.1.2.2.2 y.1.2.1.length 1 3]) (fun y => l.length - y.1.1) ⟨(0, [], none, 0), Nat.zero_le _, rfl⟩ (by (repeat (first | exact True.intro | refine ⟨⟨_, rfl, Sub.refl _⟩, ?_⟩ | refine ⟨⟨_, rfl, Sub.nilso _ _⟩, ?_⟩ | refine ⟨⟨_, rfl, sl_tail _ _ _ _ _⟩, ?_⟩ | refine ⟨⟨_, rfl, Sub.of_eq (by first | rfl | (congr 1; first | omega | (simp only; omega)) | (simp; done) | (simp; omega))⟩, ?_⟩ | refine ⟨⟨_, rfl, Sub.view _ _ _ _⟩, ?_⟩))) (by (first | exact ⟨0, rfl⟩ | exact ⟨1, rfl⟩ | exact ⟨2, rfl⟩ | exact ⟨3, rfl⟩ | exact ⟨4, rfl⟩)) ?_
  rintro ⟨⟨i, xs, a, cap⟩, hi, hxs⟩
  simp only at hi hxs ⊢
  by_cases hlt : i < l.length
  · have hlt' : (i : Int) < l.length := by omega
    have hstep := manyF_take hlt
    have hb := manyF_pre l (i + 1)
    rw [hstep, List.length_append] at hb
    rw [← hxs] at hstep hb
    have hx := hA (l.getD i default) (by rw [getD_at hlt]; exact List.getElem_mem hlt)
    ((repeat (first | refine wKB ?_ | refine awp_seq_k (fun K hK => ?_) | refine areg_text mixed tyok (by decide +kernel) ?_ | ((repeat ((fail_if_success (refine hK _ _ ?_)); clear hK)); refine hK _ _ ?_; clear hK))); ((first | refine qal tyok (fun b4 => ?_) | refine qbox (fun b4 => ?_) | refine qboxV (fun b4 => ?_))))
    (((repeat (first | refine wT ?_ | refine qal tyok (fun bx => ?_) | refine qbox (fun bx => ?_) | refine qboxV (fun bx => ?_)))); repeat (first | (with_reducible refine pQ_normal ?_) | (with_reducible refine thenQ_normal ?_) | (with_reducible refine blockQ_normal ?_) | (with_reducible refine thenQ_exit ?_) | (with_reducible refine blockQ_hit ?_) | refine blockQ_miss rfl ?_ | (with_reducible refine thenQ_ret ?_) | (with_reducible refine blockQ_ret ?_) | (with_reducible refine pQ_panic ?_) | (with_reducible refine thenQ_panic ?_) | (with_reducible refine blockQ_panic ?_)); ((repeat ((fail_if_success (refine hK _ _ ?_)); clear hK)); refine hK _ _ ?_; clear hK))
    refine awp_boxSub [] (v' := .agg (stmtEI (l.getD i default))) (Sub.of_eq rfl) ?_
    generalize l.getD i default = x at hstep hb hx ⊢
    by_cases k3 : x.k = 3
    · have e : manyOf x = x.args.map (fun _ => (0 : Int)) := by unfold manyOf; rw [if_pos k3]
      rw [e] at hstep hb
      rw [List.length_map] at hb
      repeat (first | refine wKB ?_ | refine awp_seq_k (fun K hK => ?_) | refine areg_text mixed tyok (by decide +kernel) ?_ | refine qal tyok (fun bx => ?_) | refine qbox (fun bx => ?_) | refine qboxV (fun bx => ?_) | ((repeat ((fail_if_success (refine hK _ _ ?_)); clear hK)); refine hK _ _ ?_; clear hK))
      refine awp_loop0 (ι := { z : Nat × Option Addr × Nat // z.1 ≤ x.args.length })
        (fun z => [(2, sl cnE 1 (xs ++ List.replicate z.1.1 0) (.own z.1.2.1 z.1.2.2)), (7, stmtsI l), (8, .int .i64 l.length), (9, .int .i64 i), (19, .int .i64 x.args.length), (20, .int .i64 z.1.1)])
        (fun z => [.tok z.1.2.1 z.1.2.2 (xs ++ List.replicate z.1.1 (0 : Int)).length 1 3]) (fun z => x.args.length - z.1.1) ⟨(0, a, cap), Nat.zero_le _⟩ ?_ ?_ ?_
      · simp only [List.replicate_zero, List.append_nil]
        (repeat (first | exact True.intro | refine ⟨⟨_, rfl, Sub.refl _⟩, ?_⟩ | refine ⟨⟨_, rfl, Sub.nilso _ _⟩, ?_⟩ | refine ⟨⟨_, rfl, sl_tail _ _ _ _ _⟩, ?_⟩ | refine ⟨⟨_, rfl, Sub.of_eq (by first | rfl | (congr 1; first | omega | (simp only; omega)) | (simp; done) | (simp; omega))⟩, ?_⟩ | refine ⟨⟨_, rfl, Sub.view _ _ _ _⟩, ?_⟩))
      · simp only [List.replicate_zero, List.append_nil]
        exact ⟨1, rfl⟩
      rintro ⟨⟨k, a2, cap2⟩, hk⟩
      simp only at hk ⊢
      by_cases hkl : k < x.args.length
      · have hkl' : (k : Int) < x.args.length := by omega
        repeat (first | refine wKB ?_ | refine awp_seq_k (fun K hK => ?_) | refine areg_text mixed tyok (by decide +kernel) ?_ | refine qal tyok (fun bx => ?_) | refine qbox (fun bx => ?_) | refine qboxV (fun bx => ?_) | ((repeat ((fail_if_success (refine hK _ _ ?_)); clear hK)); refine hK _ _ ?_; clear hK))
        refine qapp tyok cnE (xs ++ List.replicate k 0) 0 (SubL.refl _) ?_ fun ad cp => ?_
        · simp only [List.length_append, List.length_replicate]
          omega
        have er : xs ++ List.replicate k 0 ++ [(0 : Int)] = xs ++ List.replicate (k + 1) 0 := by rw [List.append_assoc, ← List.replicate_succ']
        rw [er]
        repeat (first | refine wKB ?_ | refine awp_seq_k (fun K hK => ?_) | refine areg_text mixed tyok (by decide +kernel) ?_ | refine qal tyok (fun bx => ?_) | refine qbox (fun bx => ?_) | refine qboxV (fun bx => ?_) | ((repeat ((fail_if_success (refine hK _ _ ?_)); clear hK)); refine hK _ _ ?_; clear hK))
        exact ⟨⟨(k + 1, ad, cp), hkl⟩, (by (repeat (first | exact True.intro | refine ⟨⟨_, rfl, Sub.refl _⟩, ?_⟩ | refine ⟨⟨_, rfl, Sub.nilso _ _⟩, ?_⟩ | refine ⟨⟨_, rfl, sl_tail _ _ _ _ _⟩, ?_⟩ | refine ⟨⟨_, rfl, Sub.of_eq (by first | rfl | (congr 1; first | omega | (simp only; omega)) | (simp; done) | (simp; omega))⟩, ?_⟩ | refine ⟨⟨_, rfl, Sub.view _ _ _ _⟩, ?_⟩))), (by (first | exact ⟨0, rfl⟩ | exact ⟨1, rfl⟩ | exact ⟨2, rfl⟩ | exact ⟨3, rfl⟩ | exact ⟨4, rfl⟩)), by simp only; omega⟩
      · have hkg : ¬ (k : Int) < x.args.length := by omega
        obtain rfl : k = x.args.length := by omega
        have er : xs ++ List.replicate x.args.length (0 : Int) = manyF (l.take (i + 1)) := by
          rw [hstep, List.map_const']
        rw [er]
        repeat (first | refine wKB ?_ | refine awp_seq_k (fun K hK => ?_) | refine areg_text mixed tyok (by decide +kernel) ?_ | refine qal tyok (fun bx => ?_) | refine qbox (fun bx => ?_) | refine qboxV (fun bx => ?_) | ((repeat ((fail_if_success (refine hK _ _ ?_)); clear hK)); refine hK _ _ ?_; clear hK))
        exact ⟨⟨(i + 1, _, a2, cap2), hlt, rfl⟩, (by (repeat (first | exact True.intro | refine ⟨⟨_, rfl, Sub.refl _⟩, ?_⟩ | refine ⟨⟨_, rfl, Sub.nilso _ _⟩, ?_⟩ | refine ⟨⟨_, rfl, sl_tail _ _ _ _ _⟩, ?_⟩ | refine ⟨⟨_, rfl, Sub.of_eq (by first | rfl | (congr 1; first | omega | (simp only; omega)) | (simp; done) | (simp; omega))⟩, ?_⟩ | refine ⟨⟨_, rfl, Sub.view _ _ _ _⟩, ?_⟩))), (by (first | exact ⟨0, rfl⟩ | exact ⟨1, rfl⟩ | exact ⟨2, rfl⟩ | exact ⟨3, rfl⟩ | exact ⟨4, rfl⟩)), by simp only; omega⟩
    by_cases k4 : x.k = 4
    · have e : manyOf x = [((fig0 (conF x.word.w)).eqs.length : Int)] := by unfold manyOf; rw [if_neg k3, if_pos k4]
      rw [e] at hstep hb
      have g := construction_c x.word.w
      rw [figV_eq] at g
      ((repeat (first | refine wKB ?_ | refine awp_seq_k (fun K hK => ?_) | refine areg_text mixed tyok (by decide +kernel) ?_ | refine TR.pcall rfl rfl rfl rfl True.intro rfl rfl (g) ?_ | refine pco rfl rfl rfl rfl rfl rfl rfl rfl (fun _ => g) ?_ | ((repeat ((fail_if_success (refine hK _ _ ?_)); clear hK)); refine hK _ _ ?_; clear hK))); ((first | refine qal tyok (fun b5 => ?_) | refine qbox (fun b5 => ?_) | refine qboxV (fun b5 => ?_))); (repeat (first | refine wKB ?_ | refine awp_seq_k (fun K hK => ?_) | refine areg_text mixed tyok (by decide +kernel) ?_ | refine qal tyok (fun bx => ?_) | refine qbox (fun bx => ?_) | refine qboxV (fun bx => ?_) | refine TR.pcall rfl rfl rfl rfl True.intro rfl rfl (g) ?_ | refine pco rfl rfl rfl rfl rfl rfl rfl rfl (fun _ => g) ?_ | ((repeat ((fail_if_success (refine hK _ _ ?_)); clear hK)); refine hK _ _ ?_; clear hK))))
      refine qapp tyok cnE xs ((fig0 (conF x.word.w)).eqs.length : Int) (SubL.refl _) ?_ fun ad cp => ?_
      · simp only
        simp only [List.length_cons, List.length_nil] at hb
        omega
      rw [← hstep]
      repeat (first | refine wKB ?_ | refine awp_seq_k (fun K hK => ?_) | refine areg_text mixed tyok (by decide +kernel) ?_ | refine qal tyok (fun bx => ?_) | refine qbox (fun bx => ?_) | refine qboxV (fun bx => ?_) | ((repeat ((fail_if_success (refine hK _ _ ?_)); clear hK)); refine hK _ _ ?_; clear hK))
      exact ⟨⟨(i + 1, _, ad, cp), hlt, rfl⟩, (by (repeat (first | exact True.intro | refine ⟨⟨_, rfl, Sub.refl _⟩, ?_⟩ | refine ⟨⟨_, rfl, Sub.nilso _ _⟩, ?_⟩ | refine ⟨⟨_, rfl, sl_tail _ _ _ _ _⟩, ?_⟩ | refine ⟨⟨_, rfl, Sub.of_eq (by first | rfl | (congr 1; first | omega | (simp only; omega)) | (simp; done) | (simp; omega))⟩, ?_⟩ | refine ⟨⟨_, rfl, Sub.view _ _ _ _⟩, ?_⟩))), (by (first | exact ⟨0, rfl⟩ | exact ⟨1, rfl⟩ | exact ⟨2, rfl⟩ | exact ⟨3, rfl⟩ | exact ⟨4, rfl⟩)), by simp only; omega⟩
    · have e : manyOf x = [] := by unfold manyOf; rw [if_neg k3, if_neg k4]
      rw [e, List.append_nil] at hstep
      repeat (first | refine wKB ?_ | refine awp_seq_k (fun K hK => ?_) | refine areg_text mixed tyok (by decide +kernel) ?_ | refine qal tyok (fun bx => ?_) | refine qbox (fun bx => ?_) | refine qboxV (fun bx => ?_) | ((repeat ((fail_if_success (refine hK _ _ ?_)); clear hK)); refine hK _ _ ?_; clear hK))
      exact ⟨⟨(i + 1, xs, a, cap), hlt, hstep.symm⟩, (by (repeat (first | exact True.intro | refine ⟨⟨_, rfl, Sub.refl _⟩, ?_⟩ | refine ⟨⟨_, rfl, Sub.nilso _ _⟩, ?_⟩ | refine ⟨⟨_, rfl, sl_tail _ _ _ _ _⟩, ?_⟩ | refine ⟨⟨_, rfl, Sub.of_eq (by first | rfl | (congr 1; first | omega | (simp only; omega)) | (simp; done) | (simp; omega))⟩, ?_⟩ | refine ⟨⟨_, rfl, Sub.view _ _ _ _⟩, ?_⟩))), ⟨1, rfl⟩, by simp only; omega⟩
  · have hge : ¬ (i : Int) < l.length := by omega
    obtain rfl : i = l.length := by omega
    rw [List.take_length] at hxs
    subst hxs
    repeat (first | refine wKB ?_ | refine awp_seq_k (fun K hK => ?_) | refine areg_text mixed tyok (by decide +kernel) ?_ | refine qal tyok (fun bx => ?_) | refine qbox (fun bx => ?_) | refine qboxV (fun bx => ?_) | ((repeat ((fail_if_success (refine hK _ _ ?_)); clear hK)); refine hK _ _ ?_; clear hK))
    refine r1 ?_
    exact Sub.view _ _ _ _

/-- A layout that is made: its box, its array. -/
def cdH (bx g : Nat) (nv : AV) (n : Nat) (p v : Int) (xs : List Int) : AHeap := [.box bx 26 (.agg [nv, .mslice g 0 n n, .int .i64 p, .int .i64 v]), rowI g 34 xs]

theorem cbNum25 : Callable Tryz.prog 42 := fun _ _ => by kernel_rfl
set_option maxHeartbeats 1600000 in
set_option maxRecDepth 100000 in
theorem cdNum_c (bx g : Nat) (nv : AV) (n : Nat) (p v : Int) (xs : List Int) (j : Nat) (hj : j < xs.length) (hv : 0 ≤ v ∧ v ≤ 1000000000) :
    ACalls Tryz.prog 42 [.ptr g j, .ptr bx 0] (cdH bx g nv n p v xs) (fun r H' => r = .ret (.tuple []) ∧ H' = cdH bx g nv n p (v + 1) (xs.set j (v + 1))) := by
  refine acalls_of_awp tyok cbNum25 Tryz.func42 rfl rfl ?_
  have e := rowI_put (g := g) (t := 34) (v := v + 1) hj
  unfold cdH
  rw [← e]
  unfold rowI rowM
  repeat (first | refine wKB ?_ | refine awp_seq_k (fun K hK => ?_) | refine areg_text mixed tyok (by decide +kernel) ?_ | refine qal tyok (fun bx => ?_) | refine qbox (fun bx => ?_) | refine qboxV (fun bx => ?_) | ((repeat ((fail_if_success (refine hK _ _ ?_)); clear hK)); refine hK _ _ ?_; clear hK))
  exact fnQ_ret 0 rfl .nil (Sub.refl _) ⟨rfl, rfl⟩

theorem take_one {ms : List Int} {i : Nat} (h : i < ms.length) : ms.take (i + 1) = ms.take i ++ [ms.getD i default] := by
  rw [List.take_succ_eq_append_getElem h, getD_at h]

theorem drop_one {ms : List Int} {i : Nat} (h : i < ms.length) : ms.drop i = ms.getD i default :: ms.drop (i + 1) := by
  rw [List.drop_eq_getElem_cons h, getD_at h]

/-- The cells while the first pass goes on. -/
def mid1 (ms : List Int) (i : Nat) : List Int := cel1 (ms.take i) 0 ++ List.replicate ((ms.length - i) * 2) 0
theorem mid1_len {ms : List Int} {i : Nat} (h : i ≤ ms.length) : (mid1 ms i).length = ms.length * 2 := by
  unfold mid1
  rw [List.length_append, cel1_len, List.length_replicate, List.length_take]
  omega
theorem mid1_zero (ms : List Int) : mid1 ms 0 = List.replicate (ms.length * 2) 0 := by simp [mid1, cel1]
theorem mid1_at {ms : List Int} {i : Nat} (h : i < ms.length) : mid1 ms i = cel1 (ms.take i) 0 ++ 0 :: 0 :: List.replicate ((ms.length - (i + 1)) * 2) 0 := by
  unfold mid1
  rw [show (ms.length - i) * 2 = (ms.length - (i + 1)) * 2 + 1 + 1 by omega, List.replicate_succ, List.replicate_succ]
theorem mid1_next {ms : List Int} {i : Nat} (h : i < ms.length) : mid1 ms (i + 1) = cel1 (ms.take i) 0 ++ (if ms.getD i default < 2 then parN (ms.take i) + 1 else 0) :: (if ms.getD i default < 1 then parN (ms.take i) + 2 else 0) :: List.replicate ((ms.length - (i + 1)) * 2) 0 := by
  unfold mid1
  rw [take_one h, cel1_snoc]
  simp
theorem cel1_at {ms : List Int} {i : Nat} (h : i < ms.length) : (cel1 (ms.take i) 0).length = i * 2 := by
  rw [cel1_len, List.length_take]
  omega

/-- The cells while the second pass goes on. -/
def mid2 (ms : List Int) (i : Nat) : List Int := cel2 (ms.take i) 0 (parN ms) ++ cel1 (ms.drop i) (parN (ms.take i))
theorem mid2_len {ms : List Int} {i : Nat} (h : i ≤ ms.length) : (mid2 ms i).length = ms.length * 2 := by
  unfold mid2
  rw [List.length_append, cel2_len, cel1_len, List.length_take, List.length_drop]
  omega
theorem mid2_zero (ms : List Int) : mid2 ms 0 = mid1 ms ms.length := by simp [mid1, mid2, cel2, parN]
theorem mid2_at {ms : List Int} {i : Nat} (h : i < ms.length) : mid2 ms i = cel2 (ms.take i) 0 (parN ms) ++ (if ms.getD i default < 2 then parN (ms.take i) + 1 else 0) :: (if ms.getD i default < 1 then parN (ms.take i) + 2 else 0) :: cel1 (ms.drop (i + 1)) (parN (ms.take (i + 1))) := by
  unfold mid2
  rw [drop_one h, take_one h, parN_snoc]
  rfl
theorem mid2_next {ms : List Int} {i : Nat} (h : i < ms.length) : mid2 ms (i + 1) = cel2 (ms.take i) 0 (parN ms) ++ (if ms.getD i default < 2 then parN (ms.take i) + 1 else if ms.getD i default = 2 then parN ms + depN (ms.take i) + 1 else 0) ::
    (if ms.getD i default < 1 then parN (ms.take i) + 2 else parN ms + depN (ms.take i) + depA (ms.getD i default)) :: cel1 (ms.drop (i + 1)) (parN (ms.take (i + 1))) := by
  unfold mid2
  rw [take_one h, cel2_snoc]
  simp
theorem cel2_at {ms : List Int} {i : Nat} (h : i < ms.length) (p d : Int) : (cel2 (ms.take i) p d).length = i * 2 := by
  rw [cel2_len, List.length_take]
  omega
theorem mid2_end (ms : List Int) : mid2 ms ms.length = cel2 ms 0 (parN ms) := by simp [mid2, cel1]

theorem cbCdOf : Callable Tryz.prog 14 := fun _ _ => by kernel_rfl
set_option maxHeartbeats 1600000 in
set_option maxRecDepth 100000 in
theorem of_no (l : List StI) (hl : l.length ≤ 10000000000000000) (hA : ∀ x ∈ l, x.args.length ≤ 10000000000000000) (h : (lookF l).e ≠ 0) :
    PCalls Tryz.prog 14 [stmtsI l] (.tuple [.agg [sl txtE 1 [] .view, sl cooE 2 [] .view, .int .i64 0, .int .i64 0], .int .i64 (lookF l).e]) := by
  refine pcalls_of_awp tyok cbCdOf Tryz.func14 rfl rfl ?_
  have g := check_c l hl hA
  ((repeat (first | refine wKB ?_ | refine awp_seq_k (fun K hK => ?_) | refine areg_text mixed tyok (by decide +kernel) ?_ | refine TR.pcall rfl rfl rfl rfl True.intro rfl rfl (g) ?_ | refine pco rfl rfl rfl rfl rfl rfl rfl rfl (fun _ => g) ?_ | ((repeat ((fail_if_success (refine hK _ _ ?_)); clear hK)); refine hK _ _ ?_; clear hK))); ((first | refine qal tyok (fun b2 => ?_) | refine qbox (fun b2 => ?_) | refine qboxV (fun b2 => ?_))); (repeat (first | refine wKB ?_ | refine awp_seq_k (fun K hK => ?_) | refine areg_text mixed tyok (by decide +kernel) ?_ | refine TR.pcall rfl rfl rfl rfl True.intro rfl rfl (g) ?_ | refine pco rfl rfl rfl rfl rfl rfl rfl rfl (fun _ => g) ?_ | ((repeat ((fail_if_success (refine hK _ _ ?_)); clear hK)); refine hK _ _ ?_; clear hK))); ((first | refine qal tyok (fun b4 => ?_) | refine qbox (fun b4 => ?_) | refine qboxV (fun b4 => ?_))); (repeat (first | refine wKB ?_ | refine awp_seq_k (fun K hK => ?_) | refine areg_text mixed tyok (by decide +kernel) ?_ | refine qal tyok (fun bx => ?_) | refine qbox (fun bx => ?_) | refine qboxV (fun bx => ?_) | refine TR.pcall rfl rfl rfl rfl True.intro rfl rfl (g) ?_ | refine pco rfl rfl rfl rfl rfl rfl rfl rfl (fun _ => g) ?_ | ((repeat ((fail_if_success (refine hK _ _ ?_)); clear hK)); refine hK _ _ ?_; clear hK))))
  refine fnQ_ret 2 rfl (.cell rfl rfl (List.mem_of_getElem? (i := 1) rfl) rfl trivial (.tmp rfl .nil)) (Sub.tuple2 (subAgg (.cons (Sub.nilsv _ _) (.cons (Sub.nilsv _ _) (.cons (Sub.refl _) (.cons (Sub.refl _) .nil))))) (Sub.refl _)) ⟨rfl, rfl⟩

set_option maxHeartbeats 6400000 in
set_option maxRecDepth 100000 in
theorem of_c (l : List StI) (hl : l.length ≤ 10000000000000000) (hA : ∀ x ∈ l, x.args.length ≤ 10000000000000000) (h : (lookF l).e = 0) :
    ACalls Tryz.prog 14 [stmtsI l] [] fun r H' => ∃ g, r = .ret (.tuple [.agg [sl txtE 1 (namesF l) .view, .mslice g 0 (manyF l).length (manyF l).length, .int .i64 (parN (manyF l)), .int .i64 (parN (manyF l) + depN (manyF l))], .int .i64 0]) ∧ H' = [rowI g 34 (cel2 (manyF l) 0 (parN (manyF l)))] := by
  refine acalls_of_awp tyok cbCdOf Tryz.func14 rfl rfl ?_
  have g := check_c l hl hA
  obtain ⟨n3, hlk, _, h40, _⟩ := lookF_id h
  rw [h] at g
  have gp := shpoints_c l hl hA
  rw [if_pos h, hlk] at gp
  have hml : (manyF l).length ≤ 40 := by rw [manyF_len]; exact h40
  have ge := coordEqs_c l hl hA (by omega)
  generalize manyF l = ms at hml ge ⊢
  generalize namesF l = ns at gp ⊢
  ((repeat (first | refine wKB ?_ | refine awp_seq_k (fun K hK => ?_) | refine TR.pcall rfl rfl rfl rfl True.intro rfl rfl (g) ?_ | refine TR.pcall rfl rfl rfl rfl True.intro rfl rfl (ge) ?_ | refine pco rfl rfl rfl rfl rfl rfl rfl rfl (fun _ => g) ?_ | refine pco rfl rfl rfl rfl rfl rfl rfl rfl (fun _ => ge) ?_ | ((repeat ((fail_if_success (refine hK _ _ ?_)); clear hK)); refine hK _ _ ?_; clear hK))); ((first | refine qal tyok (fun b2 => ?_) | refine qbox (fun b2 => ?_) | refine qboxV (fun b2 => ?_))); (repeat (first | refine wKB ?_ | refine awp_seq_k (fun K hK => ?_) | refine TR.pcall rfl rfl rfl rfl True.intro rfl rfl (g) ?_ | refine TR.pcall rfl rfl rfl rfl True.intro rfl rfl (ge) ?_ | refine pco rfl rfl rfl rfl rfl rfl rfl rfl (fun _ => g) ?_ | refine pco rfl rfl rfl rfl rfl rfl rfl rfl (fun _ => ge) ?_ | ((repeat ((fail_if_success (refine hK _ _ ?_)); clear hK)); refine hK _ _ ?_; clear hK))); ((first | refine qal tyok (fun b4 => ?_) | refine qbox (fun b4 => ?_) | refine qboxV (fun b4 => ?_))); (repeat (first | refine wKB ?_ | refine awp_seq_k (fun K hK => ?_) | refine qal tyok (fun bx => ?_) | refine qbox (fun bx => ?_) | refine qboxV (fun bx => ?_) | refine TR.pcall rfl rfl rfl rfl True.intro rfl rfl (g) ?_ | refine TR.pcall rfl rfl rfl rfl True.intro rfl rfl (ge) ?_ | refine pco rfl rfl rfl rfl rfl rfl rfl rfl (fun _ => g) ?_ | refine pco rfl rfl rfl rfl rfl rfl rfl rfl (fun _ => ge) ?_ | ((repeat ((fail_if_success (refine hK _ _ ?_)); clear hK)); refine hK _ _ ?_; clear hK))))
  refine (have hr : ∀ b7 g7 T' H', Weak T' [(2, .ptr b2 0), (6, sl cnE 1 ms .view), (7, .ptr b7 0)] →
    List.Perm H' [.box b4 39 (.agg [.int .i64 (lookF l).ln, .int .i64 (lookF l).co]), .box b2 26 (.agg [.nils, .nils, .int .i64 0, .int .i64 0]), .box b7 26 (.agg [sl txtE 1 ns .view, .mslice g7 0 ms.length ms.length, .int .i64 0, .int .i64 0]), rowI g7 34 (List.replicate (ms.length * 2) 0)] → K T' H' := fun b7 g7 => cutKP hK ?_; ?_)
  rotate_left
  · clear hK
    refine areg_any mixed tyok [0, 2, 3] [1, 4, 5, 6] [7] (by decide +kernel) (by decide +kernel) ?_
    repeat (first | refine wK ?_ | refine awp_seq_k (fun K hK => ?_) | refine areg_text mixed tyok (by decide +kernel) ?_ | refine qal tyok (fun bx => ?_) | refine qbox (fun bx => ?_) | refine qboxV (fun bx => ?_) | ((repeat ((fail_if_success (refine hK _ _ ?_)); clear hK)); refine hK _ _ ?_; clear hK))
    intro a ha hrd
    first
      | have ha' : a ∈ ([1, 4, 5, 6] : List Nat) := ha
    simp only [List.mem_cons, List.mem_nil_iff, or_false] at ha'
    rcases ha' with rfl | rfl | rfl | rfl
    all_goals try exact absurd (ancB_spec (by decide +kernel)) (hrd 1 (by decide))
    all_goals try exact absurd (ancB_spec (by decide +kernel)) (hrd 4 (by decide))
    all_goals
      first
        | refine .inl ⟨rfl, one_pcall rfl rfl rfl rfl True.intro rfl rfl gp ?_⟩
        | refine .inl ⟨rfl, one_makeI tyok 2 rfl rfl rfl rfl True.intro rfl rfl rfl rfl (by decide) rfl rfl rfl ⟨show 16 * ms.length ≤ _ by omega, by omega⟩ fun g7 => ?_⟩
        | refine .inl ⟨rfl, one_alloc tyok rfl rfl rfl rfl rfl fun b7 => ?_⟩
        | (refine .inr ⟨rfl, ?_⟩; repeat (first | refine wK ?_ | refine awp_seq_k (fun K hK => ?_) | refine areg_text mixed tyok (by decide +kernel) ?_ | refine qal tyok (fun bx => ?_) | refine qbox (fun bx => ?_) | refine qboxV (fun bx => ?_) | ((repeat ((fail_if_success (refine hK _ _ ?_)); clear hK)); refine hK _ _ ?_; clear hK)))
      intro a ha hrd
      first
        | have ha' : a ∈ ([4, 5, 6] : List Nat) := ha
        | have ha' : a ∈ ([1, 5, 6] : List Nat) := ha
        | have ha' : a ∈ ([1, 4, 5] : List Nat) := ha
      simp only [List.mem_cons, List.mem_nil_iff, or_false] at ha'
      rcases ha' with rfl | rfl | rfl
      all_goals try exact absurd (ancB_spec (by decide +kernel)) (hrd 1 (by decide))
      all_goals try exact absurd (ancB_spec (by decide +kernel)) (hrd 4 (by decide))
      all_goals
        first
          | refine .inl ⟨rfl, one_pcall rfl rfl rfl rfl True.intro rfl rfl gp ?_⟩
          | refine .inl ⟨rfl, one_makeI tyok 2 rfl rfl rfl rfl True.intro rfl rfl rfl rfl (by decide) rfl rfl rfl ⟨show 16 * ms.length ≤ _ by omega, by omega⟩ fun g7 => ?_⟩
          | refine .inl ⟨rfl, one_alloc tyok rfl rfl rfl rfl rfl fun b7 => ?_⟩
          | (refine .inr ⟨rfl, ?_⟩; repeat (first | refine wK ?_ | refine awp_seq_k (fun K hK => ?_) | refine areg_text mixed tyok (by decide +kernel) ?_ | refine qal tyok (fun bx => ?_) | refine qbox (fun bx => ?_) | refine qboxV (fun bx => ?_) | ((repeat ((fail_if_success (refine hK _ _ ?_)); clear hK)); refine hK _ _ ?_; clear hK)))
        intro a ha hrd
        first
          | have ha' : a ∈ ([5, 6] : List Nat) := ha
          | have ha' : a ∈ ([4, 5] : List Nat) := ha
          | have ha' : a ∈ ([1, 5] : List Nat) := ha
          | have ha' : a ∈ ([1, 6] : List Nat) := ha
          | have ha' : a ∈ ([4, 6] : List Nat) := ha
        simp only [List.mem_cons, List.mem_nil_iff, or_false] at ha'
        rcases ha' with rfl | rfl
        all_goals try exact absurd (ancB_spec (by decide +kernel)) (hrd 1 (by decide))
        all_goals try exact absurd (ancB_spec (by decide +kernel)) (hrd 4 (by decide))
        all_goals
          first
            | refine .inl ⟨rfl, one_pcall rfl rfl rfl rfl True.intro rfl rfl gp ?_⟩
            | refine .inl ⟨rfl, one_makeI tyok 2 rfl rfl rfl rfl True.intro rfl rfl rfl rfl (by decide) rfl rfl rfl ⟨show 16 * ms.length ≤ _ by omega, by omega⟩ fun g7 => ?_⟩
            | refine .inl ⟨rfl, one_alloc tyok rfl rfl rfl rfl rfl fun b7 => ?_⟩
            | (refine .inr ⟨rfl, ?_⟩; repeat (first | refine wK ?_ | refine awp_seq_k (fun K hK => ?_) | refine areg_text mixed tyok (by decide +kernel) ?_ | refine qal tyok (fun bx => ?_) | refine qbox (fun bx => ?_) | refine qboxV (fun bx => ?_) | ((repeat ((fail_if_success (refine hK _ _ ?_)); clear hK)); refine hK _ _ ?_; clear hK)))
          intro a ha hrd
          first
            | have ha' : a ∈ ([6] : List Nat) := ha
            | have ha' : a ∈ ([5] : List Nat) := ha
          simp only [List.mem_cons, List.mem_nil_iff, or_false] at ha'
          subst ha'
          first
            | refine .inl ⟨rfl, one_pcall rfl rfl rfl rfl True.intro rfl rfl gp ?_⟩
            | refine .inl ⟨rfl, one_makeI tyok 2 rfl rfl rfl rfl True.intro rfl rfl rfl rfl (by decide) rfl rfl rfl ⟨show 16 * ms.length ≤ _ by omega, by omega⟩ fun g7 => ?_⟩
            | refine .inl ⟨rfl, one_alloc tyok rfl rfl rfl rfl rfl fun b7 => ?_⟩
            | (refine .inr ⟨rfl, ?_⟩; repeat (first | refine wK ?_ | refine awp_seq_k (fun K hK => ?_) | refine areg_text mixed tyok (by decide +kernel) ?_ | refine qal tyok (fun bx => ?_) | refine qbox (fun bx => ?_) | refine qboxV (fun bx => ?_) | ((repeat ((fail_if_success (refine hK _ _ ?_)); clear hK)); refine hK _ _ ?_; clear hK)))
          refine allx_zero ?_
          repeat (first | refine wK ?_ | refine awp_seq_k (fun K hK => ?_) | refine areg_text mixed tyok (by decide +kernel) ?_ | refine qal tyok (fun bx => ?_) | refine qbox (fun bx => ?_) | refine qboxV (fun bx => ?_) | ((repeat ((fail_if_success (refine hK _ _ ?_)); clear hK)); refine hK _ _ ?_; clear hK))
          refine hr b7 g7 _ _ ?_ ?_
          · (repeat (first | exact True.intro | refine ⟨⟨_, rfl, Sub.refl _⟩, ?_⟩ | refine ⟨⟨_, rfl, Sub.nilso _ _⟩, ?_⟩ | refine ⟨⟨_, rfl, sl_tail _ _ _ _ _⟩, ?_⟩ | refine ⟨⟨_, rfl, Sub.of_eq (by first | rfl | (congr 1; first | omega | (simp only; omega)) | (simp; done) | (simp; omega))⟩, ?_⟩ | refine ⟨⟨_, rfl, Sub.view _ _ _ _⟩, ?_⟩))
          · first
              | exact List.perm_append_comm (l₁ := [_, _]) (l₂ := [_, _])
              | exact (List.perm_append_comm (l₁ := [_, _]) (l₂ := [_, _])).trans (.cons _ (.cons _ (.swap _ _ _)))
  clear hK
  have hnum : ∀ (p v : Int) (xs : List Int) (j : Nat), j < xs.length → 0 ≤ v ∧ v ≤ 1000000000 → ACalls Tryz.prog 42 [.ptr g7 j, .ptr b7 0] (cdH b7 g7 (sl txtE 1 ns .view) ms.length p v xs) (fun r H' => r = .ret (.tuple []) ∧ H' = cdH b7 g7 (sl txtE 1 ns .view) ms.length p (v + 1) (xs.set j (v + 1))) :=
    fun p v xs j hj hv => cdNum_c b7 g7 _ _ p v xs j hj hv
  repeat (first | refine wKB ?_ | refine awp_seq_k (fun K hK => ?_) | refine areg_text mixed tyok (by decide +kernel) ?_ | refine qal tyok (fun bx => ?_) | refine qbox (fun bx => ?_) | refine qboxV (fun bx => ?_) | ((repeat ((fail_if_success (refine hK _ _ ?_)); clear hK)); refine hK _ _ ?_; clear hK))
  refine awp_loop0 (ι := { i : Nat // i ≤ ms.length })
    (fun i => [(2, .ptr b2 0), (6, sl cnE 1 ms .view), (7, .ptr b7 0), (8, .func (.func 42) [] [.ptr b7 0]), (31, sl cnE 1 ms .view), (32, .int .i64 ms.length), (33, .int .i64 i.1)])
    (fun i => .box b2 26 (.agg [.nils, .nils, .int .i64 0, .int .i64 0]) :: cdH b7 g7 (sl txtE 1 ns .view) ms.length 0 (parN (ms.take i.1)) (mid1 ms i.1)) (fun i => ms.length - i.1) ⟨0, Nat.zero_le _⟩ (by (repeat (first | exact True.intro | refine ⟨⟨_, rfl, Sub.refl _⟩, ?_⟩ | refine ⟨⟨_, rfl, Sub.nilso _ _⟩, ?_⟩ | refine ⟨⟨_, rfl, sl_tail _ _ _ _ _⟩, ?_⟩ | refine ⟨⟨_, rfl, Sub.of_eq (by first | rfl | (congr 1; first | omega | (simp only; omega)) | (simp; done) | (simp; omega))⟩, ?_⟩ | refine ⟨⟨_, rfl, Sub.view _ _ _ _⟩, ?_⟩))) ⟨1, by rw [mid1_zero]; rfl⟩ ?_
  rintro ⟨i, hi⟩
  simp only at hi ⊢
  by_cases hlt : i < ms.length
  · have hlt' : (i : Int) < ms.length := by omega
    have hpb := parN_bd (ms.take i)
    have htl : (ms.take i).length ≤ 40 := by rw [List.length_take]; omega
    have hm1 := mid1_len (ms := ms) (i := i) hi
    have hat := mid1_at hlt
    have hnx := mid1_next hlt
    have hpn : parN (ms.take (i + 1)) = parN (ms.take i) + parA (ms.getD i default) := by rw [take_one hlt, parN_snoc]
    have hcl := cel1_at hlt
    have hni : ms.getD ((i : Int)).toNat default = ms.getD i default := rfl
    generalize hn : ms.getD i default = n at hnx hpn hni
    generalize cel1 (ms.take i) 0 = A at hat hnx hcl
    generalize List.replicate ((ms.length - (i + 1)) * 2) (0 : Int) = R at hat hnx
    generalize parN (ms.take i) = p at hpb hnx hpn ⊢
    by_cases c2 : n < 2
    · have c2' : ms.getD ((i : Int)).toNat default < 2 := by omega
      have es : (mid1 ms i).set (0 + ((i : Int)).toNat * 2 + 0) (p + 1) = A ++ (p + 1) :: 0 :: R := by
        rw [hat]
        exact set_one (by omega)
      have hc1 := hnum 0 p (mid1 ms i) (0 + ((i : Int)).toNat * 2 + 0) (by omega) ⟨by omega, by omega⟩
      rw [es] at hc1
      by_cases c1 : n < 1
      · have c1' : ms.getD ((i : Int)).toNat default < 1 := by omega
        have es2 : (A ++ (p + 1) :: 0 :: R).set (0 + ((i : Int)).toNat * 2 + 1) (p + 1 + 1) = A ++ (p + 1) :: (p + 1 + 1) :: R := set_two (by omega)
        have hl2 : 0 + ((i : Int)).toNat * 2 + 1 < (A ++ (p + 1) :: 0 :: R).length := by
          rw [List.length_append, List.length_cons, List.length_cons]
          omega
        have hc2 := hnum 0 (p + 1) (A ++ (p + 1) :: 0 :: R) (0 + ((i : Int)).toNat * 2 + 1) hl2 ⟨by omega, by omega⟩
        rw [es2] at hc2
        have e1 : cdH b7 g7 (sl txtE 1 ns .view) ms.length 0 (parN (ms.take (i + 1))) (mid1 ms (i + 1)) = cdH b7 g7 (sl txtE 1 ns .view) ms.length 0 (p + 1 + 1) (A ++ (p + 1) :: (p + 1 + 1) :: R) := by
          rw [hnx, hpn, if_pos c2, if_pos c1, parA, if_pos c2, if_pos c1, show p + (1 + 1) = p + 1 + 1 by omega, show p + 2 = p + 1 + 1 by omega]
        unfold cdH at hc1 hc2
        repeat (first | refine wKB ?_ | refine awp_seq_k (fun K hK => ?_) | refine areg_text mixed tyok (by decide +kernel) ?_ | refine qal tyok (fun bx => ?_) | refine qbox (fun bx => ?_) | refine qboxV (fun bx => ?_) | ((repeat ((fail_if_success (refine hK _ _ ?_)); clear hK)); refine hK _ _ ?_; clear hK))
        refine qiaM tyok ?_
        repeat (first | refine wKB ?_ | refine awp_seq_k (fun K hK => ?_) | refine areg_text mixed tyok (by decide +kernel) ?_ | refine qal tyok (fun bx => ?_) | refine qbox (fun bx => ?_) | refine qboxV (fun bx => ?_) | ((repeat ((fail_if_success (refine hK _ _ ?_)); clear hK)); refine hK _ _ ?_; clear hK))
        refine qcallH (G := [_]) hc1 ?_
        repeat (first | refine wKB ?_ | refine awp_seq_k (fun K hK => ?_) | refine areg_text mixed tyok (by decide +kernel) ?_ | refine qal tyok (fun bx => ?_) | refine qbox (fun bx => ?_) | refine qboxV (fun bx => ?_) | ((repeat ((fail_if_success (refine hK _ _ ?_)); clear hK)); refine hK _ _ ?_; clear hK))
        refine qiaM tyok ?_
        repeat (first | refine wKB ?_ | refine awp_seq_k (fun K hK => ?_) | refine areg_text mixed tyok (by decide +kernel) ?_ | refine qal tyok (fun bx => ?_) | refine qbox (fun bx => ?_) | refine qboxV (fun bx => ?_) | ((repeat ((fail_if_success (refine hK _ _ ?_)); clear hK)); refine hK _ _ ?_; clear hK))
        refine qcallH (G := [_]) hc2 ?_
        repeat (first | refine wKB ?_ | refine awp_seq_k (fun K hK => ?_) | refine areg_text mixed tyok (by decide +kernel) ?_ | refine qal tyok (fun bx => ?_) | refine qbox (fun bx => ?_) | refine qboxV (fun bx => ?_) | ((repeat ((fail_if_success (refine hK _ _ ?_)); clear hK)); refine hK _ _ ?_; clear hK))
        exact ⟨⟨i + 1, hlt⟩, (by (repeat (first | exact True.intro | refine ⟨⟨_, rfl, Sub.refl _⟩, ?_⟩ | refine ⟨⟨_, rfl, Sub.nilso _ _⟩, ?_⟩ | refine ⟨⟨_, rfl, sl_tail _ _ _ _ _⟩, ?_⟩ | refine ⟨⟨_, rfl, Sub.of_eq (by first | rfl | (congr 1; first | omega | (simp only; omega)) | (simp; done) | (simp; omega))⟩, ?_⟩ | refine ⟨⟨_, rfl, Sub.view _ _ _ _⟩, ?_⟩))), ⟨0, congrArg (_ :: ·) e1.symm⟩, by simp only; omega⟩
      · have c1' : ¬ ms.getD ((i : Int)).toNat default < 1 := by omega
        have e1 : cdH b7 g7 (sl txtE 1 ns .view) ms.length 0 (parN (ms.take (i + 1))) (mid1 ms (i + 1)) = cdH b7 g7 (sl txtE 1 ns .view) ms.length 0 (p + 1) (A ++ (p + 1) :: 0 :: R) := by
          rw [hnx, hpn, if_pos c2, if_neg c1, parA, if_pos c2, if_neg c1, show p + (1 + 0) = p + 1 by omega]
        unfold cdH at hc1
        repeat (first | refine wKB ?_ | refine awp_seq_k (fun K hK => ?_) | refine areg_text mixed tyok (by decide +kernel) ?_ | refine qal tyok (fun bx => ?_) | refine qbox (fun bx => ?_) | refine qboxV (fun bx => ?_) | ((repeat ((fail_if_success (refine hK _ _ ?_)); clear hK)); refine hK _ _ ?_; clear hK))
        refine qiaM tyok ?_
        repeat (first | refine wKB ?_ | refine awp_seq_k (fun K hK => ?_) | refine areg_text mixed tyok (by decide +kernel) ?_ | refine qal tyok (fun bx => ?_) | refine qbox (fun bx => ?_) | refine qboxV (fun bx => ?_) | ((repeat ((fail_if_success (refine hK _ _ ?_)); clear hK)); refine hK _ _ ?_; clear hK))
        refine qcallH (G := [_]) hc1 ?_
        repeat (first | refine wKB ?_ | refine awp_seq_k (fun K hK => ?_) | refine areg_text mixed tyok (by decide +kernel) ?_ | refine qal tyok (fun bx => ?_) | refine qbox (fun bx => ?_) | refine qboxV (fun bx => ?_) | ((repeat ((fail_if_success (refine hK _ _ ?_)); clear hK)); refine hK _ _ ?_; clear hK))
        exact ⟨⟨i + 1, hlt⟩, (by (repeat (first | exact True.intro | refine ⟨⟨_, rfl, Sub.refl _⟩, ?_⟩ | refine ⟨⟨_, rfl, Sub.nilso _ _⟩, ?_⟩ | refine ⟨⟨_, rfl, sl_tail _ _ _ _ _⟩, ?_⟩ | refine ⟨⟨_, rfl, Sub.of_eq (by first | rfl | (congr 1; first | omega | (simp only; omega)) | (simp; done) | (simp; omega))⟩, ?_⟩ | refine ⟨⟨_, rfl, Sub.view _ _ _ _⟩, ?_⟩))), ⟨0, congrArg (_ :: ·) e1.symm⟩, by simp only; omega⟩
    · have c2' : ¬ ms.getD ((i : Int)).toNat default < 2 := by omega
      have c1' : ¬ ms.getD ((i : Int)).toNat default < 1 := by omega
      have e1 : cdH b7 g7 (sl txtE 1 ns .view) ms.length 0 (parN (ms.take (i + 1))) (mid1 ms (i + 1)) = cdH b7 g7 (sl txtE 1 ns .view) ms.length 0 p (mid1 ms i) := by
        rw [hnx, hpn, if_neg c2, if_neg (show ¬ n < 1 by omega), parA, if_neg c2, if_neg (show ¬ n < 1 by omega), hat, show p + (0 + 0) = p by omega]
      repeat (first | refine wKB ?_ | refine awp_seq_k (fun K hK => ?_) | refine areg_text mixed tyok (by decide +kernel) ?_ | refine qal tyok (fun bx => ?_) | refine qbox (fun bx => ?_) | refine qboxV (fun bx => ?_) | ((repeat ((fail_if_success (refine hK _ _ ?_)); clear hK)); refine hK _ _ ?_; clear hK))
      exact ⟨⟨i + 1, hlt⟩, (by (repeat (first | exact True.intro | refine ⟨⟨_, rfl, Sub.refl _⟩, ?_⟩ | refine ⟨⟨_, rfl, Sub.nilso _ _⟩, ?_⟩ | refine ⟨⟨_, rfl, sl_tail _ _ _ _ _⟩, ?_⟩ | refine ⟨⟨_, rfl, Sub.of_eq (by first | rfl | (congr 1; first | omega | (simp only; omega)) | (simp; done) | (simp; omega))⟩, ?_⟩ | refine ⟨⟨_, rfl, Sub.view _ _ _ _⟩, ?_⟩))), ⟨0, congrArg (_ :: ·) e1.symm⟩, by simp only; omega⟩
  have hge : ¬ (i : Int) < ms.length := by omega
  obtain rfl : i = ms.length := by omega
  rw [List.take_length, ← mid2_zero]
  unfold cdH
  repeat (first | refine wKB ?_ | refine awp_seq_k (fun K hK => ?_) | refine areg_text mixed tyok (by decide +kernel) ?_ | refine qal tyok (fun bx => ?_) | refine qbox (fun bx => ?_) | refine qboxV (fun bx => ?_) | ((repeat ((fail_if_success (refine hK _ _ ?_)); clear hK)); refine hK _ _ ?_; clear hK))
  refine awp_loop0 (ι := { i : Nat // i ≤ ms.length })
    (fun i => [(2, .ptr b2 0), (6, sl cnE 1 ms .view), (7, .ptr b7 0), (8, .func (.func 42) [] [.ptr b7 0]), (60, sl cnE 1 ms .view), (61, .int .i64 ms.length), (62, .int .i64 i.1)])
    (fun i => .box b2 26 (.agg [.nils, .nils, .int .i64 0, .int .i64 0]) :: cdH b7 g7 (sl txtE 1 ns .view) ms.length (parN ms) (parN ms + depN (ms.take i.1)) (mid2 ms i.1)) (fun i => ms.length - i.1) ⟨0, Nat.zero_le _⟩ (by (repeat (first | exact True.intro | refine ⟨⟨_, rfl, Sub.refl _⟩, ?_⟩ | refine ⟨⟨_, rfl, Sub.nilso _ _⟩, ?_⟩ | refine ⟨⟨_, rfl, sl_tail _ _ _ _ _⟩, ?_⟩ | refine ⟨⟨_, rfl, Sub.of_eq (by first | rfl | (congr 1; first | omega | (simp only; omega)) | (simp; done) | (simp; omega))⟩, ?_⟩ | refine ⟨⟨_, rfl, Sub.view _ _ _ _⟩, ?_⟩))) ⟨0, ?_⟩ ?_
  · have e0 : parN ms + depN (ms.take 0) = parN ms := by simp [depN]
    simp only
    rw [e0]
    rfl
  have hPb := parN_bd ms
  rintro ⟨i, hi⟩
  simp only at hi ⊢
  by_cases hlt : i < ms.length
  · have hlt' : (i : Int) < ms.length := by omega
    have hpb := depN_bd (ms.take i)
    have htl : (ms.take i).length ≤ 40 := by rw [List.length_take]; omega
    have hm1 := mid2_len (ms := ms) (i := i) hi
    have hat := mid2_at hlt
    have hnx := mid2_next hlt
    have hpn : depN (ms.take (i + 1)) = depN (ms.take i) + depA (ms.getD i default) := by rw [take_one hlt, depN_snoc]
    have hcl := cel2_at hlt 0 (parN ms)
    have hni : ms.getD ((i : Int)).toNat default = ms.getD i default := rfl
    generalize hn : ms.getD i default = n at hat hnx hpn hni
    generalize cel2 (ms.take i) 0 (parN ms) = A at hat hnx hcl
    generalize cel1 (ms.drop (i + 1)) (parN (ms.take (i + 1))) = R at hat hnx
    generalize depN (ms.take i) = d at hpb hnx hpn ⊢
    generalize parN (ms.take i) = p at hat hnx
    generalize parN ms = P at hPb hat hnx ⊢
    by_cases c2 : n = 2
    · have c2' : ms.getD ((i : Int)).toNat default = 2 := by omega
      have c1' : ms.getD ((i : Int)).toNat default ≥ 1 := by omega
      rw [if_neg (show ¬ n < 2 by omega), if_neg (show ¬ n < 1 by omega)] at hat
      rw [if_neg (show ¬ n < 2 by omega), if_neg (show ¬ n < 1 by omega), if_pos c2] at hnx
      have es : (mid2 ms i).set (0 + ((i : Int)).toNat * 2 + 0) (P + d + 1) = A ++ (P + d + 1) :: 0 :: R := by
        rw [hat]
        exact set_one (by omega)
      have hc1 := hnum P (P + d) (mid2 ms i) (0 + ((i : Int)).toNat * 2 + 0) (by omega) ⟨by omega, by omega⟩
      rw [es] at hc1
      have es2 : (A ++ (P + d + 1) :: 0 :: R).set (0 + ((i : Int)).toNat * 2 + 1) (P + d + 1 + 1) = A ++ (P + d + 1) :: (P + d + 1 + 1) :: R := set_two (by omega)
      have hl2 : 0 + ((i : Int)).toNat * 2 + 1 < (A ++ (P + d + 1) :: 0 :: R).length := by
        rw [List.length_append, List.length_cons, List.length_cons]
        omega
      have hc2 := hnum P (P + d + 1) (A ++ (P + d + 1) :: 0 :: R) (0 + ((i : Int)).toNat * 2 + 1) hl2 ⟨by omega, by omega⟩
      rw [es2] at hc2
      have e1 : cdH b7 g7 (sl txtE 1 ns .view) ms.length P (P + depN (ms.take (i + 1))) (mid2 ms (i + 1)) = cdH b7 g7 (sl txtE 1 ns .view) ms.length P (P + d + 1 + 1) (A ++ (P + d + 1) :: (P + d + 1 + 1) :: R) := by
        rw [hnx, hpn, depA, if_pos c2, if_pos (show 1 ≤ n by omega), show P + (d + (1 + 1)) = P + d + 1 + 1 by omega, show P + d + (1 + 1) = P + d + 1 + 1 by omega]
      unfold cdH at hc1 hc2 ⊢
      repeat (first | refine wKB ?_ | refine awp_seq_k (fun K hK => ?_) | refine areg_text mixed tyok (by decide +kernel) ?_ | refine qal tyok (fun bx => ?_) | refine qbox (fun bx => ?_) | refine qboxV (fun bx => ?_) | ((repeat ((fail_if_success (refine hK _ _ ?_)); clear hK)); refine hK _ _ ?_; clear hK))
      refine qiaM tyok ?_
      repeat (first | refine wKB ?_ | refine awp_seq_k (fun K hK => ?_) | refine areg_text mixed tyok (by decide +kernel) ?_ | refine qal tyok (fun bx => ?_) | refine qbox (fun bx => ?_) | refine qboxV (fun bx => ?_) | ((repeat ((fail_if_success (refine hK _ _ ?_)); clear hK)); refine hK _ _ ?_; clear hK))
      refine qcallH (G := [_]) hc1 ?_
      repeat (first | refine wKB ?_ | refine awp_seq_k (fun K hK => ?_) | refine areg_text mixed tyok (by decide +kernel) ?_ | refine qal tyok (fun bx => ?_) | refine qbox (fun bx => ?_) | refine qboxV (fun bx => ?_) | ((repeat ((fail_if_success (refine hK _ _ ?_)); clear hK)); refine hK _ _ ?_; clear hK))
      refine qiaM tyok ?_
      repeat (first | refine wKB ?_ | refine awp_seq_k (fun K hK => ?_) | refine areg_text mixed tyok (by decide +kernel) ?_ | refine qal tyok (fun bx => ?_) | refine qbox (fun bx => ?_) | refine qboxV (fun bx => ?_) | ((repeat ((fail_if_success (refine hK _ _ ?_)); clear hK)); refine hK _ _ ?_; clear hK))
      refine qcallH (G := [_]) hc2 ?_
      repeat (first | refine wKB ?_ | refine awp_seq_k (fun K hK => ?_) | refine areg_text mixed tyok (by decide +kernel) ?_ | refine qal tyok (fun bx => ?_) | refine qbox (fun bx => ?_) | refine qboxV (fun bx => ?_) | ((repeat ((fail_if_success (refine hK _ _ ?_)); clear hK)); refine hK _ _ ?_; clear hK))
      exact ⟨⟨i + 1, hlt⟩, (by (repeat (first | exact True.intro | refine ⟨⟨_, rfl, Sub.refl _⟩, ?_⟩ | refine ⟨⟨_, rfl, Sub.nilso _ _⟩, ?_⟩ | refine ⟨⟨_, rfl, sl_tail _ _ _ _ _⟩, ?_⟩ | refine ⟨⟨_, rfl, Sub.of_eq (by first | rfl | (congr 1; first | omega | (simp only; omega)) | (simp; done) | (simp; omega))⟩, ?_⟩ | refine ⟨⟨_, rfl, Sub.view _ _ _ _⟩, ?_⟩))), ⟨0, congrArg (_ :: ·) e1.symm⟩, by simp only; omega⟩
    by_cases c1 : n < 1
    · have c2' : ¬ ms.getD ((i : Int)).toNat default = 2 := by omega
      have c1' : ¬ ms.getD ((i : Int)).toNat default ≥ 1 := by omega
      rw [if_pos (show n < 2 by omega), if_pos c1] at hat hnx
      have e1 : cdH b7 g7 (sl txtE 1 ns .view) ms.length P (P + depN (ms.take (i + 1))) (mid2 ms (i + 1)) = cdH b7 g7 (sl txtE 1 ns .view) ms.length P (P + d) (mid2 ms i) := by
        rw [hnx, hpn, hat, depA, if_neg c2, if_neg (show ¬ 1 ≤ n by omega), show P + (d + (0 + 0)) = P + d by omega]
      unfold cdH
      repeat (first | refine wKB ?_ | refine awp_seq_k (fun K hK => ?_) | refine areg_text mixed tyok (by decide +kernel) ?_ | refine qal tyok (fun bx => ?_) | refine qbox (fun bx => ?_) | refine qboxV (fun bx => ?_) | ((repeat ((fail_if_success (refine hK _ _ ?_)); clear hK)); refine hK _ _ ?_; clear hK))
      exact ⟨⟨i + 1, hlt⟩, (by (repeat (first | exact True.intro | refine ⟨⟨_, rfl, Sub.refl _⟩, ?_⟩ | refine ⟨⟨_, rfl, Sub.nilso _ _⟩, ?_⟩ | refine ⟨⟨_, rfl, sl_tail _ _ _ _ _⟩, ?_⟩ | refine ⟨⟨_, rfl, Sub.of_eq (by first | rfl | (congr 1; first | omega | (simp only; omega)) | (simp; done) | (simp; omega))⟩, ?_⟩ | refine ⟨⟨_, rfl, Sub.view _ _ _ _⟩, ?_⟩))), ⟨0, congrArg (_ :: ·) e1.symm⟩, by simp only; omega⟩
    · have c2' : ¬ ms.getD ((i : Int)).toNat default = 2 := by omega
      have c1' : ms.getD ((i : Int)).toNat default ≥ 1 := by omega
      rw [if_neg c1] at hat hnx
      rw [if_neg c2] at hnx
      have es : (mid2 ms i).set (0 + ((i : Int)).toNat * 2 + 1) (P + d + 1) = A ++ (if n < 2 then p + 1 else 0) :: (P + d + 1) :: R := by
        rw [hat]
        exact set_two (by omega)
      have hc1 := hnum P (P + d) (mid2 ms i) (0 + ((i : Int)).toNat * 2 + 1) (by omega) ⟨by omega, by omega⟩
      rw [es] at hc1
      have e1 : cdH b7 g7 (sl txtE 1 ns .view) ms.length P (P + depN (ms.take (i + 1))) (mid2 ms (i + 1)) = cdH b7 g7 (sl txtE 1 ns .view) ms.length P (P + d + 1) (A ++ (if n < 2 then p + 1 else 0) :: (P + d + 1) :: R) := by
        rw [hnx, hpn, depA, if_neg c2, if_pos (show 1 ≤ n by omega), show P + (d + (0 + 1)) = P + d + 1 by omega, show P + d + (0 + 1) = P + d + 1 by omega]
      unfold cdH at hc1 ⊢
      repeat (first | refine wKB ?_ | refine awp_seq_k (fun K hK => ?_) | refine areg_text mixed tyok (by decide +kernel) ?_ | refine qal tyok (fun bx => ?_) | refine qbox (fun bx => ?_) | refine qboxV (fun bx => ?_) | ((repeat ((fail_if_success (refine hK _ _ ?_)); clear hK)); refine hK _ _ ?_; clear hK))
      refine qiaM tyok ?_
      repeat (first | refine wKB ?_ | refine awp_seq_k (fun K hK => ?_) | refine areg_text mixed tyok (by decide +kernel) ?_ | refine qal tyok (fun bx => ?_) | refine qbox (fun bx => ?_) | refine qboxV (fun bx => ?_) | ((repeat ((fail_if_success (refine hK _ _ ?_)); clear hK)); refine hK _ _ ?_; clear hK))
      refine qcallH (G := [_]) hc1 ?_
      repeat (first | refine wKB ?_ | refine awp_seq_k (fun K hK => ?_) | refine areg_text mixed tyok (by decide +kernel) ?_ | refine qal tyok (fun bx => ?_) | refine qbox (fun bx => ?_) | refine qboxV (fun bx => ?_) | ((repeat ((fail_if_success (refine hK _ _ ?_)); clear hK)); refine hK _ _ ?_; clear hK))
      exact ⟨⟨i + 1, hlt⟩, (by (repeat (first | exact True.intro | refine ⟨⟨_, rfl, Sub.refl _⟩, ?_⟩ | refine ⟨⟨_, rfl, Sub.nilso _ _⟩, ?_⟩ | refine ⟨⟨_, rfl, sl_tail _ _ _ _ _⟩, ?_⟩ | refine ⟨⟨_, rfl, Sub.of_eq (by first | rfl | (congr 1; first | omega | (simp only; omega)) | (simp; done) | (simp; omega))⟩, ?_⟩ | refine ⟨⟨_, rfl, Sub.view _ _ _ _⟩, ?_⟩))), ⟨0, congrArg (_ :: ·) e1.symm⟩, by simp only; omega⟩
  have hge : ¬ (i : Int) < ms.length := by omega
  obtain rfl : i = ms.length := by omega
  rw [List.take_length, mid2_end]
  unfold cdH
  repeat (first | refine wKB ?_ | refine awp_seq_k (fun K hK => ?_) | refine areg_text mixed tyok (by decide +kernel) ?_ | refine qal tyok (fun bx => ?_) | refine qbox (fun bx => ?_) | refine qboxV (fun bx => ?_) | ((repeat ((fail_if_success (refine hK _ _ ?_)); clear hK)); refine hK _ _ ?_; clear hK))
  refine fnQ_ret 2 rfl (.cell rfl rfl (List.mem_of_getElem? (i := 0) rfl) rfl trivial (.tmp rfl .nil)) (Sub.refl _) ⟨g7, rfl, rfl⟩

end Go.Proofs.YtjinaakebjfbiaaGreatDoor

/-
  Plain law of layer 25: each number is just one point's one coordinate; names and numbers find each other.
-/
namespace Go.Proofs.YtjinaakebjfbiaaGreatDoor
open Go.Ab

/-- No, one, or two equations. -/
def Few (ms : List Int) : Prop := ∀ n ∈ ms, n = 0 ∨ n = 1 ∨ n = 2

theorem Few.tail {n : Int} {ms : List Int} (h : Few (n :: ms)) : Few ms := fun m hm => h m (List.mem_cons_of_mem _ hm)
theorem Few.head {n : Int} {ms : List Int} (h : Few (n :: ms)) : n = 0 ∨ n = 1 ∨ n = 2 := h n (List.mem_cons_self ..)

theorem parN_cons (n : Int) (ms : List Int) : parN (n :: ms) = parA n + parN ms := by simp [parN]
theorem depN_cons (n : Int) (ms : List Int) : depN (n :: ms) = depA n + depN ms := by simp [depN]

def cnt1 (b : Prop) [Decidable b] : Int := if b then 1 else 0
theorem cel2_in : ∀ {ms : List Int} {p d : Int}, Few ms → 0 ≤ p → p + parN ms ≤ d → ∀ c ∈ pairsC (cel2 ms p d), 1 ≤ c.1 ∧ c.1 < c.2 ∧ c.2 ≤ d + depN ms
  | [], _, _, _, _, _, c, hc => by simp [cel2, pairsC] at hc
  | n :: ms, p, d, h, hp, hd, c, hc => by
    have b1 := parN_bd ms
    have b2 := depN_bd ms
    have b3 := parA_bd n
    have b4 := depA_bd n
    rw [parN_cons] at hd
    rw [depN_cons]
    rw [cel2, pairsC] at hc
    rcases List.mem_cons.1 hc with rfl | hc
    · rcases h.head with rfl | rfl | rfl
      · simp only [parA, depA] at hd ⊢
        simp at hd ⊢
        omega
      · simp only [parA, depA] at hd ⊢
        simp at hd ⊢
        omega
      · simp only [parA, depA] at hd ⊢
        simp at hd ⊢
        omega
    · have := cel2_in h.tail (show 0 ≤ p + parA n by omega) (show p + parA n + parN ms ≤ d + depA n by omega) c hc
      omega

/-! Names. -/

/-- A point's coordinates. -/
theorem cel2_get : ∀ (ms : List Int) (p d : Int) (i : Nat), i < ms.length → (pairsC (cel2 ms p d)).getD i default =
    (if ms.getD i 0 < 2 then p + parN (ms.take i) + 1 else if ms.getD i 0 = 2 then d + depN (ms.take i) + 1 else 0, if ms.getD i 0 < 1 then p + parN (ms.take i) + 2 else d + depN (ms.take i) + depA (ms.getD i 0))
  | [], _, _, _, h => by simp at h
  | n :: ms, p, d, 0, _ => by simp [cel2, pairsC, parN, depN]
  | n :: ms, p, d, i + 1, h => by
    have ih := cel2_get ms (p + parA n) (d + depA n) i (by simpa using h)
    rw [cel2, pairsC, List.getD_cons_succ, ih, List.getD_cons_succ, List.take_succ_cons, parN_cons, depN_cons]
    simp only [Int.add_assoc]

/-! Of well formed statements each point is made by no, one, or two equations. -/

def fewB (t : List UInt8) : Bool := (rowsF t).all fun l => match conR l with
  | none => true
  | some f => decide (f.eqs.length = 1 ∨ f.eqs.length = 2)

set_option maxRecDepth 100000 in
theorem made_few : fewB made21 = true := by decide +kernel

theorem con_few {w : List UInt8} (h : (conF w).isNone = false) : (fig0 (conF w)).eqs.length = 1 ∨ (fig0 (conF w)).eqs.length = 2 := by
  unfold conF at h ⊢
  cases hr : rowF made21 w with
  | none => rw [hr] at h; cases h
  | some l =>
    rw [hr] at h
    simp only at h ⊢
    cases hf : conR l with
    | none => rw [hf] at h; cases h
    | some f =>
      have := List.all_eq_true.1 made_few l (rowG_mem hr)
      rw [hf] at this
      exact of_decide_eq_true this

theorem con_some {x : StI} {s : LkR} (h : (stmtG x s).e = 0) (hk : x.k = 4) : (conF x.word.w).isNone = false := by
  unfold stmtG argsF at h
  rw [if_neg (by omega), if_pos hk, add_e] at h
  exact (meet_zero (by decide) (argsG_zero h)).2

/-- How many points a statement tells or makes, how free they are. -/
def cntM (x : StI) : Nat := if x.k = 3 then x.args.length else if x.k = 4 then 1 else 0
noncomputable def freeM (x : StI) : Int := if x.k = 4 then 2 - ((fig0 (conF x.word.w)).eqs.length : Int) else 2

theorem manyOf_rep (x : StI) : manyOf x = List.replicate (cntM x) (2 - freeM x) := by
  unfold manyOf cntM freeM
  by_cases h3 : x.k = 3
  · rw [if_pos h3, if_pos h3, if_neg (by omega), List.map_const']
    rfl
  rw [if_neg h3, if_neg h3]
  by_cases h4 : x.k = 4
  · rw [if_pos h4, if_pos h4, if_pos h4, show (2 : Int) - (2 - ((fig0 (conF x.word.w)).eqs.length : Int)) = ((fig0 (conF x.word.w)).eqs.length : Int) by omega]
    rfl
  · rw [if_neg h4, if_neg h4]
    rfl

theorem few_stmt {l : List StI} (h : (lookF l).e = 0) {x : StI} (hx : x ∈ l) : (x.k = 4 → (conF x.word.w).isNone = false) ∧ (2 - freeM x = 0 ∨ 2 - freeM x = 1 ∨ 2 - freeM x = 2) := by
  obtain ⟨_, _, _, _, hp⟩ := lookF_id h
  obtain ⟨j, hj, rfl⟩ := List.getElem_of_mem hx
  have hs := (hp j hj).2
  refine ⟨fun hk => con_some hs hk, ?_⟩
  unfold freeM
  by_cases h4 : l[j].k = 4
  · rw [if_pos h4]
    have := con_few (con_some hs h4)
    omega
  · rw [if_neg h4]
    omega

theorem few_of {l : List StI} (h : (lookF l).e = 0) : Few (manyF l) := by
  intro n hn
  obtain ⟨x, hx, hn⟩ := List.mem_flatMap.1 hn
  rw [manyOf_rep] at hn
  obtain ⟨_, rfl⟩ := List.mem_replicate.1 hn
  exact (few_stmt h hx).2

end Go.Proofs.YtjinaakebjfbiaaGreatDoor

/-
  Layer 25: coord.Of for who reads it only; Name, Find; what law 25 knows.
-/
namespace Go.Proofs.YtjinaakebjfbiaaGreatDoor
open Go.Ab

def layV (ns : List (List UInt8)) (cs : List (Int × Int)) (p v : Int) : AV := .agg [sl txtE 1 ns .view, sl cooE 2 cs .view, .int .i64 p, .int .i64 v]

theorem of_view (l : List StI) (hl : l.length ≤ 10000000000000000) (hA : ∀ x ∈ l, x.args.length ≤ 10000000000000000) (h : (lookF l).e = 0) :
    PCalls Tryz.prog 14 [stmtsI l] (.tuple [layV (namesF l) (pairsC (cel2 (manyF l) 0 (parN (manyF l)))) (parN (manyF l)) (parN (manyF l) + depN (manyF l)), .int .i64 0]) := by
  refine ACalls.frozen (of_c l hl hA h) fun g => SubH.tuple rfl fun j v v' h1 h2 => ?_
  match j, h1, h2 with
  | 0, h1, h2 =>
    cases h1
    cases h2
    refine SubH.agg rfl fun j v v' h1 h2 => ?_
    match j, h1, h2 with
    | 0, h1, h2 => cases h1; cases h2; exact SubH.rfl' _
    | 1, h1, h2 => cases h1; cases h2; exact rowI_view (cel2_len _ _ _)
    | 2, h1, h2 => cases h1; cases h2; exact SubH.rfl' _
    | 3, h1, h2 => cases h1; cases h2; exact SubH.rfl' _
    | j + 4, h1, _ => cases h1
  | 1, h1, h2 => cases h1; cases h2; exact SubH.rfl' _
  | j + 2, h1, _ => cases h1

theorem drop_at {α : Type} [Inhabited α] {l : List α} {i : Nat} (h : i < l.length) : l.drop i = l.getD i default :: l.drop (i + 1) := by
  rw [List.drop_eq_getElem_cons h, getD_at h]

theorem nameF_short (ns : List (List UInt8)) (cs : List (Int × Int)) (v : Int) (h : ns = [] ∨ cs = []) : nameF ns cs v = [] := by
  rcases h with rfl | rfl
  · cases cs <;> rfl
  · cases ns <;> rfl
theorem findF_short (ns : List (List UInt8)) (cs : List (Int × Int)) (w : List UInt8) (h : ns = [] ∨ cs = []) : findF ns cs w = 0 := by
  rcases h with rfl | rfl
  · cases cs <;> rfl
  · cases ns <;> rfl

theorem cbName : Callable Tryz.prog 17 := fun _ _ => by kernel_rfl
set_option maxHeartbeats 3200000 in
set_option maxRecDepth 100000 in
theorem name_c (ns : List (List UInt8)) (cs : List (Int × Int)) (p q v : Int) (hn : ns.length ≤ 1000000000000) (_hc : cs.length ≤ 1000000000000) (hw : ∀ x ∈ ns, x.length ≤ 1000000000000000) : PCalls Tryz.prog 17 [layV ns cs p q, .int .i64 v] (.str (nameF ns cs v)) := by
  refine pcalls_of_awp tyok cbName Tryz.func17 rfl rfl ?_
  unfold layV
  ((repeat (first | refine wK ?_ | refine awp_seq_k (fun K hK => ?_) | refine areg_text mixed tyok (by decide +kernel) ?_ | ((repeat ((fail_if_success (refine hK _ _ ?_)); clear hK)); refine hK _ _ ?_; clear hK))); ((first | refine qal tyok (fun b2 => ?_) | refine qbox (fun b2 => ?_) | refine qboxV (fun b2 => ?_))))
  (((repeat (first | refine wT ?_ | refine qal tyok (fun bx => ?_) | refine qbox (fun bx => ?_) | refine qboxV (fun bx => ?_)))); repeat (first | (with_reducible refine pQ_normal ?_) | (with_reducible refine thenQ_normal ?_) | (with_reducible refine blockQ_normal ?_) | (with_reducible refine thenQ_exit ?_) | (with_reducible refine blockQ_hit ?_) | refine blockQ_miss rfl ?_ | (with_reducible refine thenQ_ret ?_) | (with_reducible refine blockQ_ret ?_) | (with_reducible refine pQ_panic ?_) | (with_reducible refine thenQ_panic ?_) | (with_reducible refine blockQ_panic ?_)); ((repeat ((fail_if_success (refine hK _ _ ?_)); clear hK)); refine hK _ _ ?_; clear hK))
  refine awp_freeze [] (s := 2) rfl rfl ?_
  repeat (first | refine wKB ?_ | refine awp_seq_k (fun K hK => ?_) | refine areg_text mixed tyok (by decide +kernel) ?_ | refine qal tyok (fun bx => ?_) | refine qbox (fun bx => ?_) | refine qboxV (fun bx => ?_) | ((repeat ((fail_if_success (refine hK _ _ ?_)); clear hK)); refine hK _ _ ?_; clear hK))
  have hmin : (if (cs.length : Int) < ns.length then (cs.length : Int) else ns.length) = ((min ns.length cs.length : Nat) : Int) := by
    split <;> omega
  refine awp_loop0 (ι := { i : Nat // i ≤ min ns.length cs.length ∧ nameF (ns.drop i) (cs.drop i) v = nameF ns cs v })
    (fun i => [(2, .rptr [sl txtE 1 ns .view, sl cooE 2 cs .view, .int .i64 p, .int .i64 q]), (1, .int .i64 v), (12, .int .i64 (min ns.length cs.length : Nat)), (13, .int .i64 i.1)])
    (fun _ => []) (fun i => min ns.length cs.length - i.1) ⟨0, Nat.zero_le _, rfl⟩ ?_ (by (first | exact ⟨0, rfl⟩ | exact ⟨1, rfl⟩ | exact ⟨2, rfl⟩ | exact ⟨3, rfl⟩ | exact ⟨4, rfl⟩)) ?_
  · exact ⟨⟨_, rfl, Sub.refl _⟩, ⟨_, rfl, Sub.refl _⟩, ⟨_, rfl, Sub.of_eq (congrArg (AV.int .i64) hmin)⟩, ⟨_, rfl, Sub.refl _⟩, True.intro⟩
  rintro ⟨i, hi, hf⟩
  simp only at hi hf ⊢
  by_cases hlt : i < min ns.length cs.length
  · have hlt' : (i : Int) < ((min ns.length cs.length : Nat) : Int) := by omega
    have h1 : i < ns.length := by omega
    have h2 : i < cs.length := by omega
    have h1' : (i : Int) < ns.length := by omega
    have h2' : (i : Int) < cs.length := by omega
    rw [drop_at h1, drop_at h2, nameF] at hf
    have hwl := hw (ns.getD i default) (by rw [getD_at h1]; exact List.getElem_mem h1)
    have hwl' : (ns.getD ((i : Int)).toNat default).length ≤ 1000000000000000 := hwl
    have hm1 : ({ data := #[120] } : ByteArray).data.toList.length = 1 := rfl
    have hm2 : ({ data := #[121] } : ByteArray).data.toList.length = 1 := rfl
    by_cases c1 : v = (cs.getD i default).1
    · have c1' : v = (cs.getD ((i : Int)).toNat default).1 := c1
      rw [if_pos c1] at hf
      repeat (first | refine wKB ?_ | refine awp_seq_k (fun K hK => ?_) | refine areg_text mixed tyok (by decide +kernel) ?_ | refine qal tyok (fun bx => ?_) | refine qbox (fun bx => ?_) | refine qboxV (fun bx => ?_) | ((repeat ((fail_if_success (refine hK _ _ ?_)); clear hK)); refine hK _ _ ?_; clear hK))
      refine r1 ?_
      exact Sub.of_eq (by rw [← hf]; rfl)
    have c1' : ¬ v = (cs.getD ((i : Int)).toNat default).1 := c1
    rw [if_neg c1] at hf
    by_cases c2 : v = (cs.getD i default).2
    · have c2' : v = (cs.getD ((i : Int)).toNat default).2 := c2
      rw [if_pos c2] at hf
      repeat (first | refine wKB ?_ | refine awp_seq_k (fun K hK => ?_) | refine areg_text mixed tyok (by decide +kernel) ?_ | refine qal tyok (fun bx => ?_) | refine qbox (fun bx => ?_) | refine qboxV (fun bx => ?_) | ((repeat ((fail_if_success (refine hK _ _ ?_)); clear hK)); refine hK _ _ ?_; clear hK))
      refine r1 ?_
      exact Sub.of_eq (by rw [← hf]; rfl)
    have c2' : ¬ v = (cs.getD ((i : Int)).toNat default).2 := c2
    rw [if_neg c2] at hf
    repeat (first | refine wKB ?_ | refine awp_seq_k (fun K hK => ?_) | refine areg_text mixed tyok (by decide +kernel) ?_ | refine qal tyok (fun bx => ?_) | refine qbox (fun bx => ?_) | refine qboxV (fun bx => ?_) | ((repeat ((fail_if_success (refine hK _ _ ?_)); clear hK)); refine hK _ _ ?_; clear hK))
    exact ⟨⟨i + 1, hlt, hf⟩, (by (repeat (first | exact True.intro | refine ⟨⟨_, rfl, Sub.refl _⟩, ?_⟩ | refine ⟨⟨_, rfl, Sub.nilso _ _⟩, ?_⟩ | refine ⟨⟨_, rfl, sl_tail _ _ _ _ _⟩, ?_⟩ | refine ⟨⟨_, rfl, Sub.of_eq (by first | rfl | (congr 1; first | omega | (simp only; omega)) | (simp; done) | (simp; omega))⟩, ?_⟩ | refine ⟨⟨_, rfl, Sub.view _ _ _ _⟩, ?_⟩))), (by (first | exact ⟨0, rfl⟩ | exact ⟨1, rfl⟩ | exact ⟨2, rfl⟩ | exact ⟨3, rfl⟩ | exact ⟨4, rfl⟩)), by simp only; omega⟩
  · have hge : ¬ (i : Int) < ((min ns.length cs.length : Nat) : Int) := by omega
    have he : nameF (ns.drop i) (cs.drop i) v = [] := by
      refine nameF_short _ _ _ ?_
      by_cases h : ns.length ≤ cs.length
      · exact .inl (List.drop_eq_nil_of_le (by omega))
      · exact .inr (List.drop_eq_nil_of_le (by omega))
    repeat (first | refine wKB ?_ | refine awp_seq_k (fun K hK => ?_) | refine areg_text mixed tyok (by decide +kernel) ?_ | refine qal tyok (fun bx => ?_) | refine qbox (fun bx => ?_) | refine qboxV (fun bx => ?_) | ((repeat ((fail_if_success (refine hK _ _ ?_)); clear hK)); refine hK _ _ ?_; clear hK))
    refine r1 ?_
    exact Sub.of_eq (by rw [← hf, he])

theorem cbFind : Callable Tryz.prog 19 := fun _ _ => by kernel_rfl
set_option maxHeartbeats 3200000 in
set_option maxRecDepth 100000 in
theorem find_c (ns : List (List UInt8)) (cs : List (Int × Int)) (p q : Int) (w : List UInt8) (hn : ns.length ≤ 1000000000000) (_hc : cs.length ≤ 1000000000000) (hw : ∀ x ∈ ns, x.length ≤ 1000000000000000) : PCalls Tryz.prog 19 [layV ns cs p q, .str w] (.int .i64 (findF ns cs w)) := by
  refine pcalls_of_awp tyok cbFind Tryz.func19 rfl rfl ?_
  unfold layV
  ((repeat (first | refine wK ?_ | refine awp_seq_k (fun K hK => ?_) | refine areg_text mixed tyok (by decide +kernel) ?_ | ((repeat ((fail_if_success (refine hK _ _ ?_)); clear hK)); refine hK _ _ ?_; clear hK))); ((first | refine qal tyok (fun b2 => ?_) | refine qbox (fun b2 => ?_) | refine qboxV (fun b2 => ?_))))
  (((repeat (first | refine wT ?_ | refine qal tyok (fun bx => ?_) | refine qbox (fun bx => ?_) | refine qboxV (fun bx => ?_)))); repeat (first | (with_reducible refine pQ_normal ?_) | (with_reducible refine thenQ_normal ?_) | (with_reducible refine blockQ_normal ?_) | (with_reducible refine thenQ_exit ?_) | (with_reducible refine blockQ_hit ?_) | refine blockQ_miss rfl ?_ | (with_reducible refine thenQ_ret ?_) | (with_reducible refine blockQ_ret ?_) | (with_reducible refine pQ_panic ?_) | (with_reducible refine thenQ_panic ?_) | (with_reducible refine blockQ_panic ?_)); ((repeat ((fail_if_success (refine hK _ _ ?_)); clear hK)); refine hK _ _ ?_; clear hK))
  refine awp_freeze [] (s := 2) rfl rfl ?_
  repeat (first | refine wKB ?_ | refine awp_seq_k (fun K hK => ?_) | refine areg_text mixed tyok (by decide +kernel) ?_ | refine qal tyok (fun bx => ?_) | refine qbox (fun bx => ?_) | refine qboxV (fun bx => ?_) | ((repeat ((fail_if_success (refine hK _ _ ?_)); clear hK)); refine hK _ _ ?_; clear hK))
  have hmin : (if (cs.length : Int) < ns.length then (cs.length : Int) else ns.length) = ((min ns.length cs.length : Nat) : Int) := by
    split <;> omega
  refine awp_loop0 (ι := { i : Nat // i ≤ min ns.length cs.length ∧ findF (ns.drop i) (cs.drop i) w = findF ns cs w })
    (fun i => [(2, .rptr [sl txtE 1 ns .view, sl cooE 2 cs .view, .int .i64 p, .int .i64 q]), (1, .str w), (12, .int .i64 (min ns.length cs.length : Nat)), (13, .int .i64 i.1)])
    (fun _ => []) (fun i => min ns.length cs.length - i.1) ⟨0, Nat.zero_le _, rfl⟩ ?_ (by (first | exact ⟨0, rfl⟩ | exact ⟨1, rfl⟩ | exact ⟨2, rfl⟩ | exact ⟨3, rfl⟩ | exact ⟨4, rfl⟩)) ?_
  · exact ⟨⟨_, rfl, Sub.refl _⟩, ⟨_, rfl, Sub.refl _⟩, ⟨_, rfl, Sub.of_eq (congrArg (AV.int .i64) hmin)⟩, ⟨_, rfl, Sub.refl _⟩, True.intro⟩
  rintro ⟨i, hi, hf⟩
  simp only at hi hf ⊢
  by_cases hlt : i < min ns.length cs.length
  · have hlt' : (i : Int) < ((min ns.length cs.length : Nat) : Int) := by omega
    have h1 : i < ns.length := by omega
    have h2 : i < cs.length := by omega
    have h1' : (i : Int) < ns.length := by omega
    have h2' : (i : Int) < cs.length := by omega
    rw [drop_at h1, drop_at h2, findF] at hf
    have hwl := hw (ns.getD i default) (by rw [getD_at h1]; exact List.getElem_mem h1)
    have hwl' : (ns.getD ((i : Int)).toNat default).length ≤ 1000000000000000 := hwl
    have hm1 : ({ data := #[120] } : ByteArray).data.toList.length = 1 := rfl
    have hm2 : ({ data := #[121] } : ByteArray).data.toList.length = 1 := rfl
    by_cases c1 : w = 120 :: ns.getD i default
    · rw [if_pos c1] at hf
      repeat (first | refine wKB ?_ | refine awp_seq_k (fun K hK => ?_) | refine areg_text mixed tyok (by decide +kernel) ?_ | refine qal tyok (fun bx => ?_) | refine qbox (fun bx => ?_) | refine qboxV (fun bx => ?_) | ((repeat ((fail_if_success (refine hK _ _ ?_)); clear hK)); refine hK _ _ ?_; clear hK))
      refine awp_cond rfl (fun _ => ?_) (fun hb => absurd ((beq_iff_eq.2 c1).symm.trans (show (w == 120 :: ns.getD i default) = false from hb)) (by decide))
      repeat (first | refine wKB ?_ | refine awp_seq_k (fun K hK => ?_) | refine areg_text mixed tyok (by decide +kernel) ?_ | refine qal tyok (fun bx => ?_) | refine qbox (fun bx => ?_) | refine qboxV (fun bx => ?_) | ((repeat ((fail_if_success (refine hK _ _ ?_)); clear hK)); refine hK _ _ ?_; clear hK))
      refine r1 ?_
      exact Sub.of_eq (by rw [← hf]; rfl)
    rw [if_neg c1] at hf
    by_cases c2 : w = 121 :: ns.getD i default
    · rw [if_pos c2] at hf
      repeat (first | refine wKB ?_ | refine awp_seq_k (fun K hK => ?_) | refine areg_text mixed tyok (by decide +kernel) ?_ | refine qal tyok (fun bx => ?_) | refine qbox (fun bx => ?_) | refine qboxV (fun bx => ?_) | ((repeat ((fail_if_success (refine hK _ _ ?_)); clear hK)); refine hK _ _ ?_; clear hK))
      refine awp_cond rfl (fun hb => absurd (beq_iff_eq.1 hb) c1) (fun _ => ?_)
      repeat (first | refine wKB ?_ | refine awp_seq_k (fun K hK => ?_) | refine areg_text mixed tyok (by decide +kernel) ?_ | refine qal tyok (fun bx => ?_) | refine qbox (fun bx => ?_) | refine qboxV (fun bx => ?_) | ((repeat ((fail_if_success (refine hK _ _ ?_)); clear hK)); refine hK _ _ ?_; clear hK))
      refine awp_cond rfl (fun _ => ?_) (fun hb => absurd ((beq_iff_eq.2 c2).symm.trans (show (w == 121 :: ns.getD i default) = false from hb)) (by decide))
      repeat (first | refine wKB ?_ | refine awp_seq_k (fun K hK => ?_) | refine areg_text mixed tyok (by decide +kernel) ?_ | refine qal tyok (fun bx => ?_) | refine qbox (fun bx => ?_) | refine qboxV (fun bx => ?_) | ((repeat ((fail_if_success (refine hK _ _ ?_)); clear hK)); refine hK _ _ ?_; clear hK))
      refine r1 ?_
      exact Sub.of_eq (by rw [← hf]; rfl)
    rw [if_neg c2] at hf
    repeat (first | refine wKB ?_ | refine awp_seq_k (fun K hK => ?_) | refine areg_text mixed tyok (by decide +kernel) ?_ | refine qal tyok (fun bx => ?_) | refine qbox (fun bx => ?_) | refine qboxV (fun bx => ?_) | ((repeat ((fail_if_success (refine hK _ _ ?_)); clear hK)); refine hK _ _ ?_; clear hK))
    refine awp_cond rfl (fun hb => absurd (beq_iff_eq.1 hb) c1) (fun _ => ?_)
    repeat (first | refine wKB ?_ | refine awp_seq_k (fun K hK => ?_) | refine areg_text mixed tyok (by decide +kernel) ?_ | refine qal tyok (fun bx => ?_) | refine qbox (fun bx => ?_) | refine qboxV (fun bx => ?_) | ((repeat ((fail_if_success (refine hK _ _ ?_)); clear hK)); refine hK _ _ ?_; clear hK))
    refine awp_cond rfl (fun hb => absurd (beq_iff_eq.1 hb) c2) (fun _ => ?_)
    repeat (first | refine wKB ?_ | refine awp_seq_k (fun K hK => ?_) | refine areg_text mixed tyok (by decide +kernel) ?_ | refine qal tyok (fun bx => ?_) | refine qbox (fun bx => ?_) | refine qboxV (fun bx => ?_) | ((repeat ((fail_if_success (refine hK _ _ ?_)); clear hK)); refine hK _ _ ?_; clear hK))
    exact ⟨⟨i + 1, hlt, hf⟩, (by (repeat (first | exact True.intro | refine ⟨⟨_, rfl, Sub.refl _⟩, ?_⟩ | refine ⟨⟨_, rfl, Sub.nilso _ _⟩, ?_⟩ | refine ⟨⟨_, rfl, sl_tail _ _ _ _ _⟩, ?_⟩ | refine ⟨⟨_, rfl, Sub.of_eq (by first | rfl | (congr 1; first | omega | (simp only; omega)) | (simp; done) | (simp; omega))⟩, ?_⟩ | refine ⟨⟨_, rfl, Sub.view _ _ _ _⟩, ?_⟩))), (by (first | exact ⟨0, rfl⟩ | exact ⟨1, rfl⟩ | exact ⟨2, rfl⟩ | exact ⟨3, rfl⟩ | exact ⟨4, rfl⟩)), by simp only; omega⟩
  · have hge : ¬ (i : Int) < ((min ns.length cs.length : Nat) : Int) := by omega
    have he : findF (ns.drop i) (cs.drop i) w = 0 := by
      refine findF_short _ _ _ ?_
      by_cases h : ns.length ≤ cs.length
      · exact .inl (List.drop_eq_nil_of_le (by omega))
      · exact .inr (List.drop_eq_nil_of_le (by omega))
    repeat (first | refine wKB ?_ | refine awp_seq_k (fun K hK => ?_) | refine areg_text mixed tyok (by decide +kernel) ?_ | refine qal tyok (fun bx => ?_) | refine qbox (fun bx => ?_) | refine qboxV (fun bx => ?_) | ((repeat ((fail_if_success (refine hK _ _ ?_)); clear hK)); refine hK _ _ ?_; clear hK))
    refine r1 ?_
    exact Sub.of_eq (by rw [← hf, he])

def kn25 : List UInt8 := [108, 105, 109, 105, 116, 115, 32, 49, 32, 49, 32, 49, 32, 49, 10, 109, 111, 100, 101, 32, 115, 105, 109, 112, 108, 101, 10, 112, 111, 105, 110, 116, 32, 65, 32, 66, 10, 77, 32, 61, 32, 111, 110, 32, 65, 32, 66, 10, 78, 32, 61, 32, 109, 105, 100, 112, 111, 105, 110, 116, 32, 65, 32, 66, 10, 115, 104, 111, 119, 32, 115, 97, 109, 101, 32, 77, 32, 78]
noncomputable def kn25B (x : (Int × Int × Int) ⊕ List StR) : Bool := match x with
  | .inl _ => false
  | .inr r => decide (r.length ≤ 100) && r.all (fun x => decide (x.args.length ≤ 100)) && (namesF (r.map StR.up) == [[65], [66], [77], [78]]) && (manyF (r.map StR.up) == [0, 0, 1, 2])

set_option maxRecDepth 100000 in
theorem kn25K : kn25B (scriptF kn25) = true := by rw [scriptF_K]; decide +kernel

theorem cbKn25 : Callable Tryz.prog 13 := fun _ _ => by kernel_rfl
set_option maxHeartbeats 3200000 in
set_option maxRecDepth 100000 in
theorem known25_c : PCalls Tryz.prog 13 [] (.bool true) := by
  refine pcalls_of_awp tyok cbKn25 Tryz.func13 rfl rfl ?_
  have g1 := script22_c kn25 (by decide)
  have h4 := kn25K
  cases hs : scriptF kn25 with
  | inl p => rw [hs] at h4; cases h4
  | inr r =>
    rw [hs] at g1 h4
    simp only [kn25B, Bool.and_eq_true, decide_eq_true_eq, beq_iff_eq, List.all_eq_true] at h4
    obtain ⟨⟨⟨a1, a2⟩, a3⟩, a4⟩ := h4
    obtain ⟨i1, i2, i3⟩ := scriptF_inr hs
    simp only [scriptV] at g1
    have gv := of_view (r.map StR.up) (by rw [List.length_map]; omega) (fun x hx => by
      obtain ⟨y, hy, rfl⟩ := List.mem_map.1 hx
      have := a2 y hy
      show (y.args.map TokR.up).length ≤ _
      rw [List.length_map]
      omega) i3
    rw [a3, a4] at gv
    have gv2 := PCalls.sub gv (.cons (stmts_up r) .nil)
    have e1 : parN [0, 0, 1, 2] = 5 := by decide
    have e2 : (5 : Int) + depN [0, 0, 1, 2] = 8 := by decide
    have e3 : pairsC (cel2 [0, 0, 1, 2] 0 5) = [(1, 2), (3, 4), (5, 6), (7, 8)] := by decide
    rw [e1, e2, e3] at gv2
    have hw : ∀ x ∈ ([[65], [66], [77], [78]] : List (List UInt8)), x.length ≤ 1000000000000000 := by decide
    have n5 := name_c [[65], [66], [77], [78]] [(1, 2), (3, 4), (5, 6), (7, 8)] 5 8 5 (by decide) (by decide) hw
    have n6 := name_c [[65], [66], [77], [78]] [(1, 2), (3, 4), (5, 6), (7, 8)] 5 8 6 (by decide) (by decide) hw
    have n8 := name_c [[65], [66], [77], [78]] [(1, 2), (3, 4), (5, 6), (7, 8)] 5 8 8 (by decide) (by decide) hw
    have f7 := find_c [[65], [66], [77], [78]] [(1, 2), (3, 4), (5, 6), (7, 8)] 5 8 [120, 78] (by decide) (by decide) hw
    rw [show nameF [[65], [66], [77], [78]] [(1, 2), (3, 4), (5, 6), (7, 8)] 5 = [120, 77] by decide] at n5
    rw [show nameF [[65], [66], [77], [78]] [(1, 2), (3, 4), (5, 6), (7, 8)] 6 = [121, 77] by decide] at n6
    rw [show nameF [[65], [66], [77], [78]] [(1, 2), (3, 4), (5, 6), (7, 8)] 8 = [121, 78] by decide] at n8
    rw [show findF [[65], [66], [77], [78]] [(1, 2), (3, 4), (5, 6), (7, 8)] [120, 78] = 7 by decide] at f7
    unfold layV at gv2 n5 n6 n8 f7
    repeat (first | refine wKB ?_ | refine awp_seq_k (fun K hK => ?_) | refine areg_text mixed tyok (by decide +kernel) ?_ | refine qal tyok (fun bx => ?_) | refine qbox (fun bx => ?_) | refine qboxV (fun bx => ?_) | refine TR.pcall rfl rfl rfl rfl True.intro rfl rfl (g1) ?_ | refine TR.pcall rfl rfl rfl rfl True.intro rfl rfl (gv2) ?_ | refine TR.pcall rfl rfl rfl rfl True.intro rfl rfl (n5) ?_ | refine TR.pcall rfl rfl rfl rfl True.intro rfl rfl (n6) ?_ | refine TR.pcall rfl rfl rfl rfl True.intro rfl rfl (n8) ?_ | refine TR.pcall rfl rfl rfl rfl True.intro rfl rfl (f7) ?_ | refine pco rfl rfl rfl rfl rfl rfl rfl rfl (fun _ => g1) ?_ | refine pco rfl rfl rfl rfl rfl rfl rfl rfl (fun _ => gv2) ?_ | refine pco rfl rfl rfl rfl rfl rfl rfl rfl (fun _ => n5) ?_ | refine pco rfl rfl rfl rfl rfl rfl rfl rfl (fun _ => n6) ?_ | refine pco rfl rfl rfl rfl rfl rfl rfl rfl (fun _ => n8) ?_ | refine pco rfl rfl rfl rfl rfl rfl rfl rfl (fun _ => f7) ?_ | ((repeat ((fail_if_success (refine hK _ _ ?_)); clear hK)); refine hK _ _ ?_; clear hK))
    refine r1 ?_
    exact Sub.refl _

end Go.Proofs.YtjinaakebjfbiaaGreatDoor
