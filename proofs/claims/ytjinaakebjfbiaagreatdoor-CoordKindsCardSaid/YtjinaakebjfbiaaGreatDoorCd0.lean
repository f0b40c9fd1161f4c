/-
  Plain law of layer 25: the numbers of points' coordinates; their names.
-/
import Derived.Test.YtjinaakebjfbiaaGreatDoorShM
import Derived.Test.YtjinaakebjfbiaaGreatDoorAb29
namespace Go.Proofs.YtjinaakebjfbiaaGreatDoor
open Go.Ab

/-- By how many equations each point is made. -/
noncomputable def manyOf (x : StI) : List Int := if x.k = 3 then x.args.map (fun _ => 0) else if x.k = 4 then [((fig0 (conF x.word.w)).eqs.length : Int)] else []
noncomputable def manyF (l : List StI) : List Int := l.flatMap manyOf

theorem manyOf_len (x : StI) : (manyOf x).length = (namesOf x).length := by
  unfold manyOf namesOf
  split
  · simp
  split <;> rfl

theorem manyF_len : ∀ l : List StI, (manyF l).length = (namesF l).length
  | [] => rfl
  | x :: l => by
    rw [namesF_cons, show manyF (x :: l) = manyOf x ++ manyF l from rfl, List.length_append, List.length_append, manyOf_len, manyF_len l]

def parA (n : Int) : Int := (if n < 2 then 1 else 0) + (if n < 1 then 1 else 0)
def depA (n : Int) : Int := (if n = 2 then 1 else 0) + (if 1 ≤ n then 1 else 0)
def parN (ns : List Int) : Int := (ns.map parA).sum
def depN (ns : List Int) : Int := (ns.map depA).sum

theorem parA_bd (n : Int) : 0 ≤ parA n ∧ parA n ≤ 2 := by
  unfold parA
  split <;> split <;> omega
theorem depA_bd (n : Int) : 0 ≤ depA n ∧ depA n ≤ 2 := by
  unfold depA
  split <;> split <;> omega
theorem parN_snoc (ns : List Int) (n : Int) : parN (ns ++ [n]) = parN ns + parA n := by simp [parN]
theorem depN_snoc (ns : List Int) (n : Int) : depN (ns ++ [n]) = depN ns + depA n := by simp [depN]
theorem parN_bd : ∀ ns : List Int, 0 ≤ parN ns ∧ parN ns ≤ 2 * ns.length
  | [] => by simp [parN]
  | n :: ns => by
    have h1 := parN_bd ns
    have h2 := parA_bd n
    have e : parN (n :: ns) = parA n + parN ns := by simp [parN]
    rw [e]
    simp only [List.length_cons]
    omega
theorem depN_bd : ∀ ns : List Int, 0 ≤ depN ns ∧ depN ns ≤ 2 * ns.length
  | [] => by simp [depN]
  | n :: ns => by
    have h1 := depN_bd ns
    have h2 := depA_bd n
    have e : depN (n :: ns) = depA n + depN ns := by simp [depN]
    rw [e]
    simp only [List.length_cons]
    omega

/-- The cells behind the first pass; behind the second. -/
def cel1 : List Int → Int → List Int
  | [], _ => []
  | n :: ns, p => (if n < 2 then p + 1 else 0) :: (if n < 1 then p + 2 else 0) :: cel1 ns (p + parA n)
def cel2 : List Int → Int → Int → List Int
  | [], _, _ => []
  | n :: ns, p, d => (if n < 2 then p + 1 else if n = 2 then d + 1 else 0) :: (if n < 1 then p + 2 else d + depA n) :: cel2 ns (p + parA n) (d + depA n)

theorem cel1_len : ∀ (ns : List Int) (p : Int), (cel1 ns p).length = 2 * ns.length
  | [], _ => rfl
  | n :: ns, p => by
    simp only [cel1, List.length_cons, cel1_len ns]
    omega
theorem cel2_len : ∀ (ns : List Int) (p d : Int), (cel2 ns p d).length = 2 * ns.length
  | [], _, _ => rfl
  | n :: ns, p, d => by
    simp only [cel2, List.length_cons, cel2_len ns]
    omega
theorem cel1_snoc : ∀ (ns : List Int) (n p : Int), cel1 (ns ++ [n]) p = cel1 ns p ++ [if n < 2 then p + parN ns + 1 else 0, if n < 1 then p + parN ns + 2 else 0]
  | [], n, p => by simp [cel1, parN]
  | m :: ns, n, p => by
    have e : parN (m :: ns) = parA m + parN ns := by simp [parN]
    rw [List.cons_append, cel1, cel1_snoc ns, cel1, e]
    simp only [List.cons_append, Int.add_assoc]
theorem cel2_snoc : ∀ (ns : List Int) (n p d : Int), cel2 (ns ++ [n]) p d = cel2 ns p d ++ [if n < 2 then p + parN ns + 1 else if n = 2 then d + depN ns + 1 else 0, if n < 1 then p + parN ns + 2 else d + depN ns + depA n]
  | [], n, p, d => by simp [cel2, parN, depN]
  | m :: ns, n, p, d => by
    have e : parN (m :: ns) = parA m + parN ns := by simp [parN]
    have e2 : depN (m :: ns) = depA m + depN ns := by simp [depN]
    rw [List.cons_append, cel2, cel2_snoc ns, cel2, e, e2]
    simp only [List.cons_append, Int.add_assoc]

theorem set_one {A R : List Int} {a v : Int} {k : Nat} (h : A.length = k) : (A ++ a :: R).set k v = A ++ v :: R := by
  subst h
  simp
theorem set_two {A R : List Int} {a b v : Int} {k : Nat} (h : A.length = k) : (A ++ a :: b :: R).set (k + 1) v = A ++ a :: v :: R := by
  have e : A ++ a :: b :: R = (A ++ [a]) ++ b :: R := by simp
  rw [e, set_one (by simp [h])]
  simp

/-- Pairs of cells. -/
def pairsC : List Int → List (Int × Int)
  | a :: b :: l => (a, b) :: pairsC l
  | _ => []
def cooE (c : Int × Int) : List AV := [.int .i64 c.1, .int .i64 c.2]

theorem pairsC_len : ∀ (l : List Int) (m : Nat), l.length = 2 * m → (pairsC l).length = m
  | [], m, h => by
    have : m = 0 := by simp only [List.length_nil] at h; omega
    subst this
    rfl
  | [a], m, h => by simp at h; omega
  | a :: b :: l, m, h => by
    simp only [List.length_cons] at h
    simp only [pairsC, List.length_cons]
    rw [pairsC_len l (m - 1) (by omega)]
    omega

theorem pairsC_get : ∀ (l : List Int) (i : Nat), 2 * i + 1 < l.length → (pairsC l).getD i default = (l.getD (2 * i) 0, l.getD (2 * i + 1) 0)
  | [], i, h => by simp at h
  | [a], i, h => by simp at h
  | a :: b :: l, 0, _ => rfl
  | a :: b :: l, i + 1, h => by
    have ih := pairsC_get l i (by simp only [List.length_cons] at h; omega)
    have e : 2 * (i + 1) = 2 * i + 1 + 1 := by omega
    simp only [pairsC, List.getD_cons_succ, e]
    exact ih

/-- Such an array that stands still: its pairs. -/
theorem rowI_view {g m : Nat} {xs : List Int} (h : xs.length = 2 * m) : SubH g xs.length (fun j => .int .i64 (xs.getD j 0)) (.mslice g 0 m m) (sl cooE 2 (pairsC xs) .view) := by
  have e : (pairsC xs).length = m := pairsC_len xs m h
  unfold sl
  rw [e]
  refine SubH.row (by omega) (Nat.le_refl _) (fun _ _ => rfl) fun i j v hi hv => ?_
  rw [pairsC_get xs i (by omega)] at hv
  match j, hv with
  | 0, hv =>
    cases hv
    rw [Nat.mul_comm i 2]
    rfl
  | 1, hv =>
    cases hv
    rw [Nat.mul_comm i 2]
  | j + 2, hv => cases hv

/-! Names. -/

def nameF : List (List UInt8) → List (Int × Int) → Int → List UInt8
  | n :: ns, c :: cs, v => if v = c.1 then 120 :: n else if v = c.2 then 121 :: n else nameF ns cs v
  | _, _, _ => []
def findF : List (List UInt8) → List (Int × Int) → List UInt8 → Int
  | n :: ns, c :: cs, w => if w = 120 :: n then c.1 else if w = 121 :: n then c.2 else findF ns cs w
  | _, _, _ => 0

end Go.Proofs.YtjinaakebjfbiaaGreatDoor
