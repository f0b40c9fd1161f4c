/-
  Plain law: more blanks, remarks behind, lines without words; statements told line by line.
-/
import Derived.Test.YtjinaakebjfbiaaGreatDoorSm
import Derived.Test.YtjinaakebjfbiaaGreatDoorJn
namespace Go.Proofs.YtjinaakebjfbiaaGreatDoor
open Go.Ab

def bl3 : List UInt8 := [32, 32, 32]
/-- What stands behind a line: two blanks, a remark. -/
def rmkB : List UInt8 := [32, 32, 35, 32, 97, 32, 114, 101, 109, 97, 114, 107]
def blBody (l : List TokR) : List UInt8 := bl3 ++ Lib.join (l.map (·.w)) bl3 ++ rmkB
def blLine (l : List TokR) : List UInt8 := bl3 ++ Lib.join (l.map (·.w)) bl3 ++ [32, 32, 35, 32, 97, 32, 114, 101, 109, 97, 114, 107, 10, 32, 32, 32, 10]
def blHead : List UInt8 := [10, 32, 32, 35, 32, 97, 32, 114, 101, 109, 97, 114, 107, 10]
def blCat : List (List TokR) → List UInt8
  | [] => []
  | l :: r => blLine l ++ blCat r

/-- Words without their places. -/
def wW : List (List UInt8) → List (List UInt8)
  | [] => []
  | p :: ps => if Lib.hasPrefix p [35] then [] else if p = [] then wW ps else p :: wW ps

/-! Statements told line by line. -/

def lnCat : List (List TokR) → List UInt8
  | [] => []
  | l :: r => wordT l ++ 10 :: lnCat r

theorem lnCat_split : ∀ (r : List (List TokR)), (∀ l ∈ r, ∀ t ∈ l, goodT t) → splitC 10 (lnCat r) = r.map wordT ++ [[]]
  | [], _ => rfl
  | l :: r, h => by
    rw [lnCat, splitC_app 10 _ _ (wordT_no (h l (List.mem_cons_self ..))), lnCat_split r fun x hx => h x (List.mem_cons_of_mem _ hx)]
    rfl

theorem lnCat_lines {s : List UInt8} {r : List (List TokR)} (h : linesF s = .inr r) : linesF (lnCat r) = .inr (reL 0 r) := by
  have hg := linesF_good h
  unfold linesF
  rw [lnCat_split r fun l hl => (hg l hl).2, linesG_app, linesG_told r 0 hg]
  have w1 : wordsF [] = [] := by kernel_rfl
  simp [appS, linesG, w1, toksF, preS]

theorem lnCat_len : ∀ (r : List (List TokR)), (lnCat r).length = cntL (r.map wordT)
  | [] => rfl
  | l :: r => by
    have e : cntL ((l :: r).map wordT) = (wordT l).length + 1 + cntL (r.map wordT) := rfl
    simp only [lnCat, List.length_append, List.length_cons, lnCat_len r, e]
    omega

end Go.Proofs.YtjinaakebjfbiaaGreatDoor
