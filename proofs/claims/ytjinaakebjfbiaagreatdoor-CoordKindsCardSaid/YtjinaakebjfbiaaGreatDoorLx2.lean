/-
  The lexer's kinds of words, and what a word is.
-/
import Derived.Test.YtjinaakebjfbiaaGreatDoorLx1
import Derived.Lib.AtoiAll
import Derived.Lib.ItoaNum
namespace Go.Proofs.YtjinaakebjfbiaaGreatDoor
open Go.Ab

def kind3 (s : List UInt8) : Bool := allF namedR s 1 8 && decide (((s.getD 0 0).toNat : Int) ≥ 65) && decide (((s.getD 0 0).toNat : Int) ≤ 90)

theorem smallR_high (r : Int) (h : 128 ≤ r) : smallR r = false := by
  have : ¬ r ≤ 122 := by omega
  simp [smallR, this]
theorem namedR_high (r : Int) (h : 128 ≤ r) : namedR r = false := by
  have h1 : ¬ r ≤ 90 := by omega
  have h2 : ¬ r ≤ 57 := by omega
  simp [namedR, smallR_high r h, h1, h2]

theorem allF_pos {isR : Int → Bool} {s : List UInt8} {b : Int} (h : allF isR s 1 b = true) : 1 ≤ s.length := by
  simp only [allF, Bool.and_eq_true, decide_eq_true_eq] at h
  omega

def tokF (w : List UInt8) : Option (Int × Int) :=
  if w == [61] then some (4, 0)
  else if allF smallR w 1 16 then some (2, 0)
  else if kind3 w then some (1, 0)
  else match Lib.atoiAll w with
    | .ok v => if (!(Lib.itoa v == w) || decide (v > 1000000)) || decide (v < -1000000) then none else some (3, v)
    | _ => none

def encT (k : Int) (w : List UInt8) (n line col : Int) : List AV := [.int .u8 k, .str w, .int .i64 n, .int .i64 line, .int .i64 col]

def tokV (w : List UInt8) : AV := match tokF w with
  | some (k, n) => .tuple [.agg (encT k w n 0 0), .bool true]
  | none => .tuple [.agg (encT 0 [] 0 0 0), .bool false]

theorem atoi_bounds {l : List UInt8} {v : Int} (h : Lib.atoiAll l = .ok v) : -9223372036854775808 ≤ v ∧ v ≤ 9223372036854775807 := by
  unfold Lib.atoiAll at h
  split at h
  · cases h
  · simp only at h
    split at h
    · cases h
    · cases h
    · rename_i u _
      split at h
      · cases h
      · split at h
        · cases h
        · simp only [Lib.NumEnd.ok.injEq] at h
          subst h
          split <;> omega

end Go.Proofs.YtjinaakebjfbiaaGreatDoor
