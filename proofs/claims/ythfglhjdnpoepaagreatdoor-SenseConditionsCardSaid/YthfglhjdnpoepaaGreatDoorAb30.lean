/-
  What may come in any order, and what only reckons among it.
-/
import Derived.Test.YthfglhjdnpoepaaGreatDoorAb29
namespace Go.Ab
section
variable {P : Program} {N : Nat} {ty : TypeId → Option TyI} {Q : APost}

/-- All that is left of A, in any order that their edges allow; then τ. -/
def AllX (P : Program) (N : Nat) (ty : TypeId → Option TyI) (l : List Oper) (LD : LDs) (Q : APost) (τ : List Nat) : Nat → List Nat → Tmps → AHeap → Prop
  | 0, _, T, H => TR P N ty l LD false (pQ l Q) (sel l τ) T H
  | n + 1, A, T, H => ∀ a ∈ A, (∀ b ∈ A.erase a, ¬ Anc l a b) → (hardAt l LD.sc a = true ∧ OneO P N l LD a T H (AllX P N ty l LD Q τ n (A.erase a))) ∨
      (hardAt l LD.sc a = false ∧ TR P N ty l LD false (pQ l (fun x T H => match x with | .normal => AllX P N ty l LD Q τ n (A.erase a) T H | x => Q x T H)) (sel l [a]) T H)

/-- After s, all of A in any order; then τ. -/
def Qx (P : Program) (N : Nat) (ty : TypeId → Option TyI) (l : List Oper) (LD : LDs) (Q : APost) (τ A : List Nat) : APost := fun x T H => match x with
  | .normal => AllX P N ty l LD Q τ A.length A T H
  | x => Q x T H

def CX (P : Program) (N : Nat) (ty : TypeId → Option TyI) (l : List Oper) (LD : LDs) (mv : Nat → Bool) (Q : APost) (τ : List Nat) (rest : List Nat) (T : Tmps) (H : AHeap) : Prop :=
  (TR P N ty l LD false (pQ l Q) (sel l rest) T H ∧ ∀ t ∈ rest, mv t = false) ∨
  ∃ s A' A, rest = s ++ (A' ++ τ) ∧ A'.Perm A ∧ A' ≠ [] ∧ (∀ j ∈ s, mv j = false ∧ hardAt l LD.sc j = false) ∧ (∀ a ∈ A', mv a = true) ∧ A'.Pairwise (fun a b => ¬ Anc l a b) ∧ TR P N ty l LD false (pQ l (Qx P N ty l LD Q τ A)) (sel l s) T H

theorem Anc.lt {l : List Oper} (he : ∀ (i : Nat) (o : Oper) (e : Edge), l[i]? = some o → e ∈ o.after → Region.binds .any e = true → e.on < i) {i j : Nat} (h : Anc l i j) : j < i := by
  induction h with
  | edge ho hm hb => exact he _ _ _ ho hm hb
  | trans ho hm hb _ ih => have := he _ _ _ ho hm hb; omega

def anyOk (l : List Oper) (σ A τ : List Nat) : Bool :=
  A.all (fun a => A.all fun b => Nat.beq a b || (ancB (ancsOf l []) a b || pairOkM [] l (ancsOf l []) (fun i => A.contains i) a b)) && σ.all (fun j => !A.contains j && !hardAt l (fun x => ([] : List Nat).contains x) j) && τ.all (fun t => !A.contains t) && !A.isEmpty && pairsOk (fun a b => Nat.blt a b) A &&
  A.all fun a => hardAt l (fun x => ([] : List Nat).contains x) a || !loadOk [] l (ancsOf l []) [] 0 (σ ++ (A ++ τ)) a

end
end Go.Ab
