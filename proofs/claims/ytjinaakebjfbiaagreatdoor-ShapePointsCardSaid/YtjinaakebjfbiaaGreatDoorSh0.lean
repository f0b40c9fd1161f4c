/-
  Plain law of layer 22: what is met first in statements; the points.
-/
import Derived.Test.YtjinaakebjfbiaaGreatDoorSi
import Derived.Test.YtjinaakebjfbiaaGreatDoorFg6
namespace Go.Proofs.YtjinaakebjfbiaaGreatDoor
open Go.Ab

/-- What was met first (0: nothing), where; the points. -/
structure LkR where
  e : Int
  ln : Int
  co : Int
  ns : List (List UInt8)

def LkR.meet (s : LkR) (b : Bool) (e ln co : Int) : LkR := match b && decide (s.e = 0) with
  | true => ⟨e, ln, co, s.ns⟩
  | false => s

theorem meet_dead {s : LkR} (h : s.e ≠ 0) (b : Bool) (e ln co : Int) : s.meet b e ln co = s := by
  unfold LkR.meet
  rw [decide_eq_false h, Bool.and_false]

theorem meet_false (s : LkR) (e ln co : Int) : s.meet false e ln co = s := rfl

theorem meet_true {s : LkR} (h : s.e = 0) (e ln co : Int) : s.meet true e ln co = ⟨e, ln, co, s.ns⟩ := by
  unfold LkR.meet
  rw [decide_eq_true h]
  rfl

theorem meet_ns (s : LkR) (b : Bool) (e ln co : Int) : (s.meet b e ln co).ns = s.ns := by
  unfold LkR.meet
  split <;> rfl

theorem meet_zero {s : LkR} {b : Bool} {e ln co : Int} (he : e ≠ 0) (h : (s.meet b e ln co).e = 0) : s.e = 0 ∧ b = false := by
  unfold LkR.meet at h
  split at h
  · exact absurd h he
  · rename_i hb
    refine ⟨h, ?_⟩
    rw [decide_eq_true h, Bool.and_true] at hb
    exact hb

def LkR.fresh (s : LkR) (t : TokI) : LkR := (s.meet (s.ns.contains t.w) 6 t.ln t.co).meet (decide (40 ≤ (s.ns.length : Int))) 13 t.ln t.co

def LkR.add (s : LkR) (t : TokI) : LkR := match decide (s.e = 0) with
  | true => { s with ns := s.ns ++ [t.w] }
  | false => s

theorem fresh_ns (s : LkR) (t : TokI) : (s.fresh t).ns = s.ns := by
  unfold LkR.fresh
  rw [meet_ns, meet_ns]

theorem fresh_dead {s : LkR} (h : s.e ≠ 0) (t : TokI) : s.fresh t = s := by
  unfold LkR.fresh
  rw [meet_dead h, meet_dead h]

theorem fresh_zero {s : LkR} {t : TokI} (h : (s.fresh t).e = 0) : s.e = 0 ∧ s.ns.contains t.w = false ∧ s.ns.length < 40 := by
  unfold LkR.fresh at h
  obtain ⟨h1, h2⟩ := meet_zero (by decide) h
  obtain ⟨h3, h4⟩ := meet_zero (by decide) h1
  exact ⟨h3, h4, by have := of_decide_eq_false h2; omega⟩

theorem add_dead {s : LkR} (h : s.e ≠ 0) (t : TokI) : s.add t = s := by
  unfold LkR.add
  rw [decide_eq_false h]

theorem add_live {s : LkR} (h : s.e = 0) (t : TokI) : s.add t = { s with ns := s.ns ++ [t.w] } := by
  unfold LkR.add
  rw [decide_eq_true h]

theorem add_e (s : LkR) (t : TokI) : (s.add t).e = s.e := by
  unfold LkR.add
  split <;> rfl

/-- Two that must be unlike: the later one is the i-th. -/
def alike (A : List TokI) (i : Nat) (w : List UInt8) (u : Int × Int) : Bool := decide (u.2 = (i : Int)) && ((A.getD u.1.toNat default).w == w)

def numM (f : FigR) (i : Nat) (t : TokI) (s : LkR) : LkR := (s.meet (decide (t.k ≠ 3)) 14 t.ln t.co).meet (decide ((i : Int) = f.pts + f.nums - 1) && decide (t.n = 0)) 4 t.ln t.co
def ptM (f : FigR) (A : List TokI) (i : Nat) (t : TokI) (s : LkR) : LkR := ((s.meet (decide (t.k ≠ 1)) 14 t.ln t.co).meet (!s.ns.contains t.w) 5 t.ln t.co).meet (f.unl.any (alike A i t.w)) 15 t.ln t.co

/-- A figure's arguments. -/
def argsG (f : FigR) (A : List TokI) (el ec : Int) : Nat → List TokI → LkR → LkR
  | _, [], s => s.meet (decide ((A.length : Int) < f.pts + f.nums)) 13 el ec
  | i, t :: l, s => if f.pts + f.nums ≤ (i : Int) then s.meet true 13 t.ln t.co
    else if f.pts ≤ (i : Int) then argsG f A el ec (i + 1) l (numM f i t s)
    else argsG f A el ec (i + 1) l (ptM f A i t s)

def argsF (f : FigR) (x : StI) (s : LkR) : LkR := argsG f x.args x.l2 x.c2 0 x.args s

theorem numM_ns (f : FigR) (i : Nat) (t : TokI) (s : LkR) : (numM f i t s).ns = s.ns := by
  unfold numM
  rw [meet_ns, meet_ns]
theorem ptM_ns (f : FigR) (A : List TokI) (i : Nat) (t : TokI) (s : LkR) : (ptM f A i t s).ns = s.ns := by
  unfold ptM
  rw [meet_ns, meet_ns, meet_ns]
theorem numM_dead {f : FigR} {i : Nat} {t : TokI} {s : LkR} (h : s.e ≠ 0) : numM f i t s = s := by
  unfold numM
  rw [meet_dead h, meet_dead h]
theorem ptM_dead {f : FigR} {A : List TokI} {i : Nat} {t : TokI} {s : LkR} (h : s.e ≠ 0) : ptM f A i t s = s := by
  unfold ptM
  rw [meet_dead h, meet_dead h, meet_dead h]

theorem argsG_ns (f : FigR) (A : List TokI) (el ec : Int) : ∀ (l : List TokI) (i : Nat) (s : LkR), (argsG f A el ec i l s).ns = s.ns
  | [], _, _ => meet_ns ..
  | t :: l, i, s => by
    unfold argsG
    split
    · exact meet_ns ..
    split
    · rw [argsG_ns f A el ec l, numM_ns]
    · rw [argsG_ns f A el ec l, ptM_ns]

theorem argsG_dead (f : FigR) (A : List TokI) (el ec : Int) : ∀ (l : List TokI) (i : Nat) {s : LkR}, s.e ≠ 0 → argsG f A el ec i l s = s
  | [], _, _, h => meet_dead h ..
  | t :: l, i, s, h => by
    unfold argsG
    rw [meet_dead h, numM_dead h, ptM_dead h, argsG_dead f A el ec l (i + 1) h]
    split
    · rfl
    split <;> rfl

theorem numM_zero {f : FigR} {i : Nat} {t : TokI} {s : LkR} (h : (numM f i t s).e = 0) : s.e = 0 := by
  by_cases hs : s.e = 0
  · exact hs
  · rw [numM_dead hs] at h; exact h
theorem ptM_zero {f : FigR} {A : List TokI} {i : Nat} {t : TokI} {s : LkR} (h : (ptM f A i t s).e = 0) : s.e = 0 := by
  by_cases hs : s.e = 0
  · exact hs
  · rw [ptM_dead hs] at h; exact h
theorem argsG_zero {f : FigR} {A : List TokI} {el ec : Int} {l : List TokI} {i : Nat} {s : LkR} (h : (argsG f A el ec i l s).e = 0) : s.e = 0 := by
  by_cases hs : s.e = 0
  · exact hs
  · rw [argsG_dead f A el ec l i hs] at h; exact h

/-- The figure, or the empty one. -/
def fig0 (o : Option FigR) : FigR := match o with
  | some f => f
  | none => ⟨[], 0, 0, [], [], [], []⟩

def ptsG : List TokI → LkR → LkR
  | [], s => s
  | t :: l, s => ptsG l ((s.fresh t).add t)

noncomputable def stmtG (x : StI) (s : LkR) : LkR :=
  if x.k = 3 then ptsG x.args (s.meet (decide (x.args.length = 0)) 13 x.l2 x.c2)
  else if x.k = 4 then (argsF (fig0 (conF x.word.w)) x ((s.fresh x.new).meet (conF x.word.w).isNone 5 x.word.ln x.word.co)).add x.new
  else if x.k = 5 then argsF (fig0 (preF x.word.w)) x (s.meet (preF x.word.w).isNone 5 x.word.ln x.word.co)
  else s

theorem ptsG_dead : ∀ (l : List TokI) {s : LkR}, s.e ≠ 0 → ptsG l s = s
  | [], _, _ => rfl
  | t :: l, s, h => by
    unfold ptsG
    rw [fresh_dead h, add_dead h, ptsG_dead l h]

theorem stmtG_dead (x : StI) {s : LkR} (h : s.e ≠ 0) : stmtG x s = s := by
  unfold stmtG argsF
  split
  · rw [meet_dead h, ptsG_dead _ h]
  split
  · rw [fresh_dead h, meet_dead h, argsG_dead _ _ _ _ _ _ h, add_dead h]
  split
  · rw [meet_dead h, argsG_dead _ _ _ _ _ _ h]
  · rfl

theorem freshAdd_len {s : LkR} (t : TokI) (h : s.ns.length ≤ 40) : ((s.fresh t).add t).ns.length ≤ 40 := by
  by_cases he : (s.fresh t).e = 0
  · rw [add_live he]
    have := fresh_zero he
    simp only [List.length_append, List.length_cons, List.length_nil, fresh_ns]
    omega
  · rw [add_dead he, fresh_ns]
    exact h

theorem ptsG_len : ∀ (l : List TokI) {s : LkR}, s.ns.length ≤ 40 → (ptsG l s).ns.length ≤ 40
  | [], _, h => h
  | t :: l, _, h => ptsG_len l (freshAdd_len t h)

theorem make_zero {f : FigR} {x : StI} {b : Bool} {l c : Int} {s : LkR} (h : (argsF f x ((s.fresh x.new).meet b 5 l c)).e = 0) : s.e = 0 ∧ s.ns.contains x.new.w = false ∧ s.ns.length < 40 :=
  fresh_zero (meet_zero (by decide) (argsG_zero h)).1

theorem make_ns (f : FigR) (x : StI) (b : Bool) (l c : Int) (s : LkR) : (argsF f x ((s.fresh x.new).meet b 5 l c)).ns = s.ns := by
  unfold argsF
  rw [argsG_ns, meet_ns, fresh_ns]

theorem stmtG_len (x : StI) {s : LkR} (h : s.ns.length ≤ 40) : (stmtG x s).ns.length ≤ 40 := by
  unfold stmtG
  split
  · exact ptsG_len _ (by rw [meet_ns]; exact h)
  split
  · by_cases he : (argsF (fig0 (conF x.word.w)) x ((s.fresh x.new).meet (conF x.word.w).isNone 5 x.word.ln x.word.co)).e = 0
    · have := make_zero he
      rw [add_live he]
      simp only [List.length_append, List.length_cons, List.length_nil, make_ns]
      omega
    · rw [add_dead he, make_ns]
      exact h
  split
  · unfold argsF
    rw [argsG_ns, meet_ns]
    exact h
  · exact h

def limB (l : List TokI) : Bool := match l with
  | [a, b, c, d] => decide (0 ≤ a.n ∧ a.n ≤ 1000000) && (decide (0 ≤ b.n ∧ b.n ≤ 10000) && (decide (0 ≤ c.n ∧ c.n ≤ 100000) && decide (0 ≤ d.n ∧ d.n ≤ 1000)))
  | _ => false

def wSimple : List UInt8 := [115, 105, 109, 112, 108, 101]
def wFull : List UInt8 := [102, 117, 108, 108]

/-- May a statement stand there, as the i-th one of n? -/
def placeB (n i : Nat) (x : StI) : Bool :=
  if i = 0 then decide (x.k = 1) && limB x.args
  else if i = 1 then decide (x.k = 2) && (x.word.w == wSimple || x.word.w == wFull)
  else if i + 1 = n then decide (x.k = 5)
  else decide (x.k = 3) || decide (x.k = 4)

noncomputable def lookG (n : Nat) : Nat → List StI → LkR → LkR
  | _, [], s => s
  | i, x :: l, s => lookG n (i + 1) l (stmtG x (s.meet (!placeB n i x) 4 x.l1 x.c1))

def shortAt (l : List StI) : Int × Int := match l.getLast? with
  | none => (1, 1)
  | some x => (x.l2, x.c2)

noncomputable def lookF (l : List StI) : LkR := lookG l.length 0 l (LkR.meet ⟨0, 0, 0, []⟩ (decide (l.length < 3)) 4 (shortAt l).1 (shortAt l).2)

theorem lookG_dead (n : Nat) : ∀ (l : List StI) (i : Nat) {s : LkR}, s.e ≠ 0 → lookG n i l s = s
  | [], _, _, _ => rfl
  | x :: l, i, s, h => by
    unfold lookG
    rw [meet_dead h, stmtG_dead x h, lookG_dead n l (i + 1) h]

theorem lookG_zero {n : Nat} {l : List StI} {i : Nat} {s : LkR} (h : (lookG n i l s).e = 0) : s.e = 0 := by
  by_cases hs : s.e = 0
  · exact hs
  · rw [lookG_dead n l i hs] at h; exact h

end Go.Proofs.YtjinaakebjfbiaaGreatDoor
