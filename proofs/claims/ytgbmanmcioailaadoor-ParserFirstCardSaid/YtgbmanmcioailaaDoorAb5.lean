/-
  Regions: a list of operations as a chain of steps (TR), each a reckoning, an operation passed over, a load of a box, or an operation that acts; and that a region does so, in the order of its text.
-/
import Derived.Test.YtgbmanmcioailaaDoorAb4
namespace Go.Ab

/-! Lookups at some slots alone. -/

def tmpsOf (op : Op) : List Nat := op.operands.toList.filterMap fun | .tmp t => some t | _ => none

/-- Of the slots L: what is known; an optional value by its own. -/
def opvL (L : List Nat) (T : Tmps) : Operand → Option AV
  | .tmp t => cond (L.contains t) (match lk T t with
    | some (.opt _ _ v) => some v
    | r => r) none
  | .const v => ofConst v
  | .global _ => none
  | .func f => some (.func (.func f) [] [])

/-- All optional values among the slots L are there under a condition. -/
def optN (c : Prop) (T : Tmps) : List Nat → Prop
  | [] => True
  | t :: L => match lk T t with
    | some (.opt x b _) => (c → x = b) ∧ optN c T L
    | _ => optN c T L

theorem optN_spec {c : Prop} {T : Tmps} : ∀ {L : List Nat}, optN c T L → ∀ t ∈ L, ∀ x b v, lk T t = some (.opt x b v) → c → x = b
  | t :: L, h, u, hu, x, b, v, hl, hc => by
    unfold optN at h
    rcases List.mem_cons.1 hu with rfl | hu
    · rw [hl] at h
      exact h.1 hc
    · split at h
      · exact optN_spec h.2 u hu x b v hl hc
      · exact optN_spec h u hu x b v hl hc

theorem opvL_rep {N : Nat} {st : Stab} {w : World} {T : Tmps} {a : Act} {L : List Nat} {c : Prop} (hf : ∀ t ∈ L, ∀ v, lk T t = some v → ∃ x, a.tmps[t]? = some x ∧ Rep st w v x) (ho : optN c T L) (hc : c)
    (_hs : a.tmps.size = N) {x : Operand} {v : AV} (h : opvL L T x = some v) : Rep st w v (a.eval x) := by
  cases x with
  | tmp t =>
    simp only [opvL] at h
    cases hL : L.contains t with
    | false => simp only [hL, cond_false, reduceCtorEq] at h
    | true =>
      simp only [hL, cond_true] at h
      have hm : t ∈ L := by simpa using hL
      split at h
      · rename_i x b u hl
        obtain ⟨y, h1, h2⟩ := hf t hm _ hl
        simp at h
        subst h
        have hxb := optN_spec ho t hm x b u hl hc
        cases h2 with
        | opt _ _ _ _ h3 _ => simpa [Act.eval, h1] using h3 hxb
      · obtain ⟨y, h1, h2⟩ := hf t hm v h
        simpa [Act.eval, h1] using h2
  | const c => exact ofConst_rep h
  | global g => simp [opvL] at h
  | func f =>
    simp [opvL] at h
    subst h
    exact Rep.func (.func f) [] [] [] [] rfl rfl (by simp) (by simp)

def putO (d : Option Tmp) (v : AV) (T : Tmps) : Tmps :=
  match d with
  | some d => (d, v) :: T
  | none => T

def dstOk (d : Option Tmp) (N : Nat) : Bool :=
  match d with
  | some d => Nat.ble (d + 1) N
  | none => true

theorem FR.putO {N : Nat} {st : Stab} {w : World} {T : Tmps} {a : Act} (h : FR N st w T a) {d : Option Tmp} (hd : dstOk d N = true) {v : AV} {c : Value} (hr : Rep st w v c) :
    FR N st w (putO d v T) (a.put d c) := by
  cases d with
  | none => exact h
  | some d => exact h.put hd hr

inductive ARes where
  | ret (v : AV)
  | panic (v : AV)

/-- The operation acts: whatever the state, from operands that stand for F, heap H: a value and a heap of which K holds. -/
def AHard (P : Program) (o : Oper) (F : Operand → Option AV) (H : AHeap) (K : ARes → AHeap → Prop) : Prop :=
  ∀ E st w a r next Q, Conc E st H w → (∀ x v, F x = some v → Rep st w v (a.eval x)) → Gl H w →
    (∀ st' w' v c H', Conc E st' H' w' → Keeps st st' w w' → Rep st' w' v c → K (.ret v) H' → next (a.put o.dst c) w') →
    (∀ st' w' v c H', Conc E st' H' w' → Keeps st st' w w' → Rep st' w' v c → K (.panic v) H' → Q (.panic [{ v := c, recovered := false }]) a w') →
    o.wpIn (fen r) 0 P a w next Q

theorem AHard.mono {P : Program} {o : Oper} {F : Operand → Option AV} {H : AHeap} {K K' : ARes → AHeap → Prop} (h : AHard P o F H K) (hk : ∀ r H', K r H' → K' r H') : AHard P o F H K' :=
  fun E st w a r next Q hc hf ho hr hp => h E st w a r next Q hc hf ho (fun st' w' v c H' h1 h2 h3 h4 => hr st' w' v c H' h1 h2 h3 (hk _ _ h4)) (fun st' w' v c H' h1 h2 h3 h4 => hp st' w' v c H' h1 h2 h3 (hk _ _ h4))

/-- What a box holds at a place, by the type that is loaded. -/
def boxAt (i : TyI) (u : AV) (off : Nat) : Option (Prop × AV) :=
  match u with
  | .agg cells => just (partOf i (cells.drop off))
  | .vec n el => match i.k with
    | .array m _ => cond (Nat.beq m n && Nat.beq i.size n && Nat.beq off 0) (some (True, .vec n el)) none
    | .struct _ => none
    | .other => none
    | _ => some (off < n, el off)
  | .tuple _ => none
  | .opt _ _ _ => none
  | .any => none
  | .conc _ => none
  | v => match i.k with
    | .array _ _ => none
    | .struct _ => none
    | .other => none
    | _ => cond (Nat.beq off 0) (some (True, v)) none

/-- A choice over a test that is not decided: a disjunction or a conjunction. -/
def apick (x : Bool) (va vb : AV) : Option (Prop × AV) :=
  match va with
  | .bool true => match vb with
    | .bool z => some (True, .bool (x || z))
    | .opt x' b' (.bool z) => some ((x = false → x' = b'), .bool (x || z))
    | _ => none
  | .opt x' b' (.bool y) => match vb with
    | .bool false => some ((x = true → x' = b'), .bool (x && y))
    | _ => none
  | _ => none

theorem apick_sound {st : Stab} {w : World} {x : Bool} {va vb v : AV} {ca cb : Value} {p : Prop} (ha : Rep st w va ca) (hb : Rep st w vb cb) (h : apick x va vb = some (p, v)) (hp : p) :
    Rep st w v (if x then ca else cb) := by
  unfold apick at h
  split at h
  · have hca := ha.bool_eq
    subst hca
    split at h
    · simp only [Option.some.injEq, Prod.mk.injEq] at h
      obtain ⟨-, rfl⟩ := h
      have hcb := hb.bool_eq
      subst hcb
      cases x
      · exact .bool _
      · exact .bool _
    · simp only [Option.some.injEq, Prod.mk.injEq] at h
      obtain ⟨rfl, rfl⟩ := h
      cases x
      · cases hb with
        | opt _ _ _ _ h _ =>
          have hcb := (h (hp rfl)).bool_eq
          subst hcb
          exact .bool _
      · exact .bool _
    · cases h
  · split at h
    · simp only [Option.some.injEq, Prod.mk.injEq] at h
      obtain ⟨rfl, rfl⟩ := h
      have hcb := hb.bool_eq
      subst hcb
      cases x
      · exact .bool _
      · cases ha with
        | opt _ _ _ _ h _ =>
          have hca := (h (hp rfl)).bool_eq
          subst hca
          exact .bool _
    · cases h
  · cases h

def gdst (l0 : List Oper) (j : Nat) : Option Nat := (l0[j]?).bind (·.dst)

/-- Operations whose place among the others is fixed. -/
def hardOp : Op → Bool
  | .move _ => false
  | .pick _ _ _ => false
  | .binOp _ _ _ _ _ => false
  | .unOp _ _ _ => false
  | .convert _ _ _ => false
  | .fieldAddr _ _ _ => false
  | .field _ _ _ => false
  | .indexAddr _ _ _ => false
  | .index _ _ _ => false
  | .load _ _ => false
  | .slice _ _ _ _ _ => false
  | .build _ _ => false
  | .makeFunc _ _ _ => false
  | .makeInterface _ _ => false
  | .extract _ _ => false
  | .nilCheck _ => false
  | .call { callee := .builtin .len, .. } => false
  | .call { callee := .builtin .min, .. } => false
  | .call { callee := .builtin .max, .. } => false
  | _ => true

/-- Operations that leave all boxes as they are; or may, where the walk shows it. -/
def keepOp : Op → Bool
  | .alloc _ => true
  | .box _ _ => true
  | .buildSlice _ _ _ => true
  | .makeSlice _ _ _ => true
  | .assign _ => true
  | .store _ _ _ => true
  | .call { callee := .builtin .append, .. } => true
  | .call { callee := .value _, .. } => true
  | _ => false

/-- sc i: a call at place i only reckons, and may come wherever its place lets it. ld i t: a load at place i from a box of type t may be told. kp i t: what stands at i must leave boxes of type t as they are. -/
structure LDs where
  ld : Nat → Nat → Bool
  kp : Nat → Nat → Bool
  sc : Nat → Bool

def LDs.text : LDs := ⟨fun _ _ => true, fun _ _ => false, fun _ => false⟩

def isCallV : Op → Bool
  | .call { callee := .value _, .. } => true
  | _ => false

/-- The boxes stay that must. -/
def KeepB (LD : LDs) (i : Nat) (H H' : AHeap) : Prop := ∀ b t u, LD.kp i t = true → Ent.box b t u ∈ H → Ent.box b t u ∈ H'

theorem KeepB.refl {LD : LDs} {n : Nat} (H : AHeap) : KeepB LD n H H := fun _ _ _ _ h => h
theorem KeepB.cons {LD : LDs} {n : Nat} (H : AHeap) (e : Ent) : KeepB LD n H (e :: H) := fun _ _ _ _ h => List.mem_cons_of_mem _ h
theorem KeepB.text {n : Nat} (H H' : AHeap) : KeepB .text n H H' := fun _ _ _ h => by cases h

theorem KeepB.setNe {LD : LDs} {n : Nat} {H : AHeap} {i : Nat} {e : Ent} (hi : H[i]? = some e) (hne : ∀ b t u, LD.kp n t = true → e ≠ .box b t u) (x : Ent) : KeepB LD n H (H.set i x) := by
  intro b t u ht h
  obtain ⟨j, hj⟩ := List.getElem?_of_mem h
  refine List.mem_of_getElem? (i := j) ?_
  rw [List.getElem?_set_ne]
  · exact hj
  · rintro rfl
    rw [hi] at hj
    cases hj
    exact hne b t u ht rfl

theorem KeepB.setTok {LD : LDs} {n : Nat} {H : AHeap} {i : Nat} {a : Option Addr} {cap m sz : Nat} {e : TypeId} (hi : H[i]? = some (.tok a cap m sz e)) (x : Ent) : KeepB LD n H (H.set i x) :=
  KeepB.setNe hi (fun _ _ _ _ h => by cases h) x

theorem KeepB.setBox {LD : LDs} {n : Nat} {H : AHeap} {i b : Nat} {ty0 : TypeId} {u : AV} (hi : H[i]? = some (.box b ty0 u)) (ht : LD.kp n ty0 = false) (x : Ent) : KeepB LD n H (H.set i x) :=
  KeepB.setNe hi (fun _ _ _ h e => by cases e; rw [h] at ht; cases ht) x

/-- The guard's slot tells that the operation is not done. -/
def isOff : AV → Bool → Bool
  | .bool x, b => cond x (!b) b
  | .tuple [], _ => true
  | _, _ => false

theorem isOff_rep {st : Stab} {w : World} {u : AV} {b : Bool} {c : Value} (h : isOff u b = true) (hr : Rep st w u c) : ((match some c with | some (.bool x) => some x | _ => none) == some b) = false := by
  unfold isOff at h
  split at h
  · obtain rfl := hr.bool_eq
    rename_i x _
    cases x <;> cases b <;> simp_all
  · cases hr with
    | tuple _ xs hl _ =>
      rfl
  · cases h

theorem undef_rep (st : Stab) (w : World) : Rep st w (.tuple []) undef := .tuple [] [] rfl (by simp)

/-- A guard that is not decided: under what it is met. -/
def gcond (u : Option AV) (g : Bool) : Option (Bool × Bool) :=
  match u with
  | some (.bool x) => some (x, g)
  | some (.opt x b (.bool y)) => some ((x == b) && (y == g), true)
  | _ => none

theorem gcond_rep {st : Stab} {w : World} {u : AV} {g x b : Bool} {c : Value} (h : gcond (some u) g = some (x, b)) (hr : Rep st w u c) : ((match some c with | some (.bool x) => some x | _ => none) == some g) = decide (x = b) := by
  unfold gcond at h
  split at h
  · rename_i u' x' e
    cases e
    cases h
    obtain rfl := hr.bool_eq
    cases x <;> cases g <;> rfl
  · rename_i u' x' b' y e
    cases e
    cases h
    cases hr with
    | opt _ _ _ _ h1 h2 =>
      by_cases e : x' = b'
      · obtain rfl := (h1 e).bool_eq
        subst e
        cases x' <;> cases y <;> cases g <;> rfl
      · obtain rfl := h2 e
        cases x' <;> cases b' <;> first | exact absurd rfl e | rfl
  · cases h

/-- A test, decided or under a guard. -/
def copd (u : Option AV) : Option (Prop × Bool) :=
  match u with
  | some (.bool y) => some (True, y)
  | some (.opt x b (.bool y)) => some (x = b, y)
  | _ => none

theorem copd_rep {st : Stab} {w : World} {u : AV} {p : Prop} {y : Bool} {c : Value} (h : copd (some u) = some (p, y)) (hp : p) (hr : Rep st w u c) : c = .bool y := by
  unfold copd at h
  split at h
  · rename_i y' e
    cases e
    cases h
    exact hr.bool_eq
  · rename_i x b y' e
    cases e
    cases h
    cases hr with
    | opt _ _ _ _ h1 _ => exact (h1 hp).bool_eq
  · cases h

/-- What an operation reckons, said of the operation itself. -/
def ASem (P : Program) (o : Oper) (F : Operand → Option AV) (v : AV) : Prop :=
  ∀ (st : Stab) (w : World) (ρ : Operand → Value), (∀ x u, F x = some u → Rep st w u (ρ x)) → ∃ c, (execOp ρ o).run P w = .ok (.value c) w ∧ Rep st w v c

inductive TR (P : Program) (N : Nat) (ty : TypeId → Option TyI) (l0 : List Oper) (LD : LDs) (W : Bool) (Q : APost) : List (Nat × Oper) → Tmps → AHeap → Prop
  | nil {T H} (h : Q .normal T H) : TR P N ty l0 LD W Q [] T H
  | pure {i o l T H} (p : Prop) (v : AV) (d : Nat) (hg : o.guard = none) (hd : o.dst = some d) (hN : Nat.ble (d + 1) N = true) (hv : aeval ty (opvL (tmpsOf o.op) T) o.op = some (p, v))
      (ho : optN True T (tmpsOf o.op)) (hp : p) (k : TR P N ty l0 LD W Q l ((d, v) :: T) H) : TR P N ty l0 LD W Q ((i, o) :: l) T H
  | sem {i o l T H} (v : AV) (d : Nat) (hg : o.guard = none) (hd : o.dst = some d) (hN : Nat.ble (d + 1) N = true) (ho : optN True T (tmpsOf o.op)) (hv : ASem P o (opvL (tmpsOf o.op) T) v)
      (k : TR P N ty l0 LD W Q l ((d, v) :: T) H) : TR P N ty l0 LD W Q ((i, o) :: l) T H
  | on {i o l T H} (j : Nat) (b : Bool) (dj : Nat) (hg : o.guard = some (j, b)) (hj : gdst l0 j = some dj) (hb : lk T dj = some (.bool b))
      (k : TR P N ty l0 LD W Q ((i, { o with guard := none }) :: l) T H) : TR P N ty l0 LD W Q ((i, o) :: l) T H
  | off {i o l T H} (j : Nat) (b : Bool) (u : AV) (dj d : Nat) (hg : o.guard = some (j, b)) (hj : gdst l0 j = some dj) (hb : lk T dj = some u) (hx : isOff u b = true)
      (hd : o.dst = some d) (hN : Nat.ble (d + 1) N = true) (k : TR P N ty l0 LD W Q l ((d, .tuple []) :: T) H) : TR P N ty l0 LD W Q ((i, o) :: l) T H
  | opt {i o l T H} (p : Prop) (v : AV) (d : Nat) (j : Nat) (g b x : Bool) (dj : Nat) (hg : o.guard = some (j, g)) (hj : gdst l0 j = some dj) (hb : gcond (lk T dj) g = some (x, b))
      (hd : o.dst = some d) (hN : Nat.ble (d + 1) N = true) (hv : aeval ty (opvL (tmpsOf o.op) T) o.op = some (p, v)) (ho : optN (x = b) T (tmpsOf o.op)) (hp : x = b → p)
      (k : TR P N ty l0 LD W Q l ((d, .opt x b v) :: T) H) : TR P N ty l0 LD W Q ((i, o) :: l) T H
  | hard {i o l T H} (K : ARes → AHeap → Prop) (hh : W = true ∨ hardOp o.op = true) (hg : o.guard = none) (hN : dstOk o.dst N = true) (ho : optN True T (tmpsOf o.op)) (h : AHard P o (opvL (tmpsOf o.op) T) H K)
      (k : ∀ v H', K (.ret v) H' → TR P N ty l0 LD W Q l (putO o.dst v T) H') (kp : ∀ v H', K (.panic v) H' → Q (.panic v) T H') (hkb : keepOp o.op = true → ∀ v H', K (.ret v) H' → KeepB LD i H H') (hsc : isCallV o.op = true → LD.sc i = false) : TR P N ty l0 LD W Q ((i, o) :: l) T H
  | pcl {i o l T H} (u : AV) (d : Nat) (hg : o.guard = none) (hd : o.dst = some d) (hN : dstOk o.dst N = true) (ho : optN True T (tmpsOf o.op)) (hc : isCallV o.op = true)
      (h : ∀ H', AHard P o (opvL (tmpsOf o.op) T) H' fun r H2 => r = .ret u ∧ H2 = H') (k : TR P N ty l0 LD W Q l ((d, u) :: T) H) : TR P N ty l0 LD W Q ((i, o) :: l) T H

  | hload {i o l T H} (t : TypeId) (x : Operand) (ti : TyI) (b off : Nat) (ty0 : TypeId) (u : AV) (p : Prop) (v : AV) (d : Nat) (hg : o.guard = none) (ho : o.op = .load t x)
      (hd : o.dst = some d) (hN : Nat.ble (d + 1) N = true) (hx : opvL (tmpsOf o.op) T x = some (.ptr b off)) (hon : optN True T (tmpsOf o.op)) (ht : ty t = some ti)
      (hm : Ent.box b ty0 u ∈ H) (hv : boxAt ti u off = some (p, v)) (hp : p) (hl : LD.ld i ty0 = true) (k : TR P N ty l0 LD W Q l ((d, v) :: T) H) : TR P N ty l0 LD W Q ((i, o) :: l) T H

  | hopt {i o l T H} (t : TypeId) (y : Operand) (ti : TyI) (bb off : Nat) (ty0 : TypeId) (u : AV) (p : Prop) (v : AV) (d j : Nat) (g b x : Bool) (dj : Nat) (hg : o.guard = some (j, g)) (hj : gdst l0 j = some dj)
      (hb : gcond (lk T dj) g = some (x, b)) (ho : o.op = .load t y) (hd : o.dst = some d) (hN : Nat.ble (d + 1) N = true) (hx : opvL (tmpsOf o.op) T y = some (.ptr bb off)) (hon : optN (x = b) T (tmpsOf o.op))
      (ht : ty t = some ti) (hm : Ent.box bb ty0 u ∈ H) (hv : boxAt ti u off = some (p, v)) (hp : x = b → p) (hl : LD.ld i ty0 = true) (k : TR P N ty l0 LD W Q l ((d, .opt x b v) :: T) H) :
      TR P N ty l0 LD W Q ((i, o) :: l) T H
  | pick {i o l T H} (c a b : Operand) (x : Bool) (va vb v : AV) (p : Prop) (d : Nat) (hg : o.guard = none) (ho : o.op = .pick c a b) (hd : o.dst = some d) (hN : Nat.ble (d + 1) N = true)
      (hc : opv T c = some (.bool x)) (ha : opv T a = some va) (hb : opv T b = some vb) (hv : apick x va vb = some (p, v)) (hp : p) (k : TR P N ty l0 LD W Q l ((d, v) :: T) H) :
      TR P N ty l0 LD W Q ((i, o) :: l) T H
  | copt {i o l T H} (u : AV) (d j : Nat) (g b x : Bool) (dj : Nat) (hh : W = true ∨ hardOp o.op = true) (hg : o.guard = some (j, g)) (hj : gdst l0 j = some dj) (hb : gcond (lk T dj) g = some (x, b)) (hd : o.dst = some d)
      (hN : Nat.ble (d + 1) N = true) (ho : optN (x = b) T (tmpsOf o.op)) (h : x = b → AHard P o (opvL (tmpsOf o.op) T) H fun r H' => r = .ret u ∧ H' = H) (k : TR P N ty l0 LD W Q l ((d, .opt x b u) :: T) H) (hsc : isCallV o.op = true → LD.sc i = false) :
      TR P N ty l0 LD W Q ((i, o) :: l) T H
  | sopt {i o l T H} (v : AV) (d j : Nat) (g b x : Bool) (dj : Nat) (hg : o.guard = some (j, g)) (hj : gdst l0 j = some dj) (hb : gcond (lk T dj) g = some (x, b)) (hd : o.dst = some d)
      (hN : Nat.ble (d + 1) N = true) (ho : optN (x = b) T (tmpsOf o.op)) (hv : x = b → ASem P o (opvL (tmpsOf o.op) T) v) (k : TR P N ty l0 LD W Q l ((d, .opt x b v) :: T) H) :
      TR P N ty l0 LD W Q ((i, o) :: l) T H
  | gpick {i o l T H} (c a b' : Operand) (y : Bool) (va vb v : AV) (pc p : Prop) (d j : Nat) (g b x : Bool) (dj : Nat) (hg : o.guard = some (j, g)) (hj : gdst l0 j = some dj) (hb : gcond (lk T dj) g = some (x, b)) (ho : o.op = .pick c a b')
      (hd : o.dst = some d) (hN : Nat.ble (d + 1) N = true) (hc : copd (opv T c) = some (pc, y)) (hpc : x = b → pc) (ha : opv T a = some va) (hb' : opv T b' = some vb) (hv : apick y va vb = some (p, v)) (hp : x = b → p)
      (k : TR P N ty l0 LD W Q l ((d, .opt x b v) :: T) H) : TR P N ty l0 LD W Q ((i, o) :: l) T H
  | know {l T H} (t : Nat) (x b : Bool) (hW : W = true) (hx : x = b) (hl : lk T t = some (.bool x)) (k : TR P N ty l0 LD W Q l ((t, .bool b) :: T) H) : TR P N ty l0 LD W Q l T H

theorem FR.at {N : Nat} {st : Stab} {w : World} {T : Tmps} {a : Act} (h : FR N st w T a) (L : List Nat) : ∀ t ∈ L, ∀ v, lk T t = some v → ∃ x, a.tmps[t]? = some x ∧ Rep st w v x :=
  fun t _ v hv => h.val t v hv

section
variable {P : Program} {N : Nat} {ty : TypeId → Option TyI}

theorem not_defer_of_value {ρ : Operand → Value} {o : Oper} {w w' : World} {c : Value} (h : (execOp ρ o).run P w = .ok (.value c) w') : ∀ c, o.op ≠ .defer c := by
  intro d hd
  unfold execOp at h
  rw [hd] at h
  simp only [Sem.run_bind] at h
  cases hr : (resolve ρ d o.type).run P w with
  | ok x w2 => simp [hr, Result.andThen] at h
  | halt x w2 => simp [hr, Result.andThen] at h

theorem not_defer_of_skip {ρ : Operand → Value} {o : Oper} {w w' : World} (h : (execOp ρ o).run P w = .ok .skip w') : ∀ c, o.op ≠ .defer c := by
  intro d hd
  unfold execOp at h
  rw [hd] at h
  simp only [Sem.run_bind] at h
  cases hr : (resolve ρ d o.type).run P w with
  | ok x w2 => simp [hr, Result.andThen] at h
  | halt x w2 => simp [hr, Result.andThen] at h

theorem wp_of_value {r : Option Nat} {o : Oper} {a : Act} {w : World} {next : Act → World → Prop} {Q : Exit → Act → World → Prop} {c : Value} (h : (execOp a.eval o).run P w = .ok (.value c) w)
    (k : next (a.put o.dst c) w) : o.wpIn (fen r) 0 P a w next Q := by
  refine ⟨fun _ _ => trivial, ?_⟩
  rw [Oper.semAt_eq _ _ _ (not_defer_of_value h), h]
  exact k

theorem just_some' {x : Option AV} {p : Prop} {v : AV} (h : just x = some (p, v)) : x = some v := just_some h

def _root_.Go.Ab.AV.one : AV → Bool
  | .agg _ => false
  | .vec _ _ => false
  | .tuple _ => false
  | .opt _ _ _ => false
  | .any => false
  | .conc _ => false
  | _ => true

theorem one_cells {st : Stab} {w : World} {v : AV} {c : Value} (ho : v.one = true) (h : Rep st w v c) : c.cells = #[c] ∧ c.oneCell' = true := by
  cases h <;> first | (simp [AV.one] at ho; done) | exact ⟨rfl, rfl⟩

theorem cells_load_sound (hty : TyOk P ty) {st : Stab} {w : World} {t : TypeId} {i : TyI} (hi : ty t = some i) {cells : List AV} {b off : Nat} {c : Nat → Value}
    (hcell : ∀ j, j < cells.length → w.cell? ⟨b, off + j, none⟩ = some (c j)) (hrep : ∀ j v, cells[j]? = some v → Rep st w v (c j))
    {v : AV} (hp : partOf i cells = some v) : ∃ x, (Instr.loadAt t (.pointer (some ⟨b, off, none⟩))).run P w = .ok x w ∧ Rep st w v x := by
  obtain ⟨⟨d, hd, hk⟩, inf, z, hinf, hsz, hby, hz, hzs, hzr⟩ := hty t i hi
  obtain ⟨ho, hp⟩ := partOf_not hp
  have ha := run_isAgg (w := w) hd hk ho
  unfold Instr.loadAt
  simp only [Instr.sureAddr, Sem.run_bind, Sem.run_pure, Result.andThen_ok]
  unfold loadVar
  rw [Sem.run_bind, ha]
  unfold partOf' at hp
  cases hag : i.k.isAgg with
  | true =>
    rw [hag] at hp
    cases hle : Nat.ble i.size cells.length with
    | false => simp [hle] at hp
    | true =>
      simp [hle] at hp
      subst hp
      have hle' := Nat.le_of_ble_eq_true hle
      have hl := run_loadCells (P := P) w ⟨b, off, none⟩ i.size c (fun j hj => by rw [addr_add]; exact hcell j (by omega))
      refine ⟨.agg ⟨(List.range i.size).map c⟩, ?_, ?_⟩
      · simp [Result.andThen, run_sizeOf hinf, hsz, hl]
      · refine .agg _ _ (by simp; omega) fun j v x hv hx => ?_
        have hj : j < i.size := by
          have := (List.getElem?_eq_some_iff.1 hx).1
          simpa using this
        simp [hj] at hx
        subst hx
        rw [List.getElem?_take, if_pos hj] at hv
        exact hrep j v hv
  | false =>
    rw [hag] at hp
    simp only at hp
    have hne : 0 < cells.length := by cases cells <;> simp at hp ⊢
    have h0 := hcell 0 hne
    refine ⟨c 0, ?_, hrep 0 v (by rw [← List.head?_eq_getElem?]; exact hp)⟩
    simp only [Nat.add_zero] at h0
    simp [Result.andThen, h0]

theorem getD_some {α : Type} [Inhabited α] {l : List α} {j : Nat} (h : j < l.length) : l[j]? = some (l.getD j default) := by simp [h, List.getD]

theorem boxAt_sound (hty : TyOk P ty) {st : Stab} {w : World} {t : TypeId} {ti : TyI} (hti : ty t = some ti) {b off : Nat} {ty0 : TypeId} {u v : AV} {p : Prop}
    (hh : (Ent.box b ty0 u).holds st w) (h : boxAt ti u off = some (p, v)) (hp : p) : ∃ c, (Instr.loadAt t (.pointer (some ⟨b, off, none⟩))).run P w = .ok c w ∧ Rep st w v c := by
  obtain ⟨arr, cv, hblk, hrep, hcells, hone, -⟩ := hh
  obtain ⟨⟨d, hd, hk⟩, inf, z, hinf, hsz, hby, hz, hzs, hzr⟩ := hty t ti hti
  have hcell : ∀ j, w.cell? ⟨b, j, none⟩ = arr[j]? := fun j => cell_of_row w b j arr ty0 (0, 0) hblk
  have scal : ∀ (u : AV), u.one = true → Rep st w u cv → (match ti.k with
    | .array _ _ => none
    | .struct _ => none
    | .other => none
    | _ => cond (Nat.beq off 0) (some (True, u)) none) = some (p, v) → ∃ c, (Instr.loadAt t (.pointer (some ⟨b, off, none⟩))).run P w = .ok c w ∧ Rep st w v c := by
    intro u ho hr hm
    obtain ⟨h1, -⟩ := one_cells ho hr
    rw [h1] at hcells
    subst hcells
    have hfin : off = 0 ∧ v = u ∧ ti.k.isAgg = false ∧ (ti.k = .other → False) := by
      cases hik : ti.k <;> rw [hik] at hm <;> simp only [reduceCtorEq] at hm <;> (cases hb : Nat.beq off 0 <;> simp [hb] at hm) <;>
        exact ⟨Nat.eq_of_beq_eq_true hb, hm.2.symm, rfl, fun e => by cases e⟩
    obtain ⟨rfl, rfl, hag, hno⟩ := hfin
    have ha := run_isAgg (w := w) hd hk hno
    refine ⟨cv, ?_, hr⟩
    have h0 := hcell 0
    unfold Instr.loadAt
    simp only [Instr.sureAddr, Sem.run_bind, Sem.run_pure, Result.andThen_ok]
    unfold loadVar
    rw [Sem.run_bind, ha, hag]
    simp [Result.andThen, h0]
  cases u with
  | agg cells =>
    cases hrep with
    | agg _ cs hl hr =>
      obtain rfl : arr = ⟨cs⟩ := hcells.symm
      refine cells_load_sound hty hti (cells := cells.drop off) (c := fun j => cs.getD (off + j) default) (fun j hj => ?_) (fun j u hu => ?_) (just_some h)
      · rw [hcell]
        have : off + j < cs.length := by simp at hj; omega
        simpa using getD_some this
      · have hj : off + j < cells.length := by
          have := (List.getElem?_eq_some_iff.1 hu).1
          simp at this; omega
        exact hr (off + j) u _ (by simpa using hu) (getD_some (by omega))
  | vec n el =>
    cases hrep with
    | vec _ _ cs hl hr hvo =>
      obtain rfl : arr = ⟨cs⟩ := hcells.symm
      have elem : ti.k.isAgg = false → (ti.k = .other → False) → (p, v) = (off < n, el off) → ∃ c, (Instr.loadAt t (.pointer (some ⟨b, off, none⟩))).run P w = .ok c w ∧ Rep st w v c := by
        intro hag hno he
        simp only [Prod.mk.injEq] at he
        obtain ⟨rfl, rfl⟩ := he
        have hlt : off < cs.length := by omega
        have ha := run_isAgg (w := w) hd hk hno
        have h0 := hcell off
        refine ⟨cs.getD off default, ?_, hr off _ (getD_some hlt)⟩
        unfold Instr.loadAt
        simp only [Instr.sureAddr, Sem.run_bind, Sem.run_pure, Result.andThen_ok]
        unfold loadVar
        rw [Sem.run_bind, ha, hag]
        have h0' : w.cell? ⟨b, off, none⟩ = some (cs.getD off default) := by rw [h0]; simpa using getD_some hlt
        simp [Result.andThen, h0']
      unfold boxAt at h
      simp only at h
      cases hik : ti.k <;> rw [hik] at h <;> simp only [Option.some.injEq, reduceCtorEq] at h
      case array m e =>
        cases hb : (Nat.beq m n && Nat.beq ti.size n && Nat.beq off 0) with
        | false => simp [hb] at h
        | true =>
          simp [hb] at h
          obtain ⟨-, rfl⟩ := h
          simp only [Bool.and_eq_true] at hb
          obtain ⟨⟨_, h1⟩, h2⟩ := hb
          have h1 := Nat.eq_of_beq_eq_true h1
          obtain rfl := Nat.eq_of_beq_eq_true h2
          have ha := run_isAgg (w := w) hd hk (fun e => by rw [hik] at e; cases e)
          have hlc := run_loadCells_list (P := P) w ⟨b, 0, none⟩ cs (fun j y hy => by rw [addr_add, Nat.zero_add, hcell]; simpa using hy)
          refine ⟨.agg ⟨cs⟩, ?_, .vec n el cs hl hr hvo⟩
          unfold Instr.loadAt
          simp only [Instr.sureAddr, Sem.run_bind, Sem.run_pure, Result.andThen_ok]
          unfold loadVar
          rw [Sem.run_bind, ha, hik]
          have hsz' : inf.size = cs.length := by omega
          simp [Result.andThen, TyK.isAgg, run_sizeOf hinf, hsz', hlc]
      all_goals exact elem (by rw [hik]; rfl) (fun e => by rw [hik] at e; cases e) h.symm
  | tuple vs => simp [boxAt] at h
  | opt x b v => simp [boxAt] at h
  | any => simp [boxAt] at h
  | conc v => simp [boxAt] at h
  | _ => exact scal _ rfl hrep h


theorem wanted_none {o : Oper} {y : Nat → Option Bool} (h : o.guard = none) : Region.wanted o y = true := by simp [Region.wanted, h]

theorem yielded_lk {st : Stab} {w : World} {T : Tmps} {a : Act} {l0 : List Oper} {j dj : Nat} {x : Bool} (hf : FR N st w T a) (hj : gdst l0 j = some dj) (hb : lk T dj = some (.bool x)) :
    yielded l0.toArray a.tmps j = some x := by
  obtain ⟨c, h1, h2⟩ := hf.val dj _ hb
  obtain rfl := h2.bool_eq
  unfold gdst at hj
  simp [yielded, hj, h1]

theorem wanted_lk {st : Stab} {w : World} {T : Tmps} {a : Act} {l0 : List Oper} {o : Oper} {j dj : Nat} {g x b : Bool} (hf : FR N st w T a) (hg : o.guard = some (j, g)) (hj : gdst l0 j = some dj)
    (hb : gcond (lk T dj) g = some (x, b)) : Region.wanted o (yielded l0.toArray a.tmps) = decide (x = b) := by
  cases hl : lk T dj with
  | none => rw [hl] at hb; cases hb
  | some u =>
    rw [hl] at hb
    obtain ⟨c, h1, h2⟩ := hf.val dj _ hl
    have := gcond_rep hb h2
    unfold gdst at hj
    simp only [Region.wanted, hg, yielded, List.getElem?_toArray, hj, Option.bind_some, h1]
    exact this

theorem wp_hard {o : Oper} {F : Operand → Option AV} {T : Tmps} {H : AHeap} {K : ARes → AHeap → Prop} {Q : APost} {E : Env0} {st : Stab} {w : World} {a : Act} {r : Option Nat} {B : Bs} {next : Act → World → Prop}
    (hN : dstOk o.dst N = true) (h : AHard P o F H K) (hc : Conc E st H w) (hf : FR N st w T a) (hd : Fr r B H w a.defers) (hF : ∀ x v, F x = some v → Rep st w v (a.eval x))
    (kn : ∀ st' w' a' v H', Conc E st' H' w' → FR N st' w' (putO o.dst v T) a' → Fr r B H' w' a'.defers → K (.ret v) H' → next a' w')
    (kp : ∀ v H', K (.panic v) H' → Q (.panic v) T H') : o.wpIn (fen r) 0 P a w next (Post E N r B Q) := by
  refine h (Env0.of w st H) st w a r next (Post E N r B Q) hc.start hF hd.gl ?_ ?_
  · intro st' w' v c H' h1 h2 h3 h4
    refine kn st' w' _ v H' (hc.trans h1) ((hf.mono h2).putO hN h3) ?_ h4
    have := hd.keep h1
    cases o.dst <;> exact this
  · intro st' w' v c H' h1 h2 h3 h4
    exact Post.mk (hc.trans h1) (hf.mono h2) (hd.keep h1) (x := .panic v) ⟨c, rfl, h3⟩ (kp v H' h4)

theorem TR.sound (hty : TyOk P ty) {l0 : List Oper} {LD : LDs} {W : Bool} {Q : APost} {l : List (Nat × Oper)} {T : Tmps} {H : AHeap} (h : TR P N ty l0 LD W Q l T H) :
    ∀ E st w a r B, Conc E st H w → FR N st w T a → Fr r B H w a.defers → wpListIn (fen r) 0 P l0.toArray (Post E N r B Q) (l.map (·.2)) a w := by
  induction h with
  | nil h => exact fun E st w a r B hc hf hd => Post.mk hc hf hd (x := .normal) trivial h
  | @pure i o l T H p v d hg hdst hN hv ho hp _ ih =>
    intro E st w a r B hc hf hd
    obtain ⟨c, h1, h2⟩ := aeval_sound (P := P) hty (fun x u hx => opvL_rep (N := N) (hf.at _) ho trivial hf.size hx) hv hp
    unfold wpListIn
    rw [List.map_cons]
    simp only
    rw [if_pos (wanted_none hg)]
    refine (wp_of_value h1 ?_)
    rw [hdst]
    exact ih E st w _ r B hc (hf.put hN h2) hd
  | @sem i o l T H v d hg hdst hN ho hv _ ih =>
    intro E st w a r B hc hf hd
    obtain ⟨c, h1, h2⟩ := hv st w a.eval (fun x u hx => opvL_rep (N := N) (hf.at _) ho trivial hf.size hx)
    unfold wpListIn
    rw [List.map_cons]
    simp only
    rw [if_pos (wanted_none hg)]
    refine (wp_of_value h1 ?_)
    rw [hdst]
    exact ih E st w _ r B hc (hf.put hN h2) hd
  | @on i o l T H j b dj hg hj hb _ ih =>
    intro E st w a r B hc hf hd
    have := ih E st w a r B hc hf hd
    unfold wpListIn at this ⊢
    rw [List.map_cons] at this ⊢
    simp only at this ⊢
    rw [if_pos (wanted_none rfl)] at this
    rw [if_pos (by simp [Region.wanted, hg, yielded_lk hf hj hb])]
    exact this
  | @off i o l T H j b u dj d hg hj hb hx hdst hN _ ih =>
    intro E st w a r B hc hf hd
    unfold wpListIn
    rw [List.map_cons]
    simp only
    have hw : Region.wanted o (yielded l0.toArray a.tmps) = false := by
      obtain ⟨c, h1, h2⟩ := hf.val dj _ hb
      have := isOff_rep hx h2
      unfold gdst at hj
      simp only [Region.wanted, hg, yielded, List.getElem?_toArray, hj, Option.bind_some, h1]
      exact this
    rw [hw, hdst]
    exact ⟨fun _ _ => trivial, ih E st w _ r B hc (hf.put hN (undef_rep st w)) hd⟩
  | @opt i o l T H p v d j g b x dj hg hj hb hdst hN hv ho hp _ ih =>
    intro E st w a r B hc hf hd
    unfold wpListIn
    rw [List.map_cons]
    simp only
    by_cases hxb : x = b
    · have hw : Region.wanted o (yielded l0.toArray a.tmps) = true := by
        rw [wanted_lk hf hg hj hb]; simp [hxb]
      rw [hw]
      obtain ⟨c, h1, h2⟩ := aeval_sound (P := P) hty (fun y u hy => opvL_rep (N := N) (hf.at _) ho hxb hf.size hy) hv (hp hxb)
      refine (wp_of_value h1 ?_)
      rw [hdst]
      exact ih E st w _ r B hc (hf.put hN (.opt _ _ _ _ (fun _ => h2) (fun e => absurd hxb e))) hd
    · have hw : Region.wanted o (yielded l0.toArray a.tmps) = false := by
        rw [wanted_lk hf hg hj hb]; simp [hxb]
      rw [hw, hdst]
      exact ⟨fun _ _ => trivial, ih E st w _ r B hc (hf.put hN (.opt _ _ _ _ (fun e => absurd e hxb) (fun _ => rfl))) hd⟩
  | @hard i o l T H K _ hg hN ho h _ kp _ _ ih =>
    intro E st w a r B hc hf hd
    unfold wpListIn
    rw [List.map_cons]
    simp only
    rw [if_pos (wanted_none hg)]
    refine (wp_hard hN h hc hf hd (fun y u hy => opvL_rep (N := N) (hf.at _) ho trivial hf.size hy) ?_ kp)
    intro st' w' a' v H' h1 h2 h3 h4
    exact ih v H' h4 E st' w' a' r B h1 h2 h3
  | @pcl i o l T H u d hg hd0 hN ho hcv h _ ih =>
    intro E st w a r B hc hf hd
    unfold wpListIn
    rw [List.map_cons]
    simp only
    rw [if_pos (wanted_none hg)]
    refine (wp_hard (T := T) (Q := Q) hN (h H) hc hf hd (fun y u hy => opvL_rep (N := N) (hf.at _) ho trivial hf.size hy) ?_ (fun v H' e => by cases e.1))
    rintro st' w' a' v H' h1 h2 h3 ⟨e, rfl⟩
    cases e
    rw [hd0] at h2
    exact ih E st' w' a' r B h1 h2 h3
  | @hload i o l T H t x ti b off ty0 u p v d hg hop hdst hN hx hon ht hm hv hp _ _ ih =>
    intro E st w a r B hc hf hd
    have hr := opvL_rep (N := N) (hf.at _) hon trivial hf.size hx
    obtain ⟨c, h1, h2⟩ := boxAt_sound (P := P) hty ht (hc.ents _ hm) hv hp
    have he : a.eval x = .pointer (some ⟨b, off, none⟩) := by
      generalize a.eval x = y at hr
      cases hr
      rfl
    unfold wpListIn
    rw [List.map_cons]
    simp only
    rw [if_pos (wanted_none hg)]
    refine (wp_of_value (c := c) ?_ ?_)
    · unfold execOp
      rw [hop]
      simp only [he]
      exact exec_v h1
    · rw [hdst]
      exact ih E st w _ r B hc (hf.put hN h2) hd
  | @hopt i o l T H t y ti bb off ty0 u p v d j g b x dj hg hj hb hop hdst hN hx hon ht hm hv hp _ _ ih =>
    intro E st w a r B hc hf hd
    unfold wpListIn
    rw [List.map_cons]
    simp only
    by_cases hxb : x = b
    · have hw : Region.wanted o (yielded l0.toArray a.tmps) = true := by
        rw [wanted_lk hf hg hj hb]; simp [hxb]
      rw [hw]
      have hr := opvL_rep (N := N) (hf.at _) hon hxb hf.size hx
      obtain ⟨c, h1, h2⟩ := boxAt_sound (P := P) hty ht (hc.ents _ hm) hv (hp hxb)
      have he : a.eval y = .pointer (some ⟨bb, off, none⟩) := by
        generalize a.eval y = q at hr
        cases hr
        rfl
      refine (wp_of_value (c := c) ?_ ?_)
      · unfold execOp
        rw [hop]
        simp only [he]
        exact exec_v h1
      · rw [hdst]
        exact ih E st w _ r B hc (hf.put hN (.opt _ _ _ _ (fun _ => h2) (fun e => absurd hxb e))) hd
    · have hw : Region.wanted o (yielded l0.toArray a.tmps) = false := by
        rw [wanted_lk hf hg hj hb]; simp [hxb]
      rw [hw, hdst]
      exact ⟨fun _ _ => trivial, ih E st w _ r B hc (hf.put hN (.opt _ _ _ _ (fun e => absurd e hxb) (fun _ => rfl))) hd⟩
  | @pick i o l T H c a' b x va vb v p d hg hop hdst hN hcc ha hb hv hp _ ih =>
    intro E st w a r B hc hf hd
    have h1 := (opv_rep hf hcc).bool_eq
    have h2 := apick_sound (opv_rep hf ha) (opv_rep hf hb) hv hp
    unfold wpListIn
    rw [List.map_cons]
    simp only
    rw [if_pos (wanted_none hg)]
    refine (wp_of_value (c := if x then a.eval a' else a.eval b) ?_ ?_)
    · unfold execOp
      rw [hop]
      simp [h1, asBool]
    · rw [hdst]
      exact ih E st w _ r B hc (hf.put hN h2) hd
  | @copt i o l T H u d j g b x dj _ hg hj hb hdst hN ho h _ _ ih =>
    intro E st w a r B hc hf hd
    unfold wpListIn
    rw [List.map_cons]
    simp only
    by_cases hxb : x = b
    · have hw : Region.wanted o (yielded l0.toArray a.tmps) = true := by
        rw [wanted_lk hf hg hj hb]; simp [hxb]
      rw [hw]
      refine (h hxb (Env0.of w st H) st w a r _ _ hc.start (fun y u hy => opvL_rep (N := N) (hf.at _) ho hxb hf.size hy) hd.gl ?_ ?_)
      · rintro st' w' v c H' h1 h2 h3 ⟨e, rfl⟩
        cases e
        rw [hdst]
        exact ih E st' w' _ r B (hc.trans h1) ((hf.mono h2).put hN (.opt _ _ _ _ (fun _ => h3) (fun e => absurd hxb e))) (hd.keep h1)
      · rintro st' w' v c H' h1 h2 h3 ⟨e, rfl⟩
        cases e
    · have hw : Region.wanted o (yielded l0.toArray a.tmps) = false := by
        rw [wanted_lk hf hg hj hb]; simp [hxb]
      rw [hw, hdst]
      exact ⟨fun _ _ => trivial, ih E st w _ r B hc (hf.put hN (.opt _ _ _ _ (fun e => absurd e hxb) (fun _ => rfl))) hd⟩
  | @sopt i o l T H v d j g b x dj hg hj hb hdst hN ho hv _ ih =>
    intro E st w a r B hc hf hd
    unfold wpListIn
    rw [List.map_cons]
    simp only
    by_cases hxb : x = b
    · have hw : Region.wanted o (yielded l0.toArray a.tmps) = true := by
        rw [wanted_lk hf hg hj hb]; simp [hxb]
      rw [hw]
      obtain ⟨c, h1, h2⟩ := hv hxb st w a.eval (fun y u hy => opvL_rep (N := N) (hf.at _) ho hxb hf.size hy)
      refine (wp_of_value h1 ?_)
      rw [hdst]
      exact ih E st w _ r B hc (hf.put hN (.opt _ _ _ _ (fun _ => h2) (fun e => absurd hxb e))) hd
    · have hw : Region.wanted o (yielded l0.toArray a.tmps) = false := by
        rw [wanted_lk hf hg hj hb]; simp [hxb]
      rw [hw, hdst]
      exact ⟨fun _ _ => trivial, ih E st w _ r B hc (hf.put hN (.opt _ _ _ _ (fun e => absurd e hxb) (fun _ => rfl))) hd⟩
  | @gpick i o l T H c a' b' y va vb v pc p d j g b x dj hg hj hb hop hdst hN hcc hpc ha hb' hv hp _ ih =>
    intro E st w a r B hc hf hd
    unfold wpListIn
    rw [List.map_cons]
    simp only
    by_cases hxb : x = b
    · have hw : Region.wanted o (yielded l0.toArray a.tmps) = true := by
        rw [wanted_lk hf hg hj hb]; simp [hxb]
      rw [hw]
      have h1 : a.eval c = .bool y := by
        cases hu : opv T c with
        | none => rw [hu] at hcc; cases hcc
        | some u => rw [hu] at hcc; exact copd_rep hcc (hpc hxb) (opv_rep hf hu)
      have h2 := apick_sound (opv_rep hf ha) (opv_rep hf hb') hv (hp hxb)
      refine (wp_of_value (c := if y then a.eval a' else a.eval b') ?_ ?_)
      · unfold execOp
        rw [hop]
        simp [h1, asBool]
      · rw [hdst]
        exact ih E st w _ r B hc (hf.put hN (.opt _ _ _ _ (fun _ => h2) (fun e => absurd hxb e))) hd
    · have hw : Region.wanted o (yielded l0.toArray a.tmps) = false := by
        rw [wanted_lk hf hg hj hb]; simp [hxb]
      rw [hw, hdst]
      exact ⟨fun _ _ => trivial, ih E st w _ r B hc (hf.put hN (.opt _ _ _ _ (fun e => absurd e hxb) (fun _ => rfl))) hd⟩
  | @know l T H t x b _ hx hl _ ih =>
    intro E st w a r B hc hf hd
    subst hx
    refine ih E st w a r B hc (hf.weaken fun u v' hu => ?_) hd
    by_cases e : t = u
    · subst e
      simp [lk] at hu
      subst hu
      exact ⟨_, hl, Sub.refl _⟩
    · simp only [lk, beq_ne e, cond_false] at hu
      exact ⟨v', hu, Sub.refl _⟩

def ix (k : Nat) : List Oper → List (Nat × Oper)
  | [] => []
  | o :: l => (k, o) :: ix (k + 1) l

theorem ix_map (l : List Oper) : ∀ k, (ix k l).map (·.2) = l := by
  induction l with
  | nil => intro k; rfl
  | cons o l ih => intro k; simp [ix, ih]

/-- A region in the order of its text. -/
theorem awp_region (hty : TyOk P ty) {id : Nat} {l : List Oper} {T : Tmps} {H : AHeap} {Q : APost} (h : TR P N ty l .text true Q (ix 0 l) T H) : AWP P N (.region id l.toArray false) T H Q := by
  intro E st w a r B hc hf hd
  have := h.sound hty E st w a r B hc hf hd
  rw [ix_map] at this
  exact wpIn_region_lit this

end
end Go.Ab
