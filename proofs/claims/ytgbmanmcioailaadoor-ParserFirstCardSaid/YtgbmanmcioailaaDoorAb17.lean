/-
  Equality of structs and of interface values.
-/
import Derived.Test.YtgbmanmcioailaaDoorAb16
import Derived.Laws.StructEq
namespace Go.Ab

/-- Struct types whose values are compared field by field. -/
def eqChk (P : Program) (t : TypeId) : Bool :=
  !P.stoodInHeld t && !P.eqGuardType P.depth t && (match P.underlying t with
  | some (.struct a) => a.toList.all fun f => f.name != "_"
  | _ => false)

def EqOk (P : Program) (es : List TypeId) : Prop := ∀ t ∈ es, eqChk P t = true

theorem eqOk_of {P : Program} {es : List TypeId} (h : es.all (eqChk P) = true) : EqOk P es := fun t ht => List.all_eq_true.1 h t ht

def aeqFs (ty : TypeId → Option TyI) (R : TypeId → AV → AV → Option Bool) (xs ys : List AV) : List (Nat × TypeId) → Option Bool
  | [] => some true
  | (off, ft) :: fs => match ty ft with
    | some fi => match partOf fi (xs.drop off) with
      | some a => match partOf fi (ys.drop off) with
        | some b => match R ft a b with
          | some r => match aeqFs ty R xs ys fs with
            | some r' => some (r && r')
            | none => none
          | none => none
        | none => none
      | none => none
    | none => none

def aeqv (ty : TypeId → Option TyI) (es : List TypeId) : Nat → TypeId → AV → AV → Option Bool
  | 0, _, _, _ => none
  | d + 1, t, x, y => match ty t with
    | none => none
    | some i => match i.k with
      | .bool => match x with
        | .bool a => match y with
          | .bool b => some (a == b)
          | _ => none
        | _ => none
      | .int _ => match x with
        | .int k a => match y with
          | .int k' b => if k = k' then some (a == b) else none
          | _ => none
        | _ => none
      | .str => match x with
        | .str a => match y with
          | .str b => some (a == b)
          | _ => none
        | _ => none
      | .iface => match x with
        | .nilIface => match y with
          | .nilIface => some true
          | .iface _ _ => some false
          | _ => none
        | .iface _ _ => match y with
          | .nilIface => some false
          | _ => none
        | _ => none
      | .struct fs => cond (es.contains t) (match x with
        | .agg xs => match y with
          | .agg ys => aeqFs ty (aeqv ty es d) xs ys fs
          | _ => none
        | _ => none) none
      | _ => none

section
variable {P : Program} {N : Nat} {ty : TypeId → Option TyI} {es : List TypeId}

theorem str_beq (a b : List UInt8) : ((⟨a.toArray⟩ : ByteArray) == ⟨b.toArray⟩) = (a == b) := by
  show ((a.toArray : Array UInt8) == b.toArray) = (a == b)
  simp

theorem aeqv_sound (hty : TyOk P ty) (hes : EqOk P es) {st : Stab} {w : World} : ∀ (d : Nat) (t : TypeId) (x y : AV) (cx cy : Value) (b : Bool), aeqv ty es d t x y = some b → Rep st w x cx → Rep st w y cy →
    ∀ D, d ≤ D → (Op.equalIn D t cx cy).run P w = .ok b w := by
  intro d
  induction d with
  | zero => intro t x y cx cy b h; simp [aeqv] at h
  | succ d ih =>
    intro t x y cx cy b h hx hy D hD
    obtain ⟨D, rfl⟩ : ∃ D', D = D' + 1 := ⟨D - 1, by omega⟩
    unfold aeqv at h
    cases hi : ty t with
    | none => rw [hi] at h; cases h
    | some i =>
      rw [hi] at h
      obtain ⟨⟨ds, hd, hk⟩, -⟩ := hty t i hi
      simp only at h
      cases hik : i.k <;> rw [hik] at h hk <;> simp only [reduceCtorEq] at h
      case int k0 =>
        obtain rfl : ds = .int k0 := hk
        cases x <;> simp only [reduceCtorEq] at h
        cases y <;> simp only [reduceCtorEq] at h
        split at h
        · rename_i e
          subst e
          cases hx; cases hy
          simp only [Option.some.injEq] at h
          subst h
          exact run_equalIn_int w D t _ _ _ _ hd
        · cases h
      case bool =>
        obtain rfl : ds = .bool := hk
        cases x <;> simp only [reduceCtorEq] at h
        cases y <;> simp only [reduceCtorEq] at h
        cases hx; cases hy
        simp only [Option.some.injEq] at h
        subst h
        exact run_equalIn_bool' w D t _ _ hd
      case str =>
        obtain rfl : ds = .string := hk
        cases x <;> simp only [reduceCtorEq] at h
        cases y <;> simp only [reduceCtorEq] at h
        cases hx; cases hy
        simp only [Option.some.injEq] at h
        subst h
        simp [Op.equalIn, run_underlying hd, str_beq]
      case iface =>
        obtain ⟨m, rfl⟩ := hk
        cases x <;> simp only [reduceCtorEq] at h <;> cases y <;> simp only [reduceCtorEq, Option.some.injEq] at h <;> subst h <;> cases hx <;> cases hy <;> simp [Op.equalIn, run_underlying hd]
      case struct fs =>
        obtain ⟨a, rfl, ha⟩ := hk
        cases hc : es.contains t with
        | false => rw [hc] at h; cases h
        | true =>
          rw [hc, cond_true] at h
          have hm : t ∈ es := by simpa using hc
          have hchk := hes t hm
          simp only [eqChk, hd, Bool.and_eq_true, Bool.not_eq_true'] at hchk
          obtain ⟨⟨h1, _⟩, h3⟩ := hchk
          have hfo : P.fieldsOf t = a := by simp [Program.fieldsOf, hd]
          cases x <;> simp only [reduceCtorEq] at h
          cases y <;> simp only [reduceCtorEq] at h
          rename_i xs ys
          cases hx with
          | agg _ csx hlx hrx =>
          cases hy with
          | agg _ csy hly hry =>
          rw [run_equalIn_agg w D t _ _ (by rw [hfo]; exact hd) h1, hfo]
          have key : ∀ (fl : List Field) (fs : List (Nat × TypeId)) (b : Bool), fl.map (fun f => (f.offset, f.type)) = fs → (∀ f ∈ fl, f.name ≠ "_") → aeqFs ty (aeqv ty es d) xs ys fs = some b → (Op.eqFields D ⟨csx⟩ ⟨csy⟩ fl).run P w = .ok b w := by
            intro fl
            induction fl with
            | nil =>
              intro fs b e _ h
              simp at e
              subst e
              simp only [aeqFs, Option.some.injEq] at h
              subst h
              simp [Op.eqFields]
            | cons f fl ihf =>
              intro fs b e hne h
              simp only [List.map_cons] at e
              subst e
              simp only [aeqFs] at h
              cases hft : ty f.type with
              | none => simp [hft] at h
              | some fi =>
                simp only [hft] at h
                cases hpa : partOf fi (xs.drop f.offset) with
                | none => simp [hpa] at h
                | some va =>
                  simp only [hpa] at h
                  cases hpb : partOf fi (ys.drop f.offset) with
                  | none => simp [hpb] at h
                  | some vb =>
                    simp only [hpb] at h
                    cases hR : aeqv ty es d f.type va vb with
                    | none => simp [hR] at h
                    | some r =>
                      simp only [hR] at h
                      cases hR' : aeqFs ty (aeqv ty es d) xs ys (fl.map fun f => (f.offset, f.type)) with
                      | none => simp [hR'] at h
                      | some r' =>
                        simp only [hR', Option.some.injEq] at h
                        subst h
                        obtain ⟨ca, e1, e2⟩ := part_sound (P := P) hty hft hlx hrx hpa
                        obtain ⟨cb, e3, e4⟩ := part_sound (P := P) hty hft hly hry hpb
                        have e5 := ih f.type va vb ca cb r hR e2 e4 D (by omega)
                        have e6 := ihf _ r' rfl (fun g hg => hne g (by simp [hg])) hR'
                        simp only [Op.eqFields, if_pos (hne f (by simp)), Sem.run_bind, e1, Result.andThen_ok, e3, e5]
                        cases r
                        · simp
                        · simpa using e6
          exact key a.toList fs b ha (fun f hf => by have := List.all_eq_true.1 h3 f hf; simpa using this) h

theorem run_binOp_eq {t : TypeId} {x y : Value} {w : World} {b : Bool} (h : (Op.equalIn 10000 t x y).run P w = .ok b w) (hx : (∃ a, x = .agg a) ∨ (x = .nilIface) ∨ ∃ t v, x = .iface t v) :
    (binOp .eql t x y).run P w = .ok (.bool b) w ∧ (binOp .neq t x y).run P w = .ok (.bool (!b)) w := by
  rcases hx with ⟨a, rfl⟩ | rfl | ⟨t', v, rfl⟩
  all_goals
    constructor
    · cases y <;> simp [binOp, Op.equal, Op.maxDepth, h]
    · cases y <;> simp [binOp, Op.equal, Op.maxDepth, h]

def isC : Operand → Bool
  | .const _ => true
  | _ => false

/-- The pair needs no look at nil values of interface types with methods. -/
def eqPairOk (es : List TypeId) (t : TypeId) (x y : Operand) (vx vy : AV) : Bool :=
  match vx with
  | .agg _ => es.contains t
  | .nilIface => match vy with
    | .nilIface => isC x || isC y
    | _ => true
  | .iface _ _ => true
  | _ => false

theorem eq_sem (hty : TyOk P ty) (hes : EqOk P es) {o : Oper} {F : Operand → Option AV} {op : BinOp} {t : TypeId} {x y : Operand} {rt : TypeId} {vx vy : AV} {b : Bool} (ho : o.op = .binOp op t x y rt) (hop : op = .eql ∨ op = .neq)
    (hx : F x = some vx) (hy : F y = some vy) (h : aeqv ty es 8 t vx vy = some b) (hp : eqPairOk es t x y vx vy = true) : ASem P o F (.bool (if op = .eql then b else !b)) := by
  intro st w ρ hF
  have hrx := hF x _ hx
  have hry := hF y _ hy
  have he := aeqv_sound hty hes 8 t vx vy _ _ b h hrx hry 10000 (by omega)
  have hshape : (∃ a, ρ x = .agg a) ∨ (ρ x = .nilIface) ∨ ∃ t v, ρ x = .iface t v := by
    generalize ρ x = cx at hrx
    cases hrx <;> simp [eqPairOk] at hp <;> simp
  obtain ⟨r1, r2⟩ := run_binOp_eq he hshape
  have hg : (eqGuard op t x y (ρ x) (ρ y)).run P w = .ok () w := by
    generalize ρ x = cx at *
    generalize ρ y = cy at *
    cases vx <;> simp only [eqPairOk, Bool.false_eq_true] at hp
    case agg xs =>
      have hm : t ∈ es := by simpa using hp
      have hchk := hes t hm
      simp only [eqChk, Bool.and_eq_true, Bool.not_eq_true'] at hchk
      cases hrx
      cases vy <;> first | (cases hry; exact run_eqGuard_agg w op t x y _ _ hchk.1.2) | (unfold aeqv at h; cases hti : ty t <;> simp [hti] at h; rename_i i; cases hik : i.k <;> simp [hik] at h)
    case iface t' v =>
      cases hrx
      cases cy <;> (cases op <;> simp [eqGuard])
    case nilIface =>
      cases hrx
      cases vy <;> try (unfold aeqv at h; cases hti : ty t <;> simp [hti] at h; rename_i i; cases hik : i.k <;> simp [hik] at h; done)
      case nilIface =>
        cases hry
        simp only [isC] at hp
        cases x <;> cases y <;> simp at hp <;> (cases op <;> simp [eqGuard])
      case iface =>
        cases hry
        cases op <;> simp [eqGuard]
  obtain ⟨dst, op', type, pos, after, guard⟩ := o
  simp only at ho
  subst ho
  rcases hop with rfl | rfl
  · exact ⟨_, by simp only [execOp, Sem.run_bind, hg, Result.andThen_ok, r1]; rfl, .bool _⟩
  · exact ⟨_, by simp only [execOp, Sem.run_bind, hg, Result.andThen_ok, r2]; rfl, .bool _⟩

variable {l0 : List Oper} {LD : LDs} {W : Bool} {l : List (Nat × Oper)} {n : Nat} {T : Tmps} {H : AHeap} {Q : APost} {o : Oper}

theorem qeq (hty : TyOk P ty) (hes : EqOk P es) {t : TypeId} {x y : Operand} {rt : TypeId} {vx vy : AV} {b : Bool} {d : Nat} (k : TR P N ty l0 LD W Q l ((d, .bool b) :: T) H) (hg : o.guard = none := by exact rfl)
    (ho : o.op = .binOp .eql t x y rt := by exact rfl) (hd : o.dst = some d := by exact rfl) (hN : Nat.ble (d + 1) N = true := by exact rfl) (hon : optN True T (tmpsOf o.op) := by (first | exact True.intro | exact ⟨id, True.intro⟩ | exact ⟨id, id, True.intro⟩ | exact ⟨id, id, id, True.intro⟩))
    (hx : opvL (tmpsOf o.op) T x = some vx := by exact rfl) (hy : opvL (tmpsOf o.op) T y = some vy := by exact rfl) (h : aeqv ty es 8 t vx vy = some b := by exact rfl) (hp : eqPairOk es t x y vx vy = true := by exact rfl) : TR P N ty l0 LD W Q ((n, o) :: l) T H :=
  TR.sem _ _ hg hd hN hon (by simpa using eq_sem hty hes ho (.inl rfl) hx hy h hp) k

theorem qne (hty : TyOk P ty) (hes : EqOk P es) {t : TypeId} {x y : Operand} {rt : TypeId} {vx vy : AV} {b : Bool} {d : Nat} (k : TR P N ty l0 LD W Q l ((d, .bool (!b)) :: T) H) (hg : o.guard = none := by exact rfl)
    (ho : o.op = .binOp .neq t x y rt := by exact rfl) (hd : o.dst = some d := by exact rfl) (hN : Nat.ble (d + 1) N = true := by exact rfl) (hon : optN True T (tmpsOf o.op) := by (first | exact True.intro | exact ⟨id, True.intro⟩ | exact ⟨id, id, True.intro⟩ | exact ⟨id, id, id, True.intro⟩))
    (hx : opvL (tmpsOf o.op) T x = some vx := by exact rfl) (hy : opvL (tmpsOf o.op) T y = some vy := by exact rfl) (h : aeqv ty es 8 t vx vy = some b := by exact rfl) (hp : eqPairOk es t x y vx vy = true := by exact rfl) : TR P N ty l0 LD W Q ((n, o) :: l) T H :=
  TR.sem _ _ hg hd hN hon (by simpa using eq_sem hty hes ho (.inr rfl) hx hy h hp) k

theorem qeqo (hty : TyOk P ty) (hes : EqOk P es) {t : TypeId} {x y : Operand} {rt : TypeId} {vx vy : AV} {r : Bool} {d j : Nat} {g b z : Bool} {dj : Nat} (k : TR P N ty l0 LD W Q l ((d, .opt z b (.bool r)) :: T) H) (hg : o.guard = some (j, g) := by exact rfl)
    (hj : gdst l0 j = some dj := by exact rfl) (hb : gcond (lk T dj) g = some (z, b) := by exact rfl)
    (ho : o.op = .binOp .eql t x y rt := by exact rfl) (hd : o.dst = some d := by exact rfl) (hN : Nat.ble (d + 1) N = true := by exact rfl) (hon : optN (z = b) T (tmpsOf o.op) := by (first | exact True.intro | exact ⟨id, True.intro⟩ | exact ⟨id, id, True.intro⟩ | exact ⟨id, id, id, True.intro⟩))
    (hx : opvL (tmpsOf o.op) T x = some vx := by exact rfl) (hy : opvL (tmpsOf o.op) T y = some vy := by exact rfl) (h : aeqv ty es 8 t vx vy = some r := by exact rfl) (hp : eqPairOk es t x y vx vy = true := by exact rfl) : TR P N ty l0 LD W Q ((n, o) :: l) T H :=
  TR.sopt _ _ _ _ _ _ _ hg hj hb hd hN hon (fun _ => by simpa using eq_sem hty hes ho (.inl rfl) hx hy h hp) k

theorem qneo (hty : TyOk P ty) (hes : EqOk P es) {t : TypeId} {x y : Operand} {rt : TypeId} {vx vy : AV} {r : Bool} {d j : Nat} {g b z : Bool} {dj : Nat} (k : TR P N ty l0 LD W Q l ((d, .opt z b (.bool (!r))) :: T) H) (hg : o.guard = some (j, g) := by exact rfl)
    (hj : gdst l0 j = some dj := by exact rfl) (hb : gcond (lk T dj) g = some (z, b) := by exact rfl)
    (ho : o.op = .binOp .neq t x y rt := by exact rfl) (hd : o.dst = some d := by exact rfl) (hN : Nat.ble (d + 1) N = true := by exact rfl) (hon : optN (z = b) T (tmpsOf o.op) := by (first | exact True.intro | exact ⟨id, True.intro⟩ | exact ⟨id, id, True.intro⟩ | exact ⟨id, id, id, True.intro⟩))
    (hx : opvL (tmpsOf o.op) T x = some vx := by exact rfl) (hy : opvL (tmpsOf o.op) T y = some vy := by exact rfl) (h : aeqv ty es 8 t vx vy = some r := by exact rfl) (hp : eqPairOk es t x y vx vy = true := by exact rfl) : TR P N ty l0 LD W Q ((n, o) :: l) T H :=
  TR.sopt _ _ _ _ _ _ _ hg hj hb hd hN hon (fun _ => by simpa using eq_sem hty hes ho (.inr rfl) hx hy h hp) k

end
end Go.Ab
