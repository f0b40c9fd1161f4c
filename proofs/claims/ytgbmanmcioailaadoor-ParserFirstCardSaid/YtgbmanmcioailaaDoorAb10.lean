/-
  The steps of a region, one rule an operation.
-/
import Derived.Test.YtgbmanmcioailaaDoorAb9
namespace Go.Ab

section
variable {P : Program} {N : Nat} {ty : TypeId → Option TyI} {l0 : List Oper} {LD : LDs} {W : Bool} {Q : APost} {n : Nat} {o : Oper} {l : List (Nat × Oper)} {T : Tmps} {H : AHeap}

theorem TR.alloc (hty : TyOk P ty) {elem : TypeId} {i : TyI} {d : Nat} (hg : o.guard = none) (ho : o.op = .alloc elem) (hd : o.dst = some d) (hN : dstOk o.dst N = true) (ht : ty elem = some i)
    (k : ∀ b, TR P N ty l0 LD W Q l ((d, .ptr b 0) :: T) (.box b elem i.zero :: H)) : TR P N ty l0 LD W Q ((n, o) :: l) T H := by
  refine TR.hard _ (.inr (by rw [ho]; rfl)) hg hN (by rw [ho]; trivial) (hard_alloc hty ho ht) ?_ ?_ (fun _ v H' ⟨_, _, e⟩ => e ▸ KeepB.cons _ _) (fun h => by rw [ho] at h; cases h)
  · rintro v H' ⟨b, e, rfl⟩
    cases e
    rw [hd]
    exact k b
  · rintro v H' ⟨b, e, rfl⟩
    cases e

theorem TR.box {elem : TypeId} {x : Operand} {v : AV} {vs : List AV} {d : Nat} (hg : o.guard = none) (ho : o.op = .box elem x) (hd : o.dst = some d) (hN : dstOk o.dst N = true) (hon : optN True T (tmpsOf o.op))
    (hx : opvL (tmpsOf o.op) T x = some v) (hv : cellsOf v = some vs) (h1 : vs.all AV.one = true)
    (k : ∀ b, TR P N ty l0 LD W Q l ((d, .ptr b 0) :: T) (.box b elem v :: H)) : TR P N ty l0 LD W Q ((n, o) :: l) T H := by
  refine TR.hard _ (.inr (by rw [ho]; rfl)) hg hN hon (hard_box ho hx hv h1) ?_ ?_ (fun _ v H' ⟨_, _, e⟩ => e ▸ KeepB.cons _ _) (fun h => by rw [ho] at h; cases h)
  · rintro u H' ⟨b, e, rfl⟩
    cases e
    rw [hd]
    exact k b
  · rintro u H' ⟨b, e, rfl⟩
    cases e

theorem TR.store (hty : TyOk P ty) {t : TypeId} {x y : Operand} {ti : TyI} {b off : Nat} {ty0 : TypeId} {u u' v : AV} {p : Prop} (i : Nat) (hg : o.guard = none) (ho : o.op = .store t x y) (hd : o.dst = none)
    (hon : optN True T (tmpsOf o.op)) (hx : opvL (tmpsOf o.op) T x = some (.ptr b off)) (hy : opvL (tmpsOf o.op) T y = some v) (ht : ty t = some ti) (hi : H[i]? = some (.box b ty0 u)) (hs : boxSet ti u off v = some (p, u')) (hp : p)
    (k : TR P N ty l0 LD W Q l T (H.set i (.box b ty0 u'))) (hkb : LD.kp n ty0 = false) : TR P N ty l0 LD W Q ((n, o) :: l) T H := by
  refine TR.hard _ (.inr (by rw [ho]; rfl)) hg (by rw [hd]; rfl) hon (hard_store hty i ho hx hy ht hi hs hp) ?_ ?_ (fun _ v H' ⟨_, e⟩ => e ▸ KeepB.setBox hi hkb _) (fun h => by rw [ho] at h; cases h)
  · rintro v H' ⟨e, rfl⟩
    rw [hd]
    exact k
  · rintro v H' ⟨e, rfl⟩
    cases e

theorem TR.appendF (hty : TyOk P ty) {s x : Operand} {t e : TypeId} {ti ei : TyI} {vs vx : AV} {sz m' m : Nat} {el el2 : Nat → List AV} {ow : Own} {d : Nat} (V : Option Addr → Nat → AV)
    (hg : o.guard = none) (ho : o.op = .call { callee := .builtin .append, args := #[s, x], argTypes := #[t, t] }) (hd : o.dst = some d) (hN : dstOk o.dst N = true) (hon : optN True T (tmpsOf o.op))
    (hti : ty t = some ti) (hk : ti.k = .slice e) (hei : ty e = some ei) (hsz : ei.size = sz) (hpos : Nat.ble 1 sz = true)
    (hs : opvL (tmpsOf o.op) T s = some vs) (hx : opvL (tmpsOf o.op) T x = some vx) (hvs : asSl sz vs = some (m', el, .full)) (hvx : asSl sz vx = some (m, el2, ow))
    (hb : (m' + m) * ei.bytes ≤ 140737488355328 ∧ m' + m ≤ 9223372036854775807) (hV : ∀ a cap, Sub (.slice sz (m' + m) (glue m' el el2) (.own a cap)) (V a cap))
    (k : ∀ a cap, TR P N ty l0 LD W Q l ((d, V a cap) :: T) (.tok a cap (m' + m) sz e :: H)) : TR P N ty l0 LD W Q ((n, o) :: l) T H := by
  refine TR.hard _ (.inr (by rw [ho]; rfl)) hg hN hon (hard_append_full hty ho hti hk hei hsz hpos hs hx hvs hvx hb hV) ?_ ?_ (fun _ v H' ⟨_, _, _, e⟩ => e ▸ KeepB.cons _ _) (fun h => by rw [ho] at h; cases h)
  · rintro v H' ⟨a, cap, e, rfl⟩
    cases e
    rw [hd]
    exact k a cap
  · rintro v H' ⟨a, cap, e, rfl⟩
    cases e

theorem TR.appendO (hty : TyOk P ty) {s x : Operand} {t e : TypeId} {ti ei : TyI} {vs vx : AV} {sz m' m : Nat} {el el2 : Nat → List AV} {ow : Own} {d : Nat} {a : Option Addr} {cap : Nat} (i : Nat) (V : Option Addr → Nat → AV)
    (hg : o.guard = none) (ho : o.op = .call { callee := .builtin .append, args := #[s, x], argTypes := #[t, t] }) (hd : o.dst = some d) (hN : dstOk o.dst N = true) (hon : optN True T (tmpsOf o.op))
    (hti : ty t = some ti) (hk : ti.k = .slice e) (hei : ty e = some ei) (hsz : ei.size = sz) (hpos : Nat.ble 1 sz = true)
    (hs : opvL (tmpsOf o.op) T s = some vs) (hx : opvL (tmpsOf o.op) T x = some vx) (hvs : asSl sz vs = some (m', el, .own a cap)) (hvx : asSl sz vx = some (m, el2, ow)) (hi : H[i]? = some (.tok a cap m' sz e))
    (hb : (m' + m) * ei.bytes ≤ 140737488355328 ∧ m' + m ≤ 9223372036854775807) (hV : ∀ a cap, Sub (.slice sz (m' + m) (glue m' el el2) (.own a cap)) (V a cap))
    (k : ∀ a cap, TR P N ty l0 LD W Q l ((d, V a cap) :: T) (H.set i (.tok a cap (m' + m) sz e))) : TR P N ty l0 LD W Q ((n, o) :: l) T H := by
  refine TR.hard _ (.inr (by rw [ho]; rfl)) hg hN hon (hard_append_own hty i ho hti hk hei hsz hpos hs hx hvs hvx hi hb hV) ?_ ?_ (fun _ v H' ⟨_, _, _, e⟩ => e ▸ KeepB.setTok hi _) (fun h => by rw [ho] at h; cases h)
  · rintro v H' ⟨a, cap, e, rfl⟩
    cases e
    rw [hd]
    exact k a cap
  · rintro v H' ⟨a, cap, e, rfl⟩
    cases e

theorem TR.bslice (hty : TyOk P ty) {t e : TypeId} {len : Nat} {parts : Array (Nat × Operand)} {ti ei : TyI} {vs : List (Nat × AV)} {cells : List AV} {d : Nat} (V : AV)
    (hg : o.guard = none) (ho : o.op = .buildSlice t len parts) (hd : o.dst = some d) (hN : dstOk o.dst N = true) (hon : optN True T (tmpsOf o.op)) (hti : ty t = some ti) (hk : ti.k = .slice e) (hei : ty e = some ei)
    (hm : mapP (opvL (tmpsOf o.op) T) parts.toList = some vs) (hpos : Nat.ble 1 ei.size = true) (hlen : Nat.ble (len * ei.size) 16777216 = true)
    (hcells : abuild (partsFs e ei.size 0 len) ty (List.replicate (len * ei.size) junk) vs = some cells) (hone : cells.all AV.one = true) (hV : Sub (.slice ei.size len (chunk cells ei.size) .full) V)
    (k : TR P N ty l0 LD W Q l ((d, V) :: T) H) : TR P N ty l0 LD W Q ((n, o) :: l) T H := by
  refine TR.hard _ (.inr (by rw [ho]; rfl)) hg hN hon (hard_buildSlice hty ho hti hk hei hm hpos hlen hcells hone hV) ?_ ?_ (fun _ v H' ⟨_, e⟩ => e ▸ KeepB.refl _) (fun h => by rw [ho] at h; cases h)
  · rintro v H' ⟨e, rfl⟩
    cases e
    rw [hd]
    exact k
  · rintro v H' ⟨e, rfl⟩
    cases e

/-- A function that only reckons: from these arguments this value, and no more. -/
def PCalls (P : Program) (f : FuncId) (vs : List AV) (u : AV) : Prop := ACalls P f vs [] fun r H' => r = .ret u ∧ H' = []

theorem TR.pcall {cf : Operand} {args : Array Operand} {ats : Array TypeId} {f : FuncId} {first captured vs : List AV} {u : AV} {d : Nat} (hg : o.guard = none)
    (ho : o.op = .call { callee := .value cf, args := args, argTypes := ats }) (hd : o.dst = some d) (hN : dstOk o.dst N = true) (hon : optN True T (tmpsOf o.op))
    (hf : opvL (tmpsOf o.op) T cf = some (.func (.func f) first captured)) (hm : mapF (opvL (tmpsOf o.op) T) args.toList = some vs) (h : PCalls P f (first ++ vs ++ captured) u)
    (k : TR P N ty l0 LD W Q l ((d, u) :: T) H) : TR P N ty l0 LD W Q ((n, o) :: l) T H := by
  refine TR.pcl u d hg hd hN hon (by rw [ho]; rfl) (fun H' => AHard.mono (hard_call (Hc := []) (G := H') ho hf hm (List.Perm.refl _) h) ?_) k
  rintro r H2 ⟨Hc', rfl, e, rfl⟩
  exact ⟨e, rfl⟩

/-- The same under a guard that is not decided. -/
theorem TR.pcallopt {cf : Operand} {args : Array Operand} {ats : Array TypeId} {f : FuncId} {first captured vs : List AV} {u : AV} {d j : Nat} {g b x : Bool} {dj : Nat} (hg : o.guard = some (j, g)) (hj : gdst l0 j = some dj)
    (hb : gcond (lk T dj) g = some (x, b)) (ho : o.op = .call { callee := .value cf, args := args, argTypes := ats }) (hd : o.dst = some d) (hN : Nat.ble (d + 1) N = true) (hon : optN (x = b) T (tmpsOf o.op))
    (hf : opvL (tmpsOf o.op) T cf = some (.func (.func f) first captured)) (hm : mapF (opvL (tmpsOf o.op) T) args.toList = some vs) (h : x = b → PCalls P f (first ++ vs ++ captured) u)
    (k : TR P N ty l0 LD W Q l ((d, .opt x b u) :: T) H) (hsc : LD.sc n = false := by exact rfl) : TR P N ty l0 LD W Q ((n, o) :: l) T H := by
  refine TR.copt u d j g b x dj (.inr (by rw [ho]; rfl)) hg hj hb hd hN hon (fun hx => ?_) k (fun _ => hsc)
  refine AHard.mono (hard_call (Hc := []) (G := H) ho hf hm (List.Perm.refl _) (h hx)) ?_
  rintro r H' ⟨Hc', rfl, e, rfl⟩
  exact ⟨e, rfl⟩

theorem TR.hcall {cf : Operand} {args : Array Operand} {ats : Array TypeId} {f : FuncId} {first captured vs : List AV} {Hc G : AHeap} {K : ARes → AHeap → Prop} (hg : o.guard = none)
    (ho : o.op = .call { callee := .value cf, args := args, argTypes := ats }) (hN : dstOk o.dst N = true) (hon : optN True T (tmpsOf o.op))
    (hf : opvL (tmpsOf o.op) T cf = some (.func (.func f) first captured)) (hm : mapF (opvL (tmpsOf o.op) T) args.toList = some vs) (hp : H.Perm (Hc ++ G)) (h : ACalls P f (first ++ vs ++ captured) Hc K)
    (k : ∀ v Hc', K (.ret v) Hc' → TR P N ty l0 LD W Q l (putO o.dst v T) (Hc' ++ G)) (kp : ∀ v Hc', K (.panic v) Hc' → Q (.panic v) T (Hc' ++ G)) (hkb : ∀ v Hc', K (.ret v) Hc' → KeepB LD n H (Hc' ++ G) := by intro _ _ _ _ _ _ h _; cases h) (hsc : LD.sc n = false := by exact rfl) : TR P N ty l0 LD W Q ((n, o) :: l) T H := by
  refine TR.hard _ (.inr (by rw [ho]; rfl)) hg hN hon (hard_call ho hf hm hp h) ?_ ?_ (fun _ v H' ⟨Hc', e, hK⟩ => e ▸ hkb v Hc' hK) (fun _ => hsc)
  · rintro v H' ⟨Hc', rfl, e⟩
    exact k v Hc' e
  · rintro v H' ⟨Hc', rfl, e⟩
    exact kp v Hc' e

theorem TR.panic {x : Operand} {t : TypeId} {v : AV} (hg : o.guard = none) (ho : o.op = .panic x) (hN : dstOk o.dst N = true) (hon : optN True T (tmpsOf o.op)) (hx : opvL (tmpsOf o.op) T x = some (.iface t v))
    (k : Q (.panic (.iface t v)) T H) : TR P N ty l0 LD W Q ((n, o) :: l) T H := by
  refine TR.hard _ (.inr (by rw [ho]; rfl)) hg hN hon (hard_panic ho hx) ?_ ?_ (fun h => by rw [ho] at h; cases h) (fun h => by rw [ho] at h; cases h)
  · rintro u H' ⟨e, rfl⟩
    cases e
  · rintro u H' ⟨e, rfl⟩
    cases e
    exact k

inductive SubL : List AV → List AV → Prop
  | nil : SubL [] []
  | cons {v v' vs vs'} (h : Sub v v') (k : SubL vs vs') : SubL (v :: vs) (v' :: vs')

theorem SubL.refl : ∀ vs, SubL vs vs
  | [] => .nil
  | v :: vs => .cons (Sub.refl v) (SubL.refl vs)

theorem SubL.rep {st : Stab} {w : World} {vs vs' : List AV} (h : SubL vs vs') : ∀ {xs : List Value}, RepL st w vs xs → RepL st w vs' xs := by
  induction h with
  | nil => exact fun h => h
  | @cons v v' vs vs' h _ ih =>
    intro xs hx
    match xs, hx with
    | [], hx => exact absurd hx.1 (by simp)
    | x :: xs, hx =>
      exact RepL.append (vs := [v']) (xs := [x]) ⟨rfl, fun j u y hu hy => by
        match j, hu, hy with
        | 0, hu, hy => simp at hu hy; subst hu; subst hy; exact h _ _ _ (hx.2 0 v x rfl rfl)⟩ (ih ⟨by simpa using hx.1, fun j u y hu hy => hx.2 (j + 1) u y (by simpa using hu) (by simpa using hy)⟩)

theorem ACalls.sub {f : FuncId} {vs vs' : List AV} {K : ARes → AHeap → Prop} (h : ACalls P f vs' H K) (hs : SubL vs vs') : ACalls P f vs H K :=
  ⟨h.1, fun st w xs hc hx hg => h.2 st w xs hc (hs.rep hx) hg⟩

theorem PCalls.sub {f : FuncId} {vs vs' : List AV} {u : AV} (h : PCalls P f vs' u) (hs : SubL vs vs') : PCalls P f vs u := ACalls.sub h hs

theorem pcalls_of_awp (hty : TyOk P ty) {f : FuncId} {fn : Func} {c : Code} {vs : List AV} {u : AV} (hcb : Callable P f) (hf : P.funcs[f]? = some fn) (hb : fn.body = some c)
    (hl : Nat.ble vs.length fn.ntmps = true) (h : AWP P fn.ntmps c (args0 0 vs) [] (fnQ ty fn.results.toList fun r H' => r = .ret u ∧ H' = [])) : PCalls P f vs u :=
  acalls_of_awp hty hcb hf hb hl h


/-- The frame T' is told by T. -/
def Weak (T : Tmps) : Tmps → Prop
  | [] => True
  | (t, v') :: T' => (∃ v, lk T t = some v ∧ Sub v v') ∧ Weak T T'

theorem Weak.spec {T : Tmps} : ∀ {T' : Tmps}, Weak T T' → ∀ t v', lk T' t = some v' → ∃ v, lk T t = some v ∧ Sub v v'
  | [], _, t, v', h => by simp [lk] at h
  | (d, u) :: T', hw, t, v', h => by
    by_cases e : d = t
    · subst e
      simp [lk] at h
      subst h
      exact hw.1
    · simp only [lk, beq_ne e, cond_false] at h
      exact Weak.spec hw.2 t v' h

theorem Sub.of_eq {v v' : AV} (h : v = v') : Sub v v' := h ▸ Sub.refl v

theorem awp_loop0 {c : Code} {ι : Type} (I : ι → Tmps) (J : ι → AHeap) (μ : ι → Nat) (i0 : ι) (h0 : Weak T (I i0)) (hJ : ∃ k, H.drop k = J i0)
    (round : ∀ i, AWP P N c (I i) (J i) (thenQ (fun T' H' => ∃ i', Weak T' (I i') ∧ (∃ k, H'.drop k = J i') ∧ μ i' < μ i) Q)) : AWP P N (.loop c) T H Q := by
  have dr : ∀ {E : Env0} {st : Stab} {H J : AHeap} {w : World} {k : Nat}, Conc E st H w → H.drop k = J → Conc E st J w := by
    intro E st H J w k h e
    subst e
    rw [← List.take_append_drop k H] at h
    exact h.drop_front
  refine awp_loop ι I J μ ?_ fun i => awp_mono (round i) ?_
  · intro E st w a h1 h2
    obtain ⟨k, hk⟩ := hJ
    exact ⟨st, I i0, J i0, dr h1 hk, h2.weaken h0.spec, i0, rfl, rfl⟩
  · intro x T' H' hx
    cases x with
    | normal =>
      obtain ⟨i', h3, ⟨k, hk⟩, h5⟩ := hx
      intro E st w a h1 h2
      exact ⟨st, I i', J i', dr h1 hk, h2.weaken h3.spec, i', rfl, rfl, h5⟩
    | _ => exact hx

theorem TR.hloadi {t : TypeId} {x : Operand} {ti : TyI} {b off : Nat} {ty0 : TypeId} {u v : AV} {p : Prop} {d : Nat} (i : Nat) (hg : o.guard = none) (ho : o.op = .load t x)
    (hd : o.dst = some d) (hN : Nat.ble (d + 1) N = true) (hx : opvL (tmpsOf o.op) T x = some (.ptr b off)) (hon : optN True T (tmpsOf o.op)) (ht : ty t = some ti)
    (hm : H[i]? = some (.box b ty0 u)) (hv : boxAt ti u off = some (p, v)) (hl : LD.ld n ty0 = true) (hp : p) (k : TR P N ty l0 LD W Q l ((d, v) :: T) H) : TR P N ty l0 LD W Q ((n, o) :: l) T H :=
  TR.hload t x ti b off ty0 u p v d hg ho hd hN hx hon ht (List.mem_of_getElem? hm) hv hp hl k

theorem TR.hopti {t : TypeId} {y : Operand} {ti : TyI} {bb off : Nat} {ty0 : TypeId} {u v : AV} {p : Prop} {d j : Nat} {g b x : Bool} {dj : Nat} (i : Nat) (hg : o.guard = some (j, g)) (hj : gdst l0 j = some dj)
    (hb : gcond (lk T dj) g = some (x, b)) (ho : o.op = .load t y) (hd : o.dst = some d) (hN : Nat.ble (d + 1) N = true) (hx : opvL (tmpsOf o.op) T y = some (.ptr bb off)) (hon : optN (x = b) T (tmpsOf o.op))
    (ht : ty t = some ti) (hm : H[i]? = some (.box bb ty0 u)) (hv : boxAt ti u off = some (p, v)) (hl : LD.ld n ty0 = true) (hp : x = b → p) (k : TR P N ty l0 LD W Q l ((d, .opt x b v) :: T) H) :
    TR P N ty l0 LD W Q ((n, o) :: l) T H :=
  TR.hopt t y ti bb off ty0 u p v d j g b x dj hg hj hb ho hd hN hx hon ht (List.mem_of_getElem? hm) hv hp hl k


def isRet : AX → Bool
  | .normal => true
  | .ret => true
  | _ => false

theorem fnQ_ret {rs : List ResultVar} {K : ARes → AHeap → Prop} {x : AX} {vs : List AV} {v : AV} (k : Nat) (hx : isRet x = true) (hr : ResV ty T H rs vs) (hs : Sub (tup vs) v) (hK : K (.ret v) (H.drop k)) : fnQ ty rs K x T H := by
  cases x <;> first | (cases hx; done) | exact ⟨k, vs, v, hr, hs, hK⟩

/-- The end of a function that only reckons: one result in a slot, two, three; one in a box. -/
theorem fnQ_p0 {rs : List ResultVar} {x : AX} {u : AV} (k : Nat) (hx : isRet x = true) (hr : rs = []) (hs : Sub (.tuple []) u) (hd : H.drop k = []) :
    fnQ ty rs (fun r H' => r = .ret u ∧ H' = []) x T H := fnQ_ret (vs := []) k hx (by rw [hr]; exact .nil) hs ⟨rfl, hd⟩
theorem fnQ_p1 {rs : List ResultVar} {x : AX} {t : Nat} {v u : AV} (k : Nat) (hx : isRet x = true) (hr : rs = [.tmp t]) (hl : lk T t = some v) (hd : H.drop k = []) (hs : Sub v u) :
    fnQ ty rs (fun r H' => r = .ret u ∧ H' = []) x T H := fnQ_ret (vs := [v]) k hx (by rw [hr]; exact .tmp hl .nil) hs ⟨rfl, hd⟩
theorem fnQ_p2 {rs : List ResultVar} {x : AX} {t1 t2 : Nat} {v1 v2 u1 u2 : AV} (k : Nat) (hx : isRet x = true) (hr : rs = [.tmp t1, .tmp t2]) (hl1 : lk T t1 = some v1) (hl2 : lk T t2 = some v2) (hd : H.drop k = [])
    (h1 : Sub v1 u1) (h2 : Sub v2 u2) : fnQ ty rs (fun r H' => r = .ret (.tuple [u1, u2]) ∧ H' = []) x T H :=
  fnQ_ret (vs := [v1, v2]) k hx (by rw [hr]; exact .tmp hl1 (.tmp hl2 .nil)) (Sub.tuple2 h1 h2) ⟨rfl, hd⟩
theorem fnQ_p3 {rs : List ResultVar} {x : AX} {t1 t2 t3 : Nat} {v1 v2 v3 u1 u2 u3 : AV} (k : Nat) (hx : isRet x = true) (hr : rs = [.tmp t1, .tmp t2, .tmp t3]) (hl1 : lk T t1 = some v1) (hl2 : lk T t2 = some v2)
    (hl3 : lk T t3 = some v3) (hd : H.drop k = []) (h1 : Sub v1 u1) (h2 : Sub v2 u2) (h3 : Sub v3 u3) : fnQ ty rs (fun r H' => r = .ret (.tuple [u1, u2, u3]) ∧ H' = []) x T H :=
  fnQ_ret (vs := [v1, v2, v3]) k hx (by rw [hr]; exact .tmp hl1 (.tmp hl2 (.tmp hl3 .nil))) (Sub.tuple3 h1 h2 h3) ⟨rfl, hd⟩
theorem fnQ_c1 {rs : List ResultVar} {x : AX} {a t b off : Nat} {ty0 : TypeId} {w u v : AV} {ti : TyI} {p : Prop} (k i : Nat) (hx : isRet x = true) (hr : rs = [.cell a t]) (hl : lk T a = some (.ptr b off)) (ht : ty t = some ti)
    (hi : H[i]? = some (.box b ty0 w)) (hv : boxAt ti w off = some (p, v)) (hd : H.drop k = []) (hp : p) (hs : Sub v u) :
    fnQ ty rs (fun r H' => r = .ret u ∧ H' = []) x T H := fnQ_ret (vs := [v]) k hx (by rw [hr]; exact .cell hl ht (List.mem_of_getElem? hi) hv hp .nil) hs ⟨rfl, hd⟩


theorem thenQ_normal {K : Tmps → AHeap → Prop} (h : K T H) : thenQ K Q .normal T H := h
theorem thenQ_ret {K : Tmps → AHeap → Prop} (h : Q .ret T H) : thenQ K Q .ret T H := h
theorem thenQ_exit {K : Tmps → AHeap → Prop} {j : Nat} (h : Q (.exit j) T H) : thenQ K Q (.exit j) T H := h
theorem thenQ_goto {K : Tmps → AHeap → Prop} {j : Nat} (h : Q (.goto j) T H) : thenQ K Q (.goto j) T H := h
theorem thenQ_panic {K : Tmps → AHeap → Prop} {v : AV} (h : Q (.panic v) T H) : thenQ K Q (.panic v) T H := h
theorem blockQ_normal {id : Nat} (h : Q .normal T H) : blockQ id Q .normal T H := h
theorem blockQ_ret {id : Nat} (h : Q .ret T H) : blockQ id Q .ret T H := h
theorem blockQ_goto {id j : Nat} (h : Q (.goto j) T H) : blockQ id Q (.goto j) T H := h
theorem blockQ_panic {id : Nat} {v : AV} (h : Q (.panic v) T H) : blockQ id Q (.panic v) T H := h
theorem blockQ_hit {id : Nat} (h : Q .normal T H) : blockQ id Q (.exit id) T H := by simp only [blockQ, if_true]; exact h
theorem blockQ_miss {id j : Nat} (hj : Nat.beq j id = false) (h : Q (.exit j) T H) : blockQ id Q (.exit j) T H := by
  have : j ≠ id := fun e => by rw [e, Nat.beq_refl] at hj; cases hj
  simp only [blockQ, if_neg this]
  exact h


/-- The goal is a region's. -/
theorem tr_id {l : List (Nat × Oper)} (h : TR P N ty l0 LD W Q l T H) : TR P N ty l0 LD W Q l T H := h


theorem tr_guarded {g : Nat × Bool} (_hg : o.guard = some g) (h : TR P N ty l0 LD W Q ((n, o) :: l) T H) : TR P N ty l0 LD W Q ((n, o) :: l) T H := h
theorem tr_load {t : TypeId} {x : Operand} (_hg : o.op = .load t x) (h : TR P N ty l0 LD W Q ((n, o) :: l) T H) : TR P N ty l0 LD W Q ((n, o) :: l) T H := h
theorem tr_store {t : TypeId} {x y : Operand} (_hg : o.op = .store t x y) (h : TR P N ty l0 LD W Q ((n, o) :: l) T H) : TR P N ty l0 LD W Q ((n, o) :: l) T H := h
theorem tr_call {c : Call} (_hg : o.op = .call c) (h : TR P N ty l0 LD W Q ((n, o) :: l) T H) : TR P N ty l0 LD W Q ((n, o) :: l) T H := h

end
end Go.Ab
