/-
  Frames of abstract values, and rules for code: each says of a piece of code what it does to frame and heap, on Code.wpIn of the library (the fence lets all functions in; it names the loop in whose round the code stands, if it stands in one).
-/
import Derived.Test.YtgbmanmcioailaaDoorAb1
import Derived.RangeFuncRecord
import Derived.OrdersIn
import Derived.TacticsIn
namespace Go.Ab

theorem FR.weaken {N : Nat} {st : Stab} {w : World} {T T' : Tmps} {a : Act} (h : FR N st w T a)
    (hs : ∀ t v', lk T' t = some v' → ∃ v, lk T t = some v ∧ Sub v v') : FR N st w T' a :=
  ⟨h.size, fun t v' ht => let ⟨v, h1, h2⟩ := hs t v' ht; let ⟨c, h3, h4⟩ := h.val t v h1; ⟨c, h3, h2 _ _ _ h4⟩⟩

theorem FR.put {N : Nat} {st : Stab} {w : World} {T : Tmps} {a : Act} (h : FR N st w T a) {d : Nat} (hd : Nat.ble (d + 1) N = true) {v : AV} {c : Value} (hr : Rep st w v c) :
    FR N st w ((d, v) :: T) (a.put (some d) c) := by
  refine ⟨by simp [Act.put, h.size], fun t v' ht => ?_⟩
  have hdN : d < N := Nat.le_of_ble_eq_true hd
  by_cases e : d = t
  · subst e
    simp [lk] at ht
    subst ht
    exact ⟨c, by simp [Act.put, h.size, hdN], hr⟩
  · have hb : Nat.beq d t = false := beq_ne e
    simp [lk, hb] at ht
    obtain ⟨c', h1, h2⟩ := h.val t v' ht
    exact ⟨c', by simp [Act.put, Array.getElem?_setIfInBounds_ne e, h1], h2⟩

/-- A slot whose value is not known any more. -/
def del : Tmps → Nat → Tmps
  | [], _ => []
  | (d, v) :: T, t => cond (Nat.beq d t) (del T t) ((d, v) :: del T t)

theorem lk_del (T : Tmps) (t u : Nat) : lk (del T t) u = if u = t then none else lk T u := by
  induction T with
  | nil => simp [del, lk]
  | cons p T ih =>
    obtain ⟨d, v⟩ := p
    by_cases e : d = t
    · subst e
      simp only [del, Nat.beq_refl, cond_true, ih, lk]
      by_cases e2 : u = d
      · simp [e2]
      · have : Nat.beq d u = false := beq_ne fun h => e2 h.symm
        simp [e2, this]
    · have : Nat.beq d t = false := beq_ne e
      simp only [del, this, cond_false, lk, ih]
      by_cases e2 : d = u
      · subst e2; simp [e]
      · have : Nat.beq d u = false := beq_ne e2
        simp [this]

theorem FR.putNone {N : Nat} {st : Stab} {w : World} {T : Tmps} {a : Act} (h : FR N st w T a) {d : Nat} {c : Value} :
    FR N st w (del T d) (a.put (some d) c) := by
  refine ⟨by simp [Act.put, h.size], fun t v' ht => ?_⟩
  rw [lk_del] at ht
  split at ht
  · cases ht
  · rename_i e
    obtain ⟨c', h1, h2⟩ := h.val t v' ht
    exact ⟨c', by simp [Act.put, Array.getElem?_setIfInBounds_ne (fun h => e h.symm), h1], h2⟩

inductive AX where
  | normal
  | exit (id : Nat)
  | goto (l : Nat)
  | ret
  | panic (v : AV)

def XR (st : Stab) (w : World) : Exit → AX → Prop
  | .normal, .normal => True
  | .exit i, .exit j => i = j
  | .goto i, .goto j => i = j
  | .ret, .ret => True
  | .panic ch, .panic v => ∃ c, ch = [{ v := c, recovered := false }] ∧ Rep st w v c
  | _, _ => False

abbrev APost := AX → Tmps → AHeap → Prop

/-- All functions are let in; the round in which the code stands. -/
def fen (r : Option Nat) : Fence := { Fence.wide with round := r }

/-- What package-level variables hold; the heap owns none of them. -/
def Gl (H : AHeap) (w : World) : Prop := ∀ g ∈ globs, ¬ AHeap.owns H g.b ∧ ∃ c t f, w.heap[g.b]? = some (.cells c t f) ∧ g.p c

theorem Gl.sub {H H' : AHeap} {w : World} (h : Gl H w) (ho : ∀ k, AHeap.owns H' k → AHeap.owns H k) : Gl H' w :=
  fun g hg => ⟨fun x => (h g hg).1 (ho _ x), (h g hg).2⟩

theorem Gl.keep {H H' : AHeap} {w w' : World} {st st' : Stab} (h : Gl H w) (hc : Conc (Env0.of w st H) st' H' w') : Gl H' w' := by
  intro g hg
  obtain ⟨h1, c, t, f, h2, h3⟩ := h g hg
  have hlt := (Array.getElem?_eq_some_iff.1 h2).1
  refine ⟨fun ho' => ?_, c, t, f, (hc.old g.b hlt h1).trans h2, h3⟩
  rcases hc.ownnew g.b ho' with y | y
  · exact h1 y
  · have : w.heap.size ≤ g.b := y
    omega

theorem Gl.putObj {H : AHeap} {w : World} (h : Gl H w) {b : Nat} {x y : Obj} (hb : w.heap[b]? = some x) (hx : ∀ c t f, x ≠ .cells c t f) : Gl H (w.putObj b y) := by
  intro g hg
  obtain ⟨h1, c, t, f, h2, h3⟩ := h g hg
  refine ⟨h1, c, t, f, ?_, h3⟩
  rw [World.putObj_heap_other]
  · exact h2
  · intro e
    rw [e, hb] at h2
    cases h2
    exact hx _ _ _ rfl

theorem Gl.grow {H H' : AHeap} {w w' : World} (h : Gl H w) (hb : ∀ k, k < w.heap.size → w'.heap[k]? = w.heap[k]?) (ho : ∀ k, AHeap.owns H' k → AHeap.owns H k ∨ w.heap.size ≤ k) : Gl H' w' := by
  intro g hg
  obtain ⟨h1, c, t, f, h2, h3⟩ := h g hg
  have hlt := (Array.getElem?_eq_some_iff.1 h2).1
  refine ⟨fun ho' => ?_, c, t, f, (hb _ hlt).trans h2, h3⟩
  rcases ho _ ho' with y | y
  · exact h1 y
  · omega

/-- What lies beside the heap: marks of loops among the deferred calls, each its own block; the record of the loop in whose round the code stands. -/
structure Fr0 (r : Option Nat) (B : Nat) (H : AHeap) (w : World) (ds : List Deferred) : Prop where
  marks : ∀ d ∈ ds, ∃ b, d = { target := .collected b, args := #[] } ∧ w.heap[b]? = some (.deferred (some [])) ∧ ¬ AHeap.owns H b ∧ B ≤ b
  nodup : ds.Nodup
  size : B ≤ w.heap.size
  lrec : ∀ l, r = some l → (∃ R, w.heap[l]? = some (.loop R)) ∧ ¬ AHeap.owns H l
  gl : Gl H w

theorem Conc.trans {E : Env0} {st st' : Stab} {H H' : AHeap} {w w' : World} (h : Conc E st H w) (h' : Conc (Env0.of w st H) st' H' w') : Conc E st' H' w' := by
  have := (Conc.call (F := []) (by simpa using h) h').1
  simpa using this

theorem Fr0.keep {r : Option Nat} {B : Nat} {H H' : AHeap} {w w' : World} {st st' : Stab} {ds : List Deferred} (h : Fr0 r B H w ds) (hc : Conc (Env0.of w st H) st' H' w') : Fr0 r B H' w' ds := by
  have key : ∀ b, b < w.heap.size → ¬ AHeap.owns H b → w'.heap[b]? = w.heap[b]? ∧ ¬ AHeap.owns H' b := by
    intro b hb ho
    refine ⟨hc.old b hb ho, fun ho' => ?_⟩
    rcases hc.ownnew b ho' with x | x
    · exact ho x
    · have : w.heap.size ≤ b := x
      omega
  refine ⟨fun d hd => ?_, h.nodup, Nat.le_trans h.size hc.size, fun l hl => ?_, h.gl.keep hc⟩
  · obtain ⟨b, h1, h2, h3, h4⟩ := h.marks d hd
    obtain ⟨k1, k2⟩ := key b (Array.getElem?_eq_some_iff.1 h2).1 h3
    exact ⟨b, h1, k1.trans h2, k2, h4⟩
  · obtain ⟨⟨R, h1⟩, h2⟩ := h.lrec l hl
    obtain ⟨k1, k2⟩ := key l (Array.getElem?_eq_some_iff.1 h1).1 h2
    exact ⟨⟨R, k1.trans h1⟩, k2⟩

theorem Fr0.sub {r : Option Nat} {B : Nat} {H H' : AHeap} {w : World} {ds : List Deferred} (h : Fr0 r B H w ds) (ho : ∀ k, AHeap.owns H' k → AHeap.owns H k) : Fr0 r B H' w ds :=
  ⟨fun d hd => let ⟨b, h1, h2, h3, h4⟩ := h.marks d hd; ⟨b, h1, h2, fun x => h3 (ho b x), h4⟩, h.nodup, h.size, fun l hl => let ⟨h1, h2⟩ := h.lrec l hl; ⟨h1, fun x => h2 (ho l x)⟩, h.gl.sub ho⟩

theorem Fr0.none_nil {H : AHeap} {w : World} (h : Gl H w) : Fr0 none w.heap.size H w [] := ⟨fun d hd => (by cases hd), List.nodup_nil, Nat.le_refl _, fun l hl => (by cases hl), h⟩

/-- Where new blocks begin; the calls that were deferred before. -/
structure Bs where
  lo : Nat
  D : List Deferred

/-- The same, above calls that were deferred before. -/
def Fr (r : Option Nat) (B : Bs) (H : AHeap) (w : World) (ds : List Deferred) : Prop := ∃ ms, ds = ms ++ B.D ∧ Fr0 r B.lo H w ms

theorem Fr.keep {r : Option Nat} {B : Bs} {H H' : AHeap} {w w' : World} {st st' : Stab} {ds : List Deferred} (h : Fr r B H w ds) (hc : Conc (Env0.of w st H) st' H' w') : Fr r B H' w' ds :=
  let ⟨ms, e, h⟩ := h; ⟨ms, e, h.keep hc⟩

theorem Fr.sub {r : Option Nat} {B : Bs} {H H' : AHeap} {w : World} {ds : List Deferred} (h : Fr r B H w ds) (ho : ∀ k, AHeap.owns H' k → AHeap.owns H k) : Fr r B H' w ds :=
  let ⟨ms, e, h⟩ := h; ⟨ms, e, h.sub ho⟩

theorem Fr.gl {r : Option Nat} {B : Bs} {H : AHeap} {w : World} {ds : List Deferred} (h : Fr r B H w ds) : Gl H w := let ⟨_, _, h⟩ := h; h.gl

theorem Fr.none_nil {H : AHeap} {w : World} (h : Gl H w) : Fr none ⟨w.heap.size, []⟩ H w [] := ⟨[], rfl, Fr0.none_nil h⟩

def Post (E : Env0) (N : Nat) (r : Option Nat) (B : Bs) (Q : APost) : Exit → Act → World → Prop
  | .outgrown, _, _ => False
  | e, a, w => ∃ st T H x, Conc E st H w ∧ FR N st w T a ∧ Fr r B H w a.defers ∧ XR st w e x ∧ Q x T H

def AWP (P : Program) (N : Nat) (c : Code) (T : Tmps) (H : AHeap) (Q : APost) : Prop :=
  ∀ E st w a r B, Conc E st H w → FR N st w T a → Fr r B H w a.defers → c.wpIn (fen r) 0 P (Post E N r B Q) a w

def thenQ (K : Tmps → AHeap → Prop) (Q : APost) : APost
  | .normal, T, H => K T H
  | e, T, H => Q e T H

section
variable {P : Program} {N : Nat} {T : Tmps} {H : AHeap} {Q : APost}

theorem Post.mk {E : Env0} {r : Option Nat} {B : Bs} {st : Stab} {e : Exit} {a : Act} {w : World} {x : AX} (hc : Conc E st H w) (hf : FR N st w T a) (hd : Fr r B H w a.defers) (hx : XR st w e x) (hq : Q x T H) :
    Post E N r B Q e a w := by
  cases e <;> first | exact ⟨st, T, H, x, hc, hf, hd, hx, hq⟩ | (cases x <;> exact hx.elim)

theorem Post.mono {E : Env0} {r : Option Nat} {B : Bs} {Q' : APost} (h : ∀ x T H, Q x T H → Q' x T H) {e : Exit} {a : Act} {w : World} (hp : Post E N r B Q e a w) : Post E N r B Q' e a w := by
  cases e <;> first
    | exact hp.elim
    | (obtain ⟨st, T, H, x, h1, h2, h3, h4, h5⟩ := hp; exact ⟨st, T, H, x, h1, h2, h3, h4, h _ _ _ h5⟩)

theorem awp_mono {c : Code} {Q' : APost} (h : AWP P N c T H Q) (hq : ∀ x T H, Q x T H → Q' x T H) : AWP P N c T H Q' :=
  fun E st w a r B hc hf hd => wpIn_mono (h E st w a r B hc hf hd) fun _ _ _ hp => Post.mono hq hp

theorem awp_skip (h : Q .normal T H) : AWP P N .skip T H Q := fun _ _ _ _ _ _ hc hf hd => wpIn_skip (Post.mk hc hf hd (x := .normal) trivial h)
theorem awp_label {l : Nat} (h : Q .normal T H) : AWP P N (.label l) T H Q := fun _ _ _ _ _ _ hc hf hd => wpIn_label (Post.mk hc hf hd (x := .normal) trivial h)
theorem awp_exit {id : Nat} (h : Q (.exit id) T H) : AWP P N (.exit id) T H Q := fun _ _ _ _ _ _ hc hf hd => wpIn_exit (Post.mk hc hf hd (x := .exit id) rfl h)
theorem awp_goto {l : Nat} (h : Q (.goto l) T H) : AWP P N (.goto l) T H Q := fun _ _ _ _ _ _ hc hf hd => wpIn_goto (Post.mk hc hf hd (x := .goto l) rfl h)
theorem awp_ret (h : Q .ret T H) : AWP P N .ret T H Q := fun _ _ _ _ _ _ hc hf hd => wpIn_ret (Post.mk hc hf hd (x := .ret) trivial h)

theorem awp_seq {x y : Code} (h : AWP P N x T H (thenQ (fun T' H' => AWP P N y T' H' Q) Q)) : AWP P N (.seq x y) T H Q := by
  intro E st w a r B hc hf hd
  refine wpIn_seq (wpIn_mono (h E st w a r B hc hf hd) ?_)
  intro e a' w' hp
  cases e with
  | outgrown => exact hp.elim
  | normal =>
    obtain ⟨st', T', H', x, h1, h2, h3, h4, h5⟩ := hp
    cases x <;> first | exact h4.elim | exact h5 E st' w' a' r B h1 h2 h3
  | _ =>
    obtain ⟨st', T', H', x, h1, h2, h3, h4, h5⟩ := hp
    cases x <;> first | exact h4.elim | exact ⟨st', T', H', _, h1, h2, h3, h4, h5⟩

/-- The same, with the rest under a name: the walk does not carry its text. -/
theorem awp_seq_k {x y : Code} (h : ∀ K : Tmps → AHeap → Prop, (∀ T' H', AWP P N y T' H' Q → K T' H') → AWP P N x T H (thenQ K Q)) : AWP P N (.seq x y) T H Q :=
  awp_seq (h _ fun _ _ h => h)

def blockQ (id : Nat) (Q : APost) : APost
  | .exit j, T, H => if j = id then Q .normal T H else Q (.exit j) T H
  | e, T, H => Q e T H

theorem awp_block {id : Nat} {c : Code} (h : AWP P N c T H (blockQ id Q)) : AWP P N (.block id c) T H Q := by
  intro E st w a r B hc hf hd
  refine wpIn_block (wpIn_mono (h E st w a r B hc hf hd) ?_)
  intro e a' w' hp
  cases e with
  | outgrown => exact hp.elim
  | exit i =>
    obtain ⟨st', T', H', x, h1, h2, h3, h4, h5⟩ := hp
    cases x <;> first | exact h4.elim | skip
    obtain rfl : i = _ := h4
    by_cases e : i = id
    · simp only [Exit.inBlock, e, if_true]
      simp only [blockQ, e, if_true] at h5
      exact Post.mk h1 h2 h3 (x := .normal) trivial h5
    · simp only [Exit.inBlock, e, if_false]
      simp only [blockQ, e, if_false] at h5
      exact Post.mk h1 h2 h3 (x := .exit i) rfl h5
  | _ =>
    obtain ⟨st', T', H', x, h1, h2, h3, h4, h5⟩ := hp
    cases x <;> first | exact h4.elim | exact ⟨st', T', H', _, h1, h2, h3, h4, h5⟩

/-! Operands. -/

def ofCell : Value → Option AV
  | .bool b => some (.bool b)
  | .int k n => some (.int k n)
  | .string s => some (.str s.data.toList)
  | .pointer none => some .nilptr
  | .slice none 0 0 => some .nils
  | .nilFunc => some .nilFunc
  | .nilIface => some .nilIface
  | .map none => some (.mapv none)
  | _ => none

def ofCells : List Value → Option (List AV)
  | [] => some []
  | v :: vs => match ofCell v with
    | some x => match ofCells vs with
      | some xs => some (x :: xs)
      | none => none
    | none => none

def ofConst : Value → Option AV
  | .agg cs => match ofCells cs.toList with
    | some xs => some (.agg xs)
    | none => none
  | v => ofCell v

theorem ofCell_rep {st : Stab} {w : World} {v : Value} {x : AV} (h : ofCell v = some x) : Rep st w x v := by
  unfold ofCell at h
  split at h <;> first | (cases h; done) | skip
  all_goals (simp only [Option.some.injEq] at h; subst h)
  · exact .bool _
  · exact .int _ _
  · rename_i s
    have := Rep.str (st := st) (w := w) s.data.toList
    exact this
  · exact .nilptr
  · exact .nils
  · exact .nilFunc
  · exact .nilIface
  · exact .mapv _

theorem ofCells_rep {st : Stab} {w : World} : ∀ (vs : List Value) (xs : List AV), ofCells vs = some xs →
    vs.length = xs.length ∧ ∀ (j : Nat) (v : AV) (x : Value), xs[j]? = some v → vs[j]? = some x → Rep st w v x
  | [], xs, h => by simp [ofCells] at h; subst h; simp
  | v :: vs, xs, h => by
    simp only [ofCells] at h
    cases h1 : ofCell v with
    | none => simp [h1] at h
    | some x =>
      cases h2 : ofCells vs with
      | none => simp [h1, h2] at h
      | some ys =>
        simp [h1, h2] at h
        subst h
        obtain ⟨hl, hr⟩ := ofCells_rep vs ys h2
        refine ⟨by simp [hl], fun j u y hu hy => ?_⟩
        match j, hu, hy with
        | 0, hu, hy => simp at hu hy; subst hu; subst hy; exact ofCell_rep h1
        | j + 1, hu, hy => exact hr j u y (by simpa using hu) (by simpa using hy)

theorem ofConst_rep {st : Stab} {w : World} {v : Value} {x : AV} (h : ofConst v = some x) : Rep st w x v := by
  unfold ofConst at h
  split at h
  · rename_i cs
    cases h1 : ofCells cs.toList with
    | none => simp [h1] at h
    | some xs =>
      simp [h1] at h
      subst h
      obtain ⟨hl, hr⟩ := ofCells_rep (st := st) (w := w) _ _ h1
      have := Rep.agg (st := st) (w := w) xs cs.toList hl hr
      simpa using this
  · exact ofCell_rep h

def opv (T : Tmps) : Operand → Option AV
  | .tmp t => lk T t
  | .const v => ofConst v
  | .global _ => none
  | .func f => some (.func (.func f) [] [])

theorem opv_rep {st : Stab} {w : World} {a : Act} (hf : FR N st w T a) {x : Operand} {v : AV} (h : opv T x = some v) : Rep st w v (a.eval x) := by
  cases x with
  | tmp t =>
    obtain ⟨c, h1, h2⟩ := hf.val t v h
    simpa [Act.eval, h1] using h2
  | const c => exact ofConst_rep h
  | global g => simp [opv] at h
  | func f =>
    simp [opv] at h
    subst h
    exact Rep.func (.func f) [] [] [] [] rfl rfl (by simp) (by simp)

theorem Rep.bool_eq {st : Stab} {w : World} {b : Bool} {c : Value} (h : Rep st w (.bool b) c) : c = .bool b := by cases h; rfl
theorem Rep.int_eq {st : Stab} {w : World} {k : IntKind} {n : Int} {c : Value} (h : Rep st w (.int k n) c) : c = .int k n := by cases h; rfl
theorem Rep.str_eq {st : Stab} {w : World} {s : List UInt8} {c : Value} (h : Rep st w (.str s) c) : c = .string ⟨s.toArray⟩ := by cases h; rfl

theorem awp_cond {c : Operand} {x y : Code} {b : Bool} (hc : opv T c = some (.bool b)) (ht : b = true → AWP P N x T H Q) (hf : b = false → AWP P N y T H Q) :
    AWP P N (.cond c x y) T H Q := by
  intro E st w a r B h1 h2 h3
  have he := (opv_rep h2 hc).bool_eq
  exact wpIn_cond_split he (fun hb => ht hb E st w a r B h1 h2 h3) (fun hb => hf hb E st w a r B h1 h2 h3)

theorem awp_cond_true {c : Operand} {x y : Code} (hc : opv T c = some (.bool true)) (h : AWP P N x T H Q) : AWP P N (.cond c x y) T H Q :=
  awp_cond hc (fun _ => h) (fun e => by cases e)
theorem awp_cond_false {c : Operand} {x y : Code} (hc : opv T c = some (.bool false)) (h : AWP P N y T H Q) : AWP P N (.cond c x y) T H Q :=
  awp_cond hc (fun e => by cases e) (fun _ => h)

/-- Less is known: of the frame. -/
theorem awp_weaken {c : Code} {T' : Tmps} (hs : ∀ t v', lk T' t = some v' → ∃ v, lk T t = some v ∧ Sub v v') (h : AWP P N c T' H Q) : AWP P N c T H Q :=
  fun E st w a r B h1 h2 h3 => h E st w a r B h1 (h2.weaken hs) h3

theorem awp_perm {c : Code} {H' : AHeap} (p : H.Perm H') (h : AWP P N c T H' Q) : AWP P N c T H Q :=
  fun E st w a r B h1 h2 h3 => h E st w a r B (h1.perm p) h2 (h3.sub fun _ ⟨e, he, hk⟩ => ⟨e, p.mem_iff.2 he, hk⟩)

theorem awp_drop {c : Code} {F : AHeap} (h : AWP P N c T H Q) : AWP P N c T (H ++ F) Q :=
  fun E st w a r B h1 h2 h3 => h E st w a r B h1.drop h2 (h3.sub fun _ ⟨e, he, hk⟩ => ⟨e, List.mem_append.2 (.inl he), hk⟩)

/-- What is known of frame and heap may be told otherwise. -/
def Turns (N : Nat) (T : Tmps) (H : AHeap) (S : Tmps → AHeap → Prop) : Prop :=
  ∀ E st w a, Conc E st H w → FR N st w T a → ∃ st' T' H', Conc E st' H' w ∧ FR N st' w T' a ∧ S T' H'

theorem awp_turn {c : Code} {S : Tmps → AHeap → Prop} (h : Turns N T H S) (hk : ∀ T' H', S T' H' → AWP P N c T' H' Q) : AWP P N c T H Q := by
  intro E st w a r B h1 h2 h3
  obtain ⟨st', T', H', g1, g2, g3⟩ := h (Env0.of w st H) st w a h1.start h2
  exact hk T' H' g3 E st' w a r B (h1.trans g1) g2 (h3.keep g1)

/-- A loop over an index of one's own. -/
theorem wpIn_loop_ix {F : Fence} {n : Nat} {c : Code} {Q : Exit → Act → World → Prop} {a : Act} {w : World} {ι : Type} (I : ι → Act → World → Prop) (μ : ι → Nat) (i0 : ι) (h₀ : I i0 a w)
    (round : ∀ i a w, I i a w → c.wpIn F n P (Exit.then (fun a' w' => ∃ i', I i' a' w' ∧ μ i' < μ i) Q) a w) : (Code.loop c).wpIn F n P Q a w := by
  intro b k cs hro hb hr
  have key : ∀ j i a w, μ i = j → I i a w →
      ∃ e a' w', Q e a' w' ∧ ArrivesIn (Machine.fenced P F) P (lone (b.atR a (.code c :: .inLoop c :: k)) cs w) b k cs e a' w' := by
    intro j
    induction j using Nat.strongRecOn with
    | _ j ih =>
      intro i a w hn hI
      obtain ⟨e, a₁, w₁, hq, harr⟩ := round i a w hI b (.inLoop c :: k) cs hro hb hr
      cases e with
      | normal =>
        obtain ⟨i', hI₁, hlt⟩ := hq
        obtain ⟨e₂, a₂, w₂, hq₂, harr₂⟩ := ih (μ i') (hn ▸ hlt) i' a₁ w₁ rfl hI₁
        exact ⟨e₂, a₂, w₂, hq₂, .of_steps (StepsIn.trans harr (.one (fenced_calm hb hr rfl) stepR_inLoop)) harr₂⟩
      | exit id => exact ⟨_, a₁, w₁, hq, .pass (x := .inLoop c) rfl (fun _ _ => .inl (by simp)) harr⟩
      | goto l => exact ⟨_, a₁, w₁, hq, .pass (x := .inLoop c) rfl (fun _ _ => .inl (by simp)) harr⟩
      | ret => exact ⟨_, a₁, w₁, hq, .pass (x := .inLoop c) rfl (fun _ _ => .inl (by simp)) harr⟩
      | panic ch => exact ⟨_, a₁, w₁, hq, .pass (x := .inLoop c) rfl (fun _ _ => .inl (by simp)) harr⟩
      | outgrown => exact ⟨_, a₁, w₁, hq, .pass (x := .inLoop c) rfl (fun _ _ => .inl (by simp)) harr⟩
  obtain ⟨e, a', w', hq, harr⟩ := key _ i0 a w rfl h₀
  exact ⟨e, a', w', hq, .of_steps (.one (fenced_calm hb hr rfl) stepR_loop) harr⟩

/-- A loop: what holds at each round's head, and a measure. A round ends in a frame that turns into such a one. -/
theorem awp_loop {c : Code} (ι : Type) (I : ι → Tmps) (J : ι → AHeap) (μ : ι → Nat)
    (h0 : Turns N T H fun T' H' => ∃ i, T' = I i ∧ H' = J i)
    (round : ∀ i, AWP P N c (I i) (J i) (thenQ (fun T' H' => Turns N T' H' fun T'' H'' => ∃ i', T'' = I i' ∧ H'' = J i' ∧ μ i' < μ i) Q)) :
    AWP P N (.loop c) T H Q := by
  intro E st w a r B h1 h2 h3
  obtain ⟨st0, T0, H0, g1, g2, i0, rfl, rfl⟩ := h0 (Env0.of w st H) st w a h1.start h2
  refine wpIn_loop_ix (fun i a' w' => ∃ st', Conc E st' (J i) w' ∧ FR N st' w' (I i) a' ∧ Fr r B (J i) w' a'.defers) μ i0 ⟨st0, h1.trans g1, g2, h3.keep g1⟩ ?_
  rintro i a' w' ⟨st', k1, k2, k3⟩
  refine wpIn_mono (round i E st' w' a' r B k1 k2 k3) ?_
  intro e a2 w2 hp
  cases e with
  | outgrown => exact hp.elim
  | normal =>
    obtain ⟨s2, T2, H2, x, l1, l2, l3, l4, l5⟩ := hp
    cases x <;> first | exact l4.elim | skip
    obtain ⟨s3, T3, H3, n1, n2, i', rfl, rfl, hlt⟩ := l5 (Env0.of w2 s2 H2) s2 w2 a2 l1.start l2
    exact ⟨i', ⟨s3, l1.trans n1, n2, l3.keep n1⟩, hlt⟩
  | _ =>
    obtain ⟨s2, T2, H2, x, l1, l2, l3, l4, l5⟩ := hp
    cases x <;> first | exact l4.elim | exact ⟨s2, T2, H2, _, l1, l2, l3, l4, l5⟩

theorem Turns.same {S : Tmps → AHeap → Prop} (h : S T H) : Turns N T H S := fun _ st _ _ h1 h2 => ⟨st, T, H, h1, h2, h⟩

theorem Turns.weak {S : Tmps → AHeap → Prop} {T' : Tmps} (hs : ∀ t v', lk T' t = some v' → ∃ v, lk T t = some v ∧ Sub v v') (h : Turns N T' H S) : Turns N T H S :=
  fun E st w a h1 h2 => h E st w a h1 (h2.weaken hs)

theorem Turns.perm {S : Tmps → AHeap → Prop} {H' : AHeap} (p : H.Perm H') (h : Turns N T H' S) : Turns N T H S :=
  fun E st w a h1 h2 => h E st w a (h1.perm p) h2

theorem Turns.drop {S : Tmps → AHeap → Prop} {F : AHeap} (h : Turns N T H S) : Turns N T (H ++ F) S :=
  fun E st w a h1 h2 => h E st w a h1.drop h2

end
end Go.Ab
