/-
  Abstract values and heaps over the model's worlds: a value (AV), what a model value must be to stand for it (Rep),
  a box or an owned row (Ent), and a world that holds such a heap (Conc). Nothing of a program is used here.
-/
import Derived.Test.YtgbmanmcioailaaDoorGl
namespace Go.Ab

inductive Own where
  | view
  | full
  | own (a : Option Addr) (cap : Nat)

inductive AV where
  | bool (b : Bool)
  | int (k : IntKind) (n : Int)
  | str (s : List UInt8)
  | nilptr
  | ptr (b off : Nat)
  | rptr (cells : List AV)
  | nils
  | slice (sz n : Nat) (el : Nat → List AV) (o : Own)
  | mslice (b off len cap : Nat)
  | nilFunc
  | func (fn : Fn) (first captured : List AV)
  | nilIface
  | iface (t : TypeId) (v : AV)
  | agg (cells : List AV)
  | vec (n : Nat) (el : Nat → AV)
  | tuple (vs : List AV)
  | opt (x b : Bool) (v : AV)
  | any
  | mapv (r : Option Nat)
  | conc (v : Value)

def Own.ok : Own → Option Addr → Nat → Nat → Prop
  | .view, _, _, _ => True
  | .full, _, n, cap => cap = n
  | .own a' cap', a, _, cap => a = a' ∧ cap = cap'

abbrev Stab := Nat → Nat → Prop

inductive Rep (st : Stab) (w : World) : AV → Value → Prop
  | bool (b) : Rep st w (.bool b) (.bool b)
  | int (k n) : Rep st w (.int k n) (.int k n)
  | str (s) : Rep st w (.str s) (.string ⟨s.toArray⟩)
  | nilptr : Rep st w .nilptr (.pointer none)
  | ptr (b off) : Rep st w (.ptr b off) (.pointer (some ⟨b, off, none⟩))
  | rptr (cells : List AV) (b off : Nat) (c : Nat → Value)
      (hcell : ∀ j, j < cells.length → st b (off + j) ∧ w.cell? ⟨b, off + j, none⟩ = some (c j))
      (hrep : ∀ j v, cells[j]? = some v → Rep st w v (c j)) :
      Rep st w (.rptr cells) (.pointer (some ⟨b, off, none⟩))
  | nils : Rep st w .nils (.slice none 0 0)
  | slice (sz n el o) (a : Option Addr) (cap : Nat) (b off : Nat) (c : Nat → Nat → Value)
      (hn : n ≤ cap)
      (hbase : n = 0 ∨ a = some ⟨b, off, none⟩)
      (hlen : ∀ i, i < n → (el i).length = sz)
      (hcell : ∀ i j, i < n → j < sz → st b (off + (i * sz + j)) ∧ w.cell? ⟨b, off + (i * sz + j), none⟩ = some (c i j))
      (hrep : ∀ i j v, i < n → (el i)[j]? = some v → Rep st w v (c i j))
      (hown : o.ok a n cap)
      (hone : ∀ i j, i < n → j < sz → (c i j).oneCell' = true) :
      Rep st w (.slice sz n el o) (.slice a n cap)
  | mslice (b off len cap) : Rep st w (.mslice b off len cap) (.slice (some ⟨b, off, none⟩) len cap)
  | nilFunc : Rep st w .nilFunc .nilFunc
  | func (fn) (f c : List AV) (f' c' : List Value) (hfl : f'.length = f.length) (hcl : c'.length = c.length)
      (hf : ∀ (j : Nat) (v : AV) (x : Value), f[j]? = some v → f'[j]? = some x → Rep st w v x)
      (hc : ∀ (j : Nat) (v : AV) (x : Value), c[j]? = some v → c'[j]? = some x → Rep st w v x) :
      Rep st w (.func fn f c) (.func fn ⟨f'⟩ ⟨c'⟩)
  | nilIface : Rep st w .nilIface .nilIface
  | iface (t v x) (h : Rep st w v x) : Rep st w (.iface t v) (.iface t x)
  | agg (cells : List AV) (cs : List Value) (hl : cs.length = cells.length)
      (h : ∀ (j : Nat) (v : AV) (x : Value), cells[j]? = some v → cs[j]? = some x → Rep st w v x) : Rep st w (.agg cells) (.agg ⟨cs⟩)
  | vec (n : Nat) (el : Nat → AV) (cs : List Value) (hl : cs.length = n)
      (h : ∀ (j : Nat) (x : Value), cs[j]? = some x → Rep st w (el j) x) (hone : ∀ x ∈ cs, x.oneCell' = true) : Rep st w (.vec n el) (.agg ⟨cs⟩)
  | tuple (vs : List AV) (xs : List Value) (hl : xs.length = vs.length)
      (h : ∀ (j : Nat) (v : AV) (x : Value), vs[j]? = some v → xs[j]? = some x → Rep st w v x) : Rep st w (.tuple vs) (.tuple ⟨xs⟩)
  | opt (x b : Bool) (v : AV) (c : Value) (h : x = b → Rep st w v c) (hn : x ≠ b → c = undef) : Rep st w (.opt x b v) c
  | any (c) : Rep st w .any c
  | mapv (r) : Rep st w (.mapv r) (.map r)
  | conc (v) : Rep st w (.conc v) v

/-- The stable cells of w stand in w', and what was stable is. -/
structure Keeps (st st' : Stab) (w w' : World) : Prop where
  sub : ∀ b o, st b o → st' b o
  cell : ∀ b o, st b o → w'.cell? ⟨b, o, none⟩ = w.cell? ⟨b, o, none⟩

theorem Keeps.refl (st : Stab) (w : World) : Keeps st st w w := ⟨fun _ _ h => h, fun _ _ _ => rfl⟩
theorem Keeps.trans {s1 s2 s3 : Stab} {w1 w2 w3 : World} (h : Keeps s1 s2 w1 w2) (k : Keeps s2 s3 w2 w3) : Keeps s1 s3 w1 w3 :=
  ⟨fun b o x => k.sub b o (h.sub b o x), fun b o x => (k.cell b o (h.sub b o x)).trans (h.cell b o x)⟩

theorem Rep.mono {st st' : Stab} {w w' : World} (k : Keeps st st' w w') {v : AV} {c : Value} (h : Rep st w v c) : Rep st' w' v c := by
  induction h with
  | bool b => exact .bool b
  | int kk n => exact .int kk n
  | str s => exact .str s
  | nilptr => exact .nilptr
  | ptr b off => exact .ptr b off
  | rptr cells b off c hcell _ ih =>
    exact .rptr cells b off c (fun j hj => ⟨k.sub _ _ (hcell j hj).1, (k.cell _ _ (hcell j hj).1).trans (hcell j hj).2⟩) ih
  | nils => exact .nils
  | slice sz n el o a cap b off c hn hbase hlen hcell _ hown hone ih =>
    exact .slice sz n el o a cap b off c hn hbase hlen (fun i j hi hj => ⟨k.sub _ _ (hcell i j hi hj).1, (k.cell _ _ (hcell i j hi hj).1).trans (hcell i j hi hj).2⟩) ih hown hone
  | mslice b off len cap => exact .mslice b off len cap
  | nilFunc => exact .nilFunc
  | func fn f c f' c' hfl hcl _ _ ihf ihc => exact .func fn f c f' c' hfl hcl ihf ihc
  | nilIface => exact .nilIface
  | iface t v x _ ih => exact .iface t v x ih
  | agg cells cs hl _ ih => exact .agg cells cs hl ih
  | vec n el cs hl _ hone ih => exact .vec n el cs hl ih hone
  | tuple vs xs hl _ ih => exact .tuple vs xs hl ih
  | opt x b v c _ hn ih => exact .opt x b v c ih hn
  | any c => exact .any c
  | mapv r => exact .mapv r
  | conc v => exact .conc v

/-- v is told by v' at least as weakly. -/
def Sub (v v' : AV) : Prop := ∀ st w c, Rep st w v c → Rep st w v' c
theorem Sub.refl (v : AV) : Sub v v := fun _ _ _ h => h
theorem Sub.trans {a b c : AV} (h : Sub a b) (k : Sub b c) : Sub a c := fun st w x r => k st w x (h st w x r)

theorem Sub.nils (sz : Nat) (el : Nat → List AV) : Sub .nils (.slice sz 0 el .full) := by
  intro st w c h
  cases h
  exact .slice sz 0 el .full none 0 0 0 (fun _ _ => undef) (Nat.le_refl _) (.inl rfl) (fun i hi => absurd hi (by omega)) (fun i j hi => absurd hi (by omega)) (fun i j v hi => absurd hi (by omega)) rfl (fun i j hi => absurd hi (by omega))

theorem Sub.view (sz n : Nat) (el : Nat → List AV) (o : Own) : Sub (.slice sz n el o) (.slice sz n el .view) := by
  intro st w c h
  cases h with
  | slice _ _ _ _ a cap b off c hn hbase hlen hcell hrep hown hone =>
    exact .slice sz n el .view a cap b off c hn hbase hlen hcell hrep trivial hone

theorem Sub.nilsv (sz : Nat) (el : Nat → List AV) : Sub .nils (.slice sz 0 el .view) := (Sub.nils sz el).trans (Sub.view _ _ _ _)

theorem Sub.tuple {vs vs' : List AV} (hl : vs.length = vs'.length) (h : ∀ (j : Nat) (v v' : AV), vs[j]? = some v → vs'[j]? = some v' → Sub v v') : Sub (.tuple vs) (.tuple vs') := by
  intro st w c hr
  cases hr with
  | tuple _ xs hl2 h2 =>
    refine .tuple vs' xs (by omega) fun j v' x hv' hx => ?_
    have hj : j < vs.length := by
      have := (List.getElem?_eq_some_iff.1 hv').1
      omega
    exact h j vs[j] v' (by simp [hj]) hv' _ _ _ (h2 j vs[j] x (by simp [hj]) hx)

theorem Sub.tuple2 {a b a' b' : AV} (ha : Sub a a') (hb : Sub b b') : Sub (.tuple [a, b]) (.tuple [a', b']) := by
  refine Sub.tuple rfl fun j v v' h h' => ?_
  match j, h, h' with
  | 0, h, h' => simp at h h'; subst h; subst h'; exact ha
  | 1, h, h' => simp at h h'; subst h; subst h'; exact hb
  | j + 2, h, h' => simp at h

theorem Sub.tuple3 {a b c a' b' c' : AV} (ha : Sub a a') (hb : Sub b b') (hc : Sub c c') : Sub (.tuple [a, b, c]) (.tuple [a', b', c']) := by
  refine Sub.tuple rfl fun j v v' h h' => ?_
  match j, h, h' with
  | 0, h, h' => simp at h h'; subst h; subst h'; exact ha
  | 1, h, h' => simp at h h'; subst h; subst h'; exact hb
  | 2, h, h' => simp at h h'; subst h; subst h'; exact hc
  | j + 3, h, h' => simp at h

/-! A frame. -/

abbrev Tmps := List (Nat × AV)

theorem beq_ne {d t : Nat} (e : d ≠ t) : Nat.beq d t = false := by
  cases h : Nat.beq d t
  · rfl
  · exact absurd (Nat.eq_of_beq_eq_true h) e

def lk : Tmps → Nat → Option AV
  | [], _ => none
  | (d, v) :: T, t => cond (Nat.beq d t) (some v) (lk T t)

structure FR (N : Nat) (st : Stab) (w : World) (T : Tmps) (a : Act) : Prop where
  size : a.tmps.size = N
  val : ∀ t v, lk T t = some v → ∃ c, a.tmps[t]? = some c ∧ Rep st w v c

theorem FR.mono {N : Nat} {st st' : Stab} {w w' : World} {T : Tmps} {a : Act} (h : FR N st w T a) (k : Keeps st st' w w') : FR N st' w' T a :=
  ⟨h.size, fun t v ht => let ⟨c, h1, h2⟩ := h.val t v ht; ⟨c, h1, h2.mono k⟩⟩

/-! The heap. -/

inductive Ent where
  | box (b : Nat) (ty : TypeId) (v : AV)
  | tok (a : Option Addr) (cap n sz : Nat) (e : TypeId)
  | loop (l N : Nat) (T : Tmps) (ps : Array Tmp) (assign body : Code)
  | done (l : Nat) (c : Code)
  | obj (b : Nat) (o : Obj)

def Ent.owns : Ent → Nat → Prop
  | .box b _ _, k => b = k
  | .tok a cap n _ _, k => n < cap ∧ ∃ ad, a = some ad ∧ ad.block = k
  | .loop l _ _ _ _ _, k => l = k
  | .done l _, k => l = k
  | .obj b _, k => b = k

def Ent.holds (st : Stab) (w : World) : Ent → Prop
  | .box b ty v => ∃ arr cv, w.heap[b]? = some (.cells arr ty (0, 0)) ∧ Rep st w v cv ∧ cv.cells = arr ∧ (∀ x ∈ arr.toList, x.oneCell' = true) ∧ ∀ o, ¬ st b o
  | .tok a cap n sz e => cap = n ∨ (n < cap ∧ ∃ g cur, a = some ⟨g, 0, none⟩ ∧ w.heap[g]? = some (.cells cur e (0, 0)) ∧ cap ≤ maxLen ∧ cur.size = cap * sz ∧ ∀ o, n * sz ≤ o → ¬ st g o)
  | .loop l N T ps assign body => (∀ o, ¬ st l o) ∧ ∃ R, w.heap[l]? = some (.loop R) ∧ R.state = .ready ∧ R.pending = none ∧ R.params = ps ∧ R.assign = assign ∧ R.body = body ∧ FR N st w T { tmps := R.tmps, defers := [] }
  | .obj b x => (∀ o, ¬ st b o) ∧ w.heap[b]? = some x ∧ ∀ c t f, x ≠ .cells c t f
  | .done l c => (∀ o, ¬ st l o) ∧ ∃ R, w.heap[l]? = some (.loop R) ∧ R.state = .done ∧ R.pending = some c

abbrev AHeap := List Ent

def AHeap.owns (H : AHeap) (k : Nat) : Prop := ∃ e ∈ H, e.owns k

structure Env0 where
  w0 : World
  O : Nat → Prop
  st0 : Stab

structure Conc (E : Env0) (st : Stab) (H : AHeap) (w : World) : Prop where
  os : w.os = E.w0.os
  tape : w.tape = E.w0.tape
  output : w.output = E.w0.output
  size : E.w0.heap.size ≤ w.heap.size
  old : ∀ k, k < E.w0.heap.size → ¬ E.O k → w.heap[k]? = E.w0.heap[k]?
  keep : ∀ b o, E.st0 b o → w.cell? ⟨b, o, none⟩ = E.w0.cell? ⟨b, o, none⟩
  stle : ∀ b o, E.st0 b o → st b o
  stnew : ∀ b o, st b o → E.st0 b o ∨ E.w0.heap.size ≤ b ∨ E.O b
  stlt : ∀ b o, st b o → b < w.heap.size
  ownnew : ∀ k, AHeap.owns H k → E.O k ∨ E.w0.heap.size ≤ k
  ownlt : ∀ k, AHeap.owns H k → k < w.heap.size
  ents : ∀ e ∈ H, e.holds st w
  sep : H.Pairwise fun e e' => ∀ k, e.owns k → ¬ e'.owns k

def Env0.of (w : World) (st : Stab) (H : AHeap) : Env0 := ⟨w, AHeap.owns H, st⟩

theorem Conc.start {E : Env0} {st : Stab} {H : AHeap} {w : World} (h : Conc E st H w) : Conc (Env0.of w st H) st H w :=
  ⟨rfl, rfl, rfl, Nat.le_refl _, fun _ _ _ => rfl, fun _ _ _ => rfl, fun _ _ h => h, fun _ _ h => .inl h, h.stlt, fun _ h => .inl h, h.ownlt, h.ents, h.sep⟩

theorem AHeap.owns_append (H F : AHeap) (k : Nat) : AHeap.owns (H ++ F) k ↔ AHeap.owns H k ∨ AHeap.owns F k := by
  simp only [AHeap.owns, List.mem_append]
  constructor
  · rintro ⟨e, he | he, h⟩
    · exact .inl ⟨e, he, h⟩
    · exact .inr ⟨e, he, h⟩
  · rintro (⟨e, he, h⟩ | ⟨e, he, h⟩)
    · exact ⟨e, .inl he, h⟩
    · exact ⟨e, .inr he, h⟩

/-- What an entry holds stays, where its own block is as it was, and its block has not become stable. -/
theorem Ent.holds_keep {e : Ent} {st st' : Stab} {w w' : World} (k : Keeps st st' w w') (h : e.holds st w)
    (hb : ∀ b, e.owns b → w'.heap[b]? = w.heap[b]?) (hs : ∀ b o, e.owns b → st' b o → st b o) : e.holds st' w' := by
  cases e with
  | box b ty v =>
    obtain ⟨arr, cv, h1, h2, h3, h4, h5⟩ := h
    exact ⟨arr, cv, by rw [hb b rfl]; exact h1, h2.mono k, h3, h4, fun o ho => h5 o (hs b o rfl ho)⟩
  | tok a cap n sz ty =>
    rcases h with h | ⟨hlt, g, cur, h1, h2, h3, h4, h5⟩
    · exact .inl h
    · have ho : Ent.owns (.tok a cap n sz ty) g := ⟨hlt, ⟨g, 0, none⟩, h1, rfl⟩
      exact .inr ⟨hlt, g, cur, h1, by rw [hb g ho]; exact h2, h3, h4, fun o hle hst => h5 o hle (hs g o ho hst)⟩
  | loop l N T ps assign body =>
    obtain ⟨h0, R, h1, h2, h3, h4, h5, h6, h7⟩ := h
    exact ⟨fun o ho => h0 o (hs l o rfl ho), R, by rw [hb l rfl]; exact h1, h2, h3, h4, h5, h6, h7.mono k⟩
  | obj b x =>
    obtain ⟨h0, h1, h2⟩ := h
    exact ⟨fun o ho => h0 o (hs b o rfl ho), by rw [hb b rfl]; exact h1, h2⟩
  | done l c =>
    obtain ⟨h0, R, h1, h2, h3⟩ := h
    exact ⟨fun o ho => h0 o (hs l o rfl ho), R, by rw [hb l rfl]; exact h1, h2, h3⟩

/-- A call that was given a part of the heap, and told a heap of its own. -/
theorem Conc.call {E : Env0} {st st' : Stab} {Hc Hc' F : AHeap} {w w' : World} (h : Conc E st (Hc ++ F) w) (h' : Conc (Env0.of w st Hc) st' Hc' w') :
    Conc E st' (Hc' ++ F) w' ∧ Keeps st st' w w' := by
  have k : Keeps st st' w w' := ⟨h'.stle, h'.keep⟩
  have hsep := List.pairwise_append.1 h.sep
  have hF : ∀ e ∈ F, ∀ b, e.owns b → ¬ AHeap.owns Hc b := by
    rintro e he b hb ⟨e2, he2, hb2⟩
    exact hsep.2.2 e2 he2 e he b hb2 hb
  have hFlt : ∀ e ∈ F, ∀ b, e.owns b → b < w.heap.size := fun e he b hb => h.ownlt b ⟨e, List.mem_append.2 (.inr he), hb⟩
  refine ⟨⟨h'.os.trans h.os, h'.tape.trans h.tape, h'.output.trans h.output, Nat.le_trans h.size h'.size, ?_, ?_, ?_, ?_, h'.stlt, ?_, ?_, ?_, ?_⟩, k⟩
  · intro b hb hO
    by_cases hc : AHeap.owns Hc b
    · rcases h.ownnew b ((AHeap.owns_append _ _ _).2 (.inl hc)) with x | x
      · exact absurd x hO
      · omega
    · exact (h'.old b (Nat.lt_of_lt_of_le hb h.size) hc).trans (h.old b hb hO)
  · exact fun b o hs => (h'.keep b o (h.stle b o hs)).trans (h.keep b o hs)
  · exact fun b o hs => h'.stle b o (h.stle b o hs)
  · intro b o hs
    rcases h'.stnew b o hs with x | x | x
    · exact h.stnew b o x
    · exact .inr (.inl (Nat.le_trans h.size x))
    · rcases h.ownnew b ((AHeap.owns_append _ _ _).2 (.inl x)) with y | y
      · exact .inr (.inr y)
      · exact .inr (.inl y)
  · intro b hb
    rcases (AHeap.owns_append _ _ _).1 hb with x | x
    · rcases h'.ownnew b x with y | y
      · exact h.ownnew b ((AHeap.owns_append _ _ _).2 (.inl y))
      · exact .inr (Nat.le_trans h.size y)
    · exact h.ownnew b ((AHeap.owns_append _ _ _).2 (.inr x))
  · intro b hb
    rcases (AHeap.owns_append _ _ _).1 hb with x | x
    · exact h'.ownlt b x
    · exact Nat.lt_of_lt_of_le (h.ownlt b ((AHeap.owns_append _ _ _).2 (.inr x))) h'.size
  · intro e he
    rcases List.mem_append.1 he with x | x
    · exact h'.ents e x
    · refine Ent.holds_keep k (h.ents e (List.mem_append.2 (.inr x))) (fun b hb => h'.old b (hFlt e x b hb) (hF e x b hb)) ?_
      intro b o hb hs
      rcases h'.stnew b o hs with y | y | y
      · exact y
      · exact absurd (hFlt e x b hb) (by have : w.heap.size ≤ b := y; omega)
      · exact absurd y (hF e x b hb)
  · refine List.pairwise_append.2 ⟨h'.sep, hsep.2.1, ?_⟩
    intro e he e2 he2 b hb hb2
    rcases h'.ownnew b ⟨e, he, hb⟩ with y | y
    · exact hF e2 he2 b hb2 y
    · exact absurd (hFlt e2 he2 b hb2) (by have : w.heap.size ≤ b := y; omega)

theorem Conc.perm {E : Env0} {st : Stab} {H H' : AHeap} {w : World} (h : Conc E st H w) (p : H.Perm H') : Conc E st H' w := by
  have ho : ∀ k, AHeap.owns H' k → AHeap.owns H k := fun k ⟨e, he, hk⟩ => ⟨e, p.mem_iff.2 he, hk⟩
  exact ⟨h.os, h.tape, h.output, h.size, h.old, h.keep, h.stle, h.stnew, h.stlt, fun k hk => h.ownnew k (ho k hk), fun k hk => h.ownlt k (ho k hk),
    fun e he => h.ents e (p.mem_iff.2 he), (p.pairwise_iff (fun {a b} hab k ha hb => hab k hb ha)).1 h.sep⟩

/-- Part of the heap is let go. -/
theorem Conc.drop {E : Env0} {st : Stab} {H F : AHeap} {w : World} (h : Conc E st (H ++ F) w) : Conc E st H w := by
  have ho : ∀ k, AHeap.owns H k → AHeap.owns (H ++ F) k := fun k hk => (AHeap.owns_append _ _ _).2 (.inl hk)
  exact ⟨h.os, h.tape, h.output, h.size, h.old, h.keep, h.stle, h.stnew, h.stlt, fun k hk => h.ownnew k (ho k hk), fun k hk => h.ownlt k (ho k hk),
    fun e he => h.ents e (List.mem_append.2 (.inl he)), (List.pairwise_append.1 h.sep).1⟩

theorem Conc.drop_front {E : Env0} {st : Stab} {H F : AHeap} {w : World} (h : Conc E st (F ++ H) w) : Conc E st H w :=
  (h.perm List.perm_append_comm).drop

end Go.Ab
