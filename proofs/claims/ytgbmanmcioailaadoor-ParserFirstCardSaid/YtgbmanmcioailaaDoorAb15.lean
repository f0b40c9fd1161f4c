/-
  A range over a function: the statement by what the function does that is ranged over; a call of yield by what the loop's body does.
-/
import Derived.Test.YtgbmanmcioailaaDoorAb12
import Derived.RangeFuncNested
namespace Go.Ab

section
variable {P : Program} {N : Nat} {ty : TypeId → Option TyI} {T : Tmps} {H : AHeap} {Q : APost}

/-- A block that is no cells is laid; nothing owns it. -/
theorem Conc.lay {E : Env0} {st : Stab} {w : World} (h : Conc E st H w) (o : Obj) : Conc E st H (w.alloc o) ∧ Keeps st st w (w.alloc o) := by
  have := Conc.grow (Hn := []) (w' := w.alloc o) h rfl rfl rfl (by simp) (fun k hk => heap_alloc_old w _ hk) (fun _ _ h => h) (fun b o hs => .inl hs) (by simp) (fun k hk => by obtain ⟨e, he, _⟩ := hk; cases he) .nil
  simpa using this

/-- An entry takes a block that nothing owns, and that is not stable. -/
theorem Conc.take {E : Env0} {st : Stab} {w : World} (h : Conc E st H w) {e : Ent} {l : Nat} (ho : ∀ k, e.owns k ↔ k = l) (hl : l < w.heap.size) (hn : E.O l ∨ E.w0.heap.size ≤ l) (hno : ¬ AHeap.owns H l) (he : e.holds st w) :
    Conc E st (e :: H) w := by
  refine ⟨h.os, h.tape, h.output, h.size, h.old, h.keep, h.stle, h.stnew, h.stlt, ?_, ?_, ?_, ?_⟩
  · rintro k ⟨e', he', hk⟩
    rcases List.mem_cons.1 he' with rfl | he'
    · rw [(ho k).1 hk]; exact hn
    · exact h.ownnew k ⟨e', he', hk⟩
  · rintro k ⟨e', he', hk⟩
    rcases List.mem_cons.1 he' with rfl | he'
    · rw [(ho k).1 hk]; exact hl
    · exact h.ownlt k ⟨e', he', hk⟩
  · intro e' he'
    rcases List.mem_cons.1 he' with rfl | he'
    · exact he
    · exact h.ents e' he'
  · refine List.pairwise_cons.2 ⟨fun e' he' k hk hk' => ?_, h.sep⟩
    rw [(ho k).1 hk] at hk'
    exact hno ⟨e', he', hk'⟩

theorem not_owns_of_sep {E : Env0} {st : Stab} {w : World} {e : Ent} {l : Nat} (h : Conc E st (e :: H) w) (he : e.owns l) : ¬ AHeap.owns H l := by
  rintro ⟨e', he', hk⟩
  exact (List.pairwise_cons.1 h.sep).1 e' he' l he hk

theorem Conc.tail {E : Env0} {st : Stab} {w : World} {e : Ent} (h : Conc E st (e :: H) w) : Conc E st H w := Conc.drop_front (F := [e]) h

theorem FR.defers {st : Stab} {w : World} {a : Act} {ds : List Deferred} (h : FR N st w T a) : FR N st w T { a with defers := ds } := ⟨h.size, h.val⟩

theorem Keeps.putObj {st : Stab} {w : World} {b : Nat} {x y : Obj} (h : w.heap[b]? = some x) (hx : ∀ c t f, x ≠ .cells c t f) (hy : ∀ c t f, y ≠ .cells c t f) : Keeps st st w (w.putObj b y) :=
  ⟨fun _ _ h => h, fun _ _ _ => cell_putObj h hx hy _⟩

theorem Fr0.putObj {r : Option Nat} {B : Nat} {w : World} {ds : List Deferred} (h : Fr0 r B H w ds) {l : Nat} {x y : Obj} (hb : w.heap[l]? = some x) (hx : ∀ c t f, x ≠ .cells c t f) (h1 : ∀ d ∈ ds, ∀ b, d.target = .collected b → b ≠ l) (h2 : ∀ l', r = some l' → l' ≠ l) : Fr0 r B H (w.putObj l y) ds := by
  refine ⟨fun d hd => ?_, h.nodup, by simpa using h.size, fun l' hl' => ?_, h.gl.putObj hb hx⟩
  · obtain ⟨b, rfl, k2, k3, k4⟩ := h.marks d hd
    exact ⟨b, rfl, by rw [World.putObj_heap_other (h1 _ hd b rfl)]; exact k2, k3, k4⟩
  · obtain ⟨⟨R, k1⟩, k2⟩ := h.lrec l' hl'
    exact ⟨⟨R, by rw [World.putObj_heap_other (h2 l' hl')]; exact k1⟩, k2⟩

/-- What follows when the function that was ranged over has ended. -/
def rangeQ (P : Program) (N : Nat) (l : Nat) (ps : Array Tmp) (assign body : Code) (T : Tmps) (G : AHeap) (Q : APost) (r : ARes) (H' : AHeap) : Prop :=
  match r with
  | .ret _ => (∃ Hd, H'.Perm (.loop l N T ps assign body :: Hd) ∧ Q .normal T (Hd ++ G)) ∨ (∃ c Hd, H'.Perm (.done l c :: Hd) ∧ AWP P N c T (Hd ++ G) Q)
  | .panic v => Q (.panic v) [] (H' ++ G)

theorem awp_rangeFunc {g : Operand} {ps : Array Tmp} {assign body : Code} {f : FuncId} {first captured : List AV} {Hc G : AHeap} (hg : opv T g = some (.func (.func f) first captured)) (hp : H.Perm (Hc ++ G))
    (h : ∀ l, ACalls P f (first ++ [.func (.yield l) [] []] ++ captured) (.loop l N T ps assign body :: Hc) (rangeQ P N l ps assign body T G Q)) : AWP P N (.rangeFunc g ps assign body) T H Q := by
  intro E st w a r Bd hc hf hfrd
  obtain ⟨ms, hms, hfr⟩ := hfrd
  have hrep := opv_rep hf hg
  generalize hcv : a.eval g = cv at hrep
  cases hrep with
  | func _ _ _ f' c' hfl hcl hff hcc =>
  refine wpIn_rangeFunc fun fn _ => ?_
  -- the record is laid
  have hent : ∃ (l : Nat) (mark : List Deferred) (w1 : World) (R : Loop), (Instr.enterLoop fn a.tmps ps assign body (fen r).round).run P w = .ok (l, mark) w1 ∧ Conc E st H w1 ∧ Keeps st st w w1 ∧
      ¬ AHeap.owns H l ∧ w.heap.size ≤ l ∧ l < w1.heap.size ∧ Fr0 r Bd.lo H w1 (mark ++ ms) ∧ w1.heap[l]? = some (.loop R) ∧ R.state = .ready ∧ R.pending = none ∧ R.params = ps ∧ R.assign = assign ∧ R.body = body ∧ R.tmps = a.tmps ∧
      (∀ d ∈ mark ++ ms, ∀ b, d.target = .collected b → b ≠ l) ∧ (∀ l', r = some l' → l' ≠ l) ∧ E.w0.heap.size ≤ l := by
    have hnew : ∀ k, w.heap.size ≤ k → ¬ AHeap.owns H k := fun k hk ho => by have := hc.ownlt k ho; omega
    cases hr : r with
    | none =>
      subst hr
      obtain ⟨c1, k1⟩ := hc.lay (.deferred (some []))
      obtain ⟨c2, k2⟩ := c1.lay (.loop { state := .ready, pending := none, fn, tmps := a.tmps, params := ps, assign, body, defers := w.heap.size })
      have hsz : (w.alloc (.deferred (some []))).heap.size = w.heap.size + 1 := by simp
      have hmk : ∀ d ∈ ms, ∃ b, d = { target := .collected b, args := #[] } ∧ b < w.heap.size ∧ w.heap[b]? = some (.deferred (some [])) ∧ ¬ AHeap.owns H b ∧ Bd.lo ≤ b := fun d hd =>
        let ⟨b, h1, h2, h3, h4⟩ := hfr.marks d hd; ⟨b, h1, (Array.getElem?_eq_some_iff.1 h2).1, h2, h3, h4⟩
      refine ⟨w.heap.size + 1, _, _, { state := .ready, pending := none, fn, tmps := a.tmps, params := ps, assign, body, defers := w.heap.size }, run_enterLoop_outer fn a.tmps ps assign body, c2, k1.trans k2, hnew _ (by omega), by omega, by simp, ?_, ?_, rfl, rfl, rfl, rfl, rfl, rfl, ?_, fun l' e => (by cases e), by have := hc.size; omega⟩
      · refine ⟨?_, ?_, by simpa using Nat.le_trans hfr.size (by omega), fun l' e => (by cases e), hfr.gl.grow (fun k hk => by rw [heap_alloc_old _ _ (by simp; omega), heap_alloc_old _ _ hk]) fun k hk => .inl hk⟩
        · intro d hd
          simp only [List.cons_append, List.nil_append, List.mem_cons] at hd
          rcases hd with rfl | hd
          · refine ⟨w.heap.size, rfl, ?_, hnew _ (Nat.le_refl _), hfr.size⟩
            rw [heap_alloc_old _ _ (by simp)]
            exact World.alloc_heap_new w _
          · obtain ⟨b, h1, h2, h3, h4, h5⟩ := hmk d hd
            refine ⟨b, h1, ?_, h4, h5⟩
            rw [heap_alloc_old _ _ (by simp; omega), heap_alloc_old _ _ h2]
            exact h3
        · simp only [List.cons_append, List.nil_append, List.nodup_cons]
          refine ⟨fun hd => ?_, hfr.nodup⟩
          obtain ⟨b, h1, h2, _⟩ := hmk _ hd
          injection h1 with h1 _
          injection h1 with h1
          omega
      · have := World.alloc_heap_new (w.alloc (.deferred (some []))) (.loop { state := .ready, pending := none, fn, tmps := a.tmps, params := ps, assign, body, defers := w.heap.size })
        rw [hsz] at this
        exact this
      · intro d hd b hb
        simp only [List.cons_append, List.nil_append, List.mem_cons] at hd
        rcases hd with rfl | hd
        · injection hb with hb
          omega
        · obtain ⟨b', h1, h2, _⟩ := hmk d hd
          rw [h1] at hb
          injection hb with hb
          omega
    | some l0 =>
      subst hr
      obtain ⟨⟨R0, hR0⟩, hno⟩ := hfr.lrec l0 rfl
      obtain ⟨c1, k1⟩ := hc.lay (.loop { state := .ready, pending := none, fn, tmps := a.tmps, params := ps, assign, body, defers := R0.defers })
      have hl0 := (Array.getElem?_eq_some_iff.1 hR0).1
      refine ⟨w.heap.size, [], _, { state := .ready, pending := none, fn, tmps := a.tmps, params := ps, assign, body, defers := R0.defers }, run_enterLoop_inner hR0 fn a.tmps ps assign body, c1, k1, hnew _ (Nat.le_refl _), Nat.le_refl _, by simp, ?_, World.alloc_heap_new w _, rfl, rfl, rfl, rfl, rfl, rfl, ?_, fun l' e => (by cases e; omega), hc.size⟩
      · refine ⟨fun d hd => ?_, hfr.nodup, by simpa using Nat.le_trans hfr.size (by omega), fun l' e => ?_, hfr.gl.grow (fun k hk => heap_alloc_old _ _ hk) fun k hk => .inl hk⟩
        · obtain ⟨b, h1, h2, h3, h4⟩ := hfr.marks d hd
          exact ⟨b, h1, by rw [heap_alloc_old _ _ (Array.getElem?_eq_some_iff.1 h2).1]; exact h2, h3, h4⟩
        · cases e
          exact ⟨⟨R0, by rw [heap_alloc_old _ _ hl0]; exact hR0⟩, hno⟩
      · intro d hd b hb
        obtain ⟨b', h1, h2, _⟩ := hfr.marks d hd
        have := (Array.getElem?_eq_some_iff.1 h2).1
        rw [h1] at hb
        injection hb with hb
        omega
  obtain ⟨l, mark, w1, R, hent, c1, k1, hnol, hwl, hlt, hfr1, hR, hst, hpd, hps, has, hbd, htm, hml, hrl, hEl⟩ := hent
  -- the call
  have hrun : ∀ args w, (callFunc f args).run P w = .ok (.enter f args) w := (h 0).1
  have c2 : Conc E st (.loop l N T ps assign body :: H) w1 := by
    refine c1.take (l := l) (fun k => ⟨fun e => e.symm, fun e => e.symm⟩) hlt (.inr hEl) hnol ⟨fun o ho => ?_, R, hR, hst, hpd, hps, has, hbd, ?_⟩
    · have := hc.stlt l o ho
      omega
    · rw [htm]
      exact ⟨hf.size, fun t v ht => let ⟨c, h1, h2⟩ := hf.val t v ht; ⟨c, h1, h2.mono k1⟩⟩
  have c3 : Conc E st ((.loop l N T ps assign body :: Hc) ++ G) w1 := c2.perm (by simpa using hp)
  have hfr3 : Fr0 r Bd.lo G w1 (mark ++ ms) := hfr1.sub fun k ⟨e, he, hk⟩ => ⟨e, hp.mem_iff.2 (by simp [he]), hk⟩
  have hgl2 : Gl ((.loop l N T ps assign body :: Hc) ++ G) w1 := by
    intro g hg
    obtain ⟨h1, c, t, f, h2, h3⟩ := hfr1.gl g hg
    refine ⟨?_, c, t, f, h2, h3⟩
    rintro ⟨e, he, hk⟩
    simp only [List.cons_append, List.mem_cons] at he
    rcases he with rfl | he
    · have hk' : l = g.b := hk
      rw [← hk', hR] at h2
      cases h2
    · exact h1 ⟨e, hp.mem_iff.2 he, hk⟩
  have hgl : Gl (.loop l N T ps assign body :: Hc) w1 := hgl2.sub fun k ⟨e, he, hk⟩ => ⟨e, List.mem_append.2 (.inl he), hk⟩
  have hcall := (h l).2 st w1 (f' ++ [.func (.yield l) #[] #[]] ++ c') c3.drop.start
    (RepL.append (RepL.append ⟨hfl, fun j v x hv hx => (hff j v x hv hx).mono k1⟩ ⟨rfl, fun j v x hv hx => by
      match j, hv, hx with
      | 0, hv, hx => simp at hv hx; subst hv; subst hx; exact .func (.yield l) [] [] [] [] rfl rfl (by simp) (by simp)⟩) ⟨hcl, fun j v x hv hx => (hcc j v x hv hx).mono k1⟩) hgl
  have hargs : (⟨f'⟩ ++ #[Value.func (.yield l) #[] #[]] ++ ⟨c'⟩ : Array Value) = ⟨f' ++ [.func (.yield l) #[] #[]] ++ c'⟩ := by
    apply Array.ext'
    simp
  refine ⟨l, mark, w1, { target := .fn (.func f) ⟨c'⟩, args := ⟨f'⟩ ++ #[Value.func (.yield l) #[] #[]] }, w1, f, ⟨f' ++ [.func (.yield l) #[] #[]] ++ c'⟩, w1, hent, ?_, fun _ _ => trivial, ?_, fun e => by simp [fen, Fence.wide] at e, ?_⟩
  · have hcv' : a.eval g = .func (.func f) ⟨f'⟩ ⟨c'⟩ := hcv
    simp [resolve, hcv', Deferred.ofValue]
    rfl
  · have := hrun (⟨f'⟩ ++ #[Value.func (.yield l) #[] #[]] ++ ⟨c'⟩) w1
    rw [hargs] at this
    simpa [invoke] using this
  · refine (calls_fen hcall).mono fun e w3 hp3 => ?_
    have fin : ∀ (st3 : Stab) (H3 : AHeap), Conc (Env0.of w1 st (.loop l N T ps assign body :: Hc)) st3 H3 w3 →
        Conc E st3 (H3 ++ G) w3 ∧ Keeps st st3 w w3 ∧ ((∀ k, AHeap.owns H3 k → AHeap.owns (.loop l N T ps assign body :: Hc) k ∨ w1.heap.size ≤ k)) := by
      intro st3 H3 h3
      obtain ⟨g1, g2⟩ := c3.call h3
      exact ⟨g1, k1.trans g2, h3.ownnew⟩
    have frk : ∀ (st3 : Stab) (H3 : AHeap), Conc (Env0.of w1 st (.loop l N T ps assign body :: Hc)) st3 H3 w3 → ∀ (Hd : AHeap), (∀ k, AHeap.owns Hd k → AHeap.owns H3 k) → ¬ AHeap.owns Hd l → Fr0 r Bd.lo (Hd ++ G) w3 (mark ++ ms) := by
      intro st3 H3 h3 Hd hHd hl
      have hc4 := (Conc.call (F := G) c3.start h3).1
      have hbase : ∀ b, b < w1.heap.size → ¬ AHeap.owns H b → b ≠ l → w3.heap[b]? = w1.heap[b]? ∧ ¬ AHeap.owns (Hd ++ G) b := by
        intro b hb ho hbl
        have hno : ¬ AHeap.owns ((.loop l N T ps assign body :: Hc) ++ G) b := by
          rintro ⟨e, he, hk⟩
          simp only [List.cons_append, List.mem_cons] at he
          rcases he with rfl | he
          · exact hbl hk.symm
          · exact ho ⟨e, hp.mem_iff.2 he, hk⟩
        refine ⟨hc4.old b hb hno, fun ho' => ?_⟩
        have : AHeap.owns (H3 ++ G) b := by
          rcases (AHeap.owns_append _ _ _).1 ho' with x | x
          · exact (AHeap.owns_append _ _ _).2 (.inl (hHd b x))
          · exact (AHeap.owns_append _ _ _).2 (.inr x)
        rcases hc4.ownnew b this with x | x
        · exact hno x
        · have : w1.heap.size ≤ b := x
          omega
      refine ⟨fun d hd => ?_, hfr1.nodup, Nat.le_trans hfr1.size h3.size, fun l' e => ?_, (hgl2.keep hc4).sub fun k hk => ?_⟩
      · obtain ⟨b, q1, q2, q3, q4⟩ := hfr1.marks d hd
        obtain ⟨s1, s2⟩ := hbase b (Array.getElem?_eq_some_iff.1 q2).1 q3 (hml d hd b (by rw [q1]))
        exact ⟨b, q1, s1.trans q2, s2, q4⟩
      · obtain ⟨⟨R', q1⟩, q2⟩ := hfr1.lrec l' e
        obtain ⟨s1, s2⟩ := hbase l' (Array.getElem?_eq_some_iff.1 q1).1 q2 (hrl l' e)
        exact ⟨⟨R', s1.trans q1⟩, s2⟩
      · rcases (AHeap.owns_append _ _ _).1 hk with x | x
        · exact (AHeap.owns_append _ _ _).2 (.inl (hHd k x))
        · exact (AHeap.owns_append _ _ _).2 (.inr x)
    cases e with
    | outgrown => exact hp3.elim
    | panicked ch =>
      obtain ⟨st3, res, H3, h3, h4, h5⟩ := hp3
      cases res with
      | ret v => exact h4.elim
      | panic v =>
        obtain ⟨c, rfl, hrv⟩ := h4
        obtain ⟨g1, g2, g3⟩ := fin st3 H3 h3
        have hc4 := (Conc.call (F := G) c3.start h3).1
        have hfr5 : Fr0 r Bd.lo ((.loop l N T ps assign body :: Hc) ++ G) w1 [] := ⟨fun d hd => (by cases hd), List.nodup_nil, hfr1.size, fun l' e => by
          obtain ⟨q1, q2⟩ := hfr1.lrec l' e
          refine ⟨q1, ?_⟩
          rintro ⟨e', he', hk⟩
          simp only [List.cons_append, List.mem_cons] at he'
          rcases he' with rfl | he'
          · exact hrl l' e hk.symm
          · exact q2 ⟨e', hp.mem_iff.2 he', hk⟩, hgl2⟩
        have hfr6 := hfr5.keep hc4
        have hmarks : ∀ d ∈ mark ++ ms, ∃ b, d = { target := .collected b, args := #[] } ∧ w3.heap[b]? = some (.deferred (some [])) ∧ ¬ AHeap.owns (H3 ++ G) b ∧ Bd.lo ≤ b := by
          intro d hd
          obtain ⟨b, q1, q2, q3, q4⟩ := hfr1.marks d hd
          have hno : ¬ AHeap.owns ((.loop l N T ps assign body :: Hc) ++ G) b := by
            rintro ⟨e, he, hk⟩
            simp only [List.cons_append, List.mem_cons] at he
            rcases he with rfl | he
            · exact hml d hd b (by rw [q1]) hk.symm
            · exact q3 ⟨e, hp.mem_iff.2 he, hk⟩
          have hb := (Array.getElem?_eq_some_iff.1 q2).1
          refine ⟨b, q1, (hc4.old b hb hno).trans q2, fun ho' => ?_, q4⟩
          rcases hc4.ownnew b ho' with x | x
          · exact hno x
          · have : w1.heap.size ≤ b := x
            omega
        exact Post.mk (a := { a with defers := mark ++ a.defers }) (T := []) g1 ⟨hf.size, fun t v h => by simp [lk] at h⟩ ⟨mark ++ ms, by simp [hms], hmarks, hfr1.nodup, hfr6.size, hfr6.lrec, hfr6.gl⟩ (e := .panic [{ v := c, recovered := false }]) (x := .panic v) ⟨c, rfl, hrv⟩ h5
    | returned v =>
      obtain ⟨st3, res, H3, h3, h4, h5⟩ := hp3
      cases res with
      | panic v => exact h4.elim
      | ret u =>
        obtain ⟨g1, g2, g3⟩ := fin st3 H3 h3
        rcases h5 with ⟨Hd, hperm, hq⟩ | ⟨c, Hd, hperm, hq⟩
        · have g4 : Conc E st3 (.loop l N T ps assign body :: (Hd ++ G)) w3 := g1.perm (by simpa using hperm.append_right G)
          obtain ⟨hns, R3, q1, q2, q3, _, _, _, q7⟩ := g4.ents (.loop l N T ps assign body) (by simp)
          have hnl : ¬ AHeap.owns (Hd ++ G) l := not_owns_of_sep g4 rfl
          refine ⟨none, _, by rw [← q3]; exact run_endLoop q1 (by rw [q2]; simp), ?_⟩
          have f1 := frk st3 H3 h3 Hd (fun k ⟨e, he, hk⟩ => ⟨e, hperm.mem_iff.2 (by simp [he]), hk⟩) (fun ho => hnl ((AHeap.owns_append _ _ _).2 (.inl ho)))
          exact Post.mk (a := { a with defers := mark ++ a.defers }) (g4.tail.putObj q1 (by simp) (by simp) (.inr hEl) hnl) ((hf.mono g2).mono (Keeps.putObj (y := .loop { R3 with state := .exhausted }) q1 (by simp) (by simp))).defers ⟨mark ++ ms, by simp [hms], f1.putObj q1 (by simp) hml hrl⟩ (x := .normal) trivial hq
        · have g4 : Conc E st3 (.done l c :: (Hd ++ G)) w3 := g1.perm (by simpa using hperm.append_right G)
          obtain ⟨hns, R3, q1, q2, q3⟩ := g4.ents (.done l c) (by simp)
          have hnl : ¬ AHeap.owns (Hd ++ G) l := not_owns_of_sep g4 rfl
          refine ⟨some c, _, by rw [← q3]; exact run_endLoop q1 (by rw [q2]; simp), ?_⟩
          have f1 := frk st3 H3 h3 Hd (fun k ⟨e, he, hk⟩ => ⟨e, hperm.mem_iff.2 (by simp [he]), hk⟩) (fun ho => hnl ((AHeap.owns_append _ _ _).2 (.inl ho)))
          exact hq E st3 _ { a with defers := mark ++ a.defers } r Bd (g4.tail.putObj q1 (by simp) (by simp) (.inr hEl) hnl) ((hf.mono g2).mono (Keeps.putObj (y := .loop { R3 with state := .exhausted }) q1 (by simp) (by simp))).defers ⟨mark ++ ms, by simp [hms], f1.putObj q1 (by simp) hml hrl⟩

/-! A call of yield. -/

def putPs : List Nat → List AV → Tmps → Tmps
  | p :: ps, v :: vs, T => putPs ps vs ((p, v) :: T)
  | _, _, T => T

theorem FR.putPs {st : Stab} {w : World} : ∀ (ps : List Nat) (vs : List AV) (xs : List Value) (T : Tmps) (tmps : Array Value), FR N st w T { tmps := tmps, defers := [] } → RepL st w vs xs → ps.length = vs.length → (∀ p ∈ ps, p < N) →
    FR N st w (putPs ps vs T) { tmps := (ps.zip xs).foldl (fun tmps (t, a) => tmps.setIfInBounds t a) tmps, defers := [] }
  | [], vs, xs, T, tmps, h, _, _, _ => by
    cases vs <;> exact h
  | p :: ps, [], xs, T, tmps, h, _, hl, _ => by simp at hl
  | p :: ps, v :: vs, [], T, tmps, h, hr, _, _ => by have := hr.1; simp at this
  | p :: ps, v :: vs, x :: xs, T, tmps, h, hr, hl, hp => by
    have hd : Nat.ble (p + 1) N = true := Nat.ble_eq_true_of_le (hp p (by simp))
    have := h.put hd (hr.2 0 v x rfl rfl)
    exact FR.putPs ps vs xs ((p, v) :: T) (tmps.setIfInBounds p x) this ⟨by have := hr.1; simpa using this, fun j u y hu hy => hr.2 (j + 1) u y (by simpa using hu) (by simpa using hy)⟩ (by simpa using hl) (fun q hq => hp q (by simp [hq]))

def yieldQ (l N : Nat) (T0 : Tmps) (ps : Array Tmp) (assign body : Code) (K : ARes → AHeap → Prop) : APost
  | .normal, _, H => K (.ret (.bool true)) (.loop l N T0 ps assign body :: H)
  | .ret, _, H => K (.ret (.bool false)) (.done l .ret :: H)
  | .exit id, _, H => K (.ret (.bool false)) (.done l (.exit id) :: H)
  | .goto t, _, H => K (.ret (.bool false)) (.done l (.goto t) :: H)
  | .panic _, _, _ => False

theorem hard_yield {o : Oper} {F : Operand → Option AV} {cf : Operand} {args : Array Operand} {ats : Array TypeId} {l : Nat} {T0 : Tmps} {ps : Array Tmp} {assign body : Code} {vs : List AV} {Hc : AHeap} {K : ARes → AHeap → Prop}
    (ho : o.op = .call { callee := .value cf, args := args, argTypes := ats }) (hf : F cf = some (.func (.yield l) [] [])) (hm : mapF F args.toList = some vs) (hlen : vs.length = ps.size) (hN : ∀ p ∈ ps, p < N)
    (hp : H.Perm (.loop l N T0 ps assign body :: Hc))
    (h : AWP P N assign (putPs ps.toList vs T0) Hc (fun x T1 H1 => x = .normal ∧ AWP P N body T1 H1 (yieldQ l N T0 ps assign body K))) : AHard P o F H K := by
  intro E st w a r next Q hc hF hgl hr _
  have hrep := hF cf _ hf
  obtain ⟨hl, hmr⟩ := mapF_sound hF _ _ hm
  generalize hcv : a.eval cf = cv at hrep
  cases hrep with
  | func _ _ _ f' c' hfl hcl _ _ =>
  obtain rfl : f' = [] := List.eq_nil_of_length_eq_zero hfl
  obtain rfl : c' = [] := List.eq_nil_of_length_eq_zero hcl
  have hgl0 : Gl Hc w := hgl.sub fun _ ⟨e, he, hk⟩ => ⟨e, hp.mem_iff.2 (by simp [he]), hk⟩
  have hc1 := hc.perm hp
  obtain ⟨hns, R, q1, q2, q3, q4, q5, q6, q7⟩ := hc1.ents (.loop l N T0 ps assign body) (by simp)
  have hnl : ¬ AHeap.owns Hc l := not_owns_of_sep hc1 rfl
  have hnew : E.O l ∨ E.w0.heap.size ≤ l := hc1.ownnew l ⟨_, List.mem_cons_self, rfl⟩
  have hlt := (Array.getElem?_eq_some_iff.1 q1).1
  have hc2 : Conc E st Hc w := hc1.tail
  have hsz : (args.map a.eval).size = R.params.size := by
    rw [q4, ← hlen, Array.size_map, ← hl]
    simp
  have hargs : (#[] ++ args.map a.eval : Array Value) = args.map a.eval := by simp
  have hrun : (execOp a.eval o).run P w = .ok (.round l R.fn ((R.params.zip (args.map a.eval)).foldl (fun tmps (t, a) => tmps.setIfInBounds t a) R.tmps) R.assign R.body) w := by
    have := run_yield (P := P) (args := args.map a.eval) q1 hsz
    simp only [execOp, ho, resolve, hcv, Deferred.ofValue, Sem.run_bind, Sem.run_pure, Result.andThen_ok, invoke, hargs, this]
  refine ⟨fun _ _ => trivial, ?_⟩
  rw [Oper.semAt_eq _ _ _ (by simp [ho]), hrun, Oper.uponIn_round]
  refine ⟨fun e => by simp [fen, Fence.wide] at e, roundIn_of_wpIn trivial ?_⟩
  rw [q4, q5, q6]
  have hfr0 : FR N st w (putPs ps.toList vs T0) { tmps := (ps.zip (args.map a.eval)).foldl (fun tmps (t, a) => tmps.setIfInBounds t a) R.tmps, defers := [] } := by
    have := FR.putPs ps.toList vs (args.toList.map a.eval) T0 R.tmps q7 ⟨hl, hmr⟩ (by simpa using hlen.symm) (fun p hp => hN p (by simpa using hp))
    have e : (ps.zip (args.map a.eval)).foldl (fun tmps (t, a) => tmps.setIfInBounds t a) R.tmps = (ps.toList.zip (args.toList.map a.eval)).foldl (fun tmps (t, a) => tmps.setIfInBounds t a) R.tmps := by
      rw [← Array.foldl_toList]
      simp
    rw [e]
    exact this
  have hfr1 : Fr (some l) ⟨0, []⟩ Hc w [] := ⟨[], rfl, fun d hd => (by cases hd), List.nodup_nil, Nat.zero_le _, fun l' e => (by cases e; exact ⟨⟨R, q1⟩, hnl⟩), hgl0⟩
  refine wpIn_mono (h (Env0.of w st Hc) st w _ (some l) ⟨0, []⟩ hc2.start hfr0 hfr1) fun e a1 w1 hp1 => ?_
  cases e with
  | outgrown => exact hp1.elim
  | normal =>
    obtain ⟨st1, T1, H1, x, c1, f1, fr1, hx, rfl, hbody⟩ := hp1
    have hsame : w1.heap[l]? = some (.loop R) := (c1.old l hlt hnl).trans q1
    have hnl1 : ¬ AHeap.owns H1 l := fun ho' => by
      rcases c1.ownnew l ho' with x | x
      · exact hnl x
      · have : w.heap.size ≤ l := x
        omega
    have k1 : Keeps st st1 w w1 := ⟨c1.stle, c1.keep⟩
    have d1 : Conc E st1 H1 w1 := hc2.trans c1
    refine ⟨_, run_beginRound hsame q2, ?_⟩
    generalize hw2 : w1.putObj l (.loop { R with state := .busy }) = w2
    have d2 : Conc E st1 H1 w2 := by rw [← hw2]; exact d1.putObj hsame (by simp) (by simp) hnew hnl1
    have k2 : Keeps st1 st1 w1 w2 := by rw [← hw2]; exact Keeps.putObj hsame (by simp) (by simp)
    have hl1 := (Array.getElem?_eq_some_iff.1 hsame).1
    have h2l : w2.heap[l]? = some (.loop { R with state := .busy }) := by rw [← hw2]; exact World.putObj_heap_same hl1
    have hl2 := (Array.getElem?_eq_some_iff.1 h2l).1
    have fr2 : Fr0 (some l) 0 H1 w2 [] := ⟨fun d hd => (by cases hd), List.nodup_nil, Nat.zero_le _, fun l' e => (by cases e; exact ⟨⟨_, h2l⟩, hnl1⟩), by rw [← hw2]; exact fr1.gl.putObj hsame (by simp)⟩
    have hdef : a1.defers = [] ∨ True := .inr trivial
    refine wpIn_mono (hbody (Env0.of w2 st1 H1) st1 w2 a1 (some l) ⟨0, []⟩ d2.start (f1.mono k2) ?_) fun e2 a3 w3 hp3 => ?_
    · obtain ⟨ms, hms, this⟩ := fr1
      refine ⟨ms, hms, fun d hd => ?_, this.nodup, Nat.zero_le _, fr2.lrec, fr2.gl⟩
      obtain ⟨b, r1, r2, r3, r4⟩ := this.marks d hd
      refine ⟨b, r1, ?_, r3, r4⟩
      rw [← hw2, World.putObj_heap_other]
      · exact r2
      · rintro rfl
        rw [hsame] at r2
        cases r2
    · have fin : ∀ st3 H3, Conc (Env0.of w2 st1 H1) st3 H3 w3 → ∀ (jump : Option Code), ∃ w4, (Instr.endRound l jump).run P w3 = .ok (.bool jump.isNone) w4 ∧ Keeps st st3 w w4 ∧
          (jump = none → Conc E st3 (.loop l N T0 ps assign body :: H3) w4) ∧ (∀ c, jump = some c → Conc E st3 (.done l c :: H3) w4) := by
        intro st3 H3 c3 jump
        have hsame3 : w3.heap[l]? = some (.loop { R with state := .busy }) := (c3.old l hl2 hnl1).trans h2l
        have hnl3 : ¬ AHeap.owns H3 l := fun ho' => by
          rcases c3.ownnew l ho' with x | x
          · exact hnl1 x
          · have : w2.heap.size ≤ l := x
            omega
        have k3 : Keeps st1 st3 w2 w3 := ⟨c3.stle, c3.keep⟩
        have d3 : Conc E st3 H3 w3 := d2.trans c3
        have hl3 := (Array.getElem?_eq_some_iff.1 hsame3).1
        refine ⟨_, run_endRound jump hsame3, ?_⟩
        have hns3 : ∀ o, ¬ st3 l o := by
          intro o hs
          rcases c3.stnew l o hs with y | y | y
          · rcases c1.stnew l o y with z | z | z
            · exact hns o z
            · have : w.heap.size ≤ l := z
              omega
            · exact hnl z
          · have : w2.heap.size ≤ l := y
            omega
          · exact hnl1 y
        have k4 := Keeps.putObj (st := st3) (y := .loop { R with state := if jump.isNone then .ready else .done, pending := jump }) hsame3 (by simp) (by simp)
        have kk : Keeps st st3 w (w3.putObj l (.loop { R with state := if jump.isNone then .ready else .done, pending := jump })) := ((k1.trans k2).trans k3).trans k4
        refine ⟨kk, fun e => ?_, fun c e => ?_⟩
        · subst e
          refine (d3.putObj hsame3 (by simp) (by simp) hnew hnl3).take (l := l) (fun k => ⟨fun e => e.symm, fun e => e.symm⟩) (by simpa using hl3) hnew hnl3 ⟨hns3, _, World.putObj_heap_same hl3, rfl, rfl, q4, q5, q6, q7.mono kk⟩
        · subst e
          refine (d3.putObj hsame3 (by simp) (by simp) hnew hnl3).take (l := l) (fun k => ⟨fun e => e.symm, fun e => e.symm⟩) (by simpa using hl3) hnew hnl3 ⟨hns3, _, World.putObj_heap_same hl3, rfl, rfl⟩
      cases e2 with
      | outgrown => exact hp3.elim
      | normal =>
        obtain ⟨st3, T3, H3, x, c3, f3, fr3, hx, hq⟩ := hp3
        cases x <;> first | exact hx.elim | skip
        obtain ⟨w4, g1, g2, g3, _⟩ := fin st3 H3 c3 none
        exact ⟨_, w4, g1, hr st3 w4 _ _ _ (g3 rfl) g2 (.bool _) hq⟩
      | ret =>
        obtain ⟨st3, T3, H3, x, c3, f3, fr3, hx, hq⟩ := hp3
        cases x <;> first | exact hx.elim | skip
        obtain ⟨w4, g1, g2, _, g3⟩ := fin st3 H3 c3 (some .ret)
        exact ⟨_, w4, g1, hr st3 w4 _ _ _ (g3 _ rfl) g2 (.bool _) hq⟩
      | exit id =>
        obtain ⟨st3, T3, H3, x, c3, f3, fr3, hx, hq⟩ := hp3
        cases x <;> first | exact hx.elim | skip
        obtain rfl : id = _ := hx
        obtain ⟨w4, g1, g2, _, g3⟩ := fin st3 H3 c3 (some (.exit id))
        exact ⟨_, w4, g1, hr st3 w4 _ _ _ (g3 _ rfl) g2 (.bool _) hq⟩
      | goto t =>
        obtain ⟨st3, T3, H3, x, c3, f3, fr3, hx, hq⟩ := hp3
        cases x <;> first | exact hx.elim | skip
        obtain rfl : t = _ := hx
        obtain ⟨w4, g1, g2, _, g3⟩ := fin st3 H3 c3 (some (.goto t))
        exact ⟨_, w4, g1, hr st3 w4 _ _ _ (g3 _ rfl) g2 (.bool _) hq⟩
      | panic ch =>
        obtain ⟨st3, T3, H3, x, c3, f3, fr3, hx, hq⟩ := hp3
        cases x <;> first | exact hx.elim | exact hq.elim
  | _ =>
    obtain ⟨st1, T1, H1, x, c1, f1, fr1, hx, rfl, hbody⟩ := hp1
    exact hx.elim

end
end Go.Ab
