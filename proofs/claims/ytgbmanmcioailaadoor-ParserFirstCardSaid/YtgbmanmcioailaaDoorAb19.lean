/-
  Functions that defer a call of a function of their own, and functions that are so called and recover.
-/
import Derived.Test.YtgbmanmcioailaaDoorAb18
import Derived.RecoverIn
namespace Go.Ab

section
variable {P : Program} {ty : TypeId → Option TyI} {T : Tmps} {H : AHeap} {Q : APost}

/-- What is left of a function's body: it brings about K, deferred calls and all. -/
def FWP (P : Program) (fn : Func) (c : Code) (T : Tmps) (H : AHeap) (K : ARes → AHeap → Prop) : Prop :=
  ∀ E st w a, Conc E st H w → FR fn.ntmps st w T a → Fr none ⟨E.w0.heap.size, []⟩ H w a.defers → c.wpIn (fen none) 0 P (bodyPostM (fen none) 0 P fn (FPost E K)) a w

theorem conc_dropK {E : Env0} {st : Stab} {w : World} {k : Nat} (h : Conc E st H w) : Conc E st (H.drop k) w := by
  rw [← List.take_append_drop k H] at h
  exact h.drop_front

theorem fin_res (hty : TyOk P ty) {E : Env0} {fn : Func} {K : ARes → AHeap → Prop} {st : Stab} {w : World} {a : Act} (h1 : Conc E st H w) (h2 : FR fn.ntmps st w T a)
    (h : ∃ k vs v, ResV ty T H fn.results.toList vs ∧ Sub (tup vs) v ∧ K (.ret v) (H.drop k)) : ∃ v, (results fn a.tmps).run P w = .ok v w ∧ FPost E K (.returned v) w := by
  obtain ⟨k, us, v, h3, h4, h5⟩ := h
  obtain ⟨cs, h6, h7⟩ := run_resV (P := P) hty h1 h2 h3
  refine ⟨_, ?_, st, .ret v, H.drop k, conc_dropK h1, h4 _ _ _ (tup_rep h7), h5⟩
  rw [results_eq, Sem.run_bind, Array.mapM_eq_mapM_toList, Sem.run_map, h6]
  rfl

theorem body_of_post (hty : TyOk P ty) {E : Env0} {fn : Func} {K : ARes → AHeap → Prop} {e : Exit} {a : Act} {w : World} (hp : Post E fn.ntmps none ⟨E.w0.heap.size, []⟩ (fnQ ty fn.results.toList K) e a w) :
    bodyPostM (fen none) 0 P fn (FPost E K) e a w := by
  have out : ∀ (u : FrameMode), u ≠ .run → ∀ st' T' H' , Conc E st' H' w → FR fn.ntmps st' w T' a → Fr none ⟨E.w0.heap.size, []⟩ H' w a.defers →
      (∀ w2, Conc E st' H' w2 → Keeps st' st' w w2 → LeavesIn Fence.wide 0 P fn a.tmps (FPost E K) [] u w2) →
      LeavesInM Fence.wide 0 P fn a.tmps (FPost E K) a.defers u w :=
    fun u hu st' T' H' h1 h2 ⟨ms, hms, h3⟩ h4 => by
      rw [hms, List.append_nil]
      exact leaves_marks hu _ w h3 h1 fun w2 g1 g2 _ => h4 w2 g1 ⟨fun _ _ h => h, fun b o _ => g2 _⟩
  cases e with
  | outgrown => exact hp.elim
  | normal =>
    obtain ⟨st', T', H', x, h1, h2, h3, h4, h5⟩ := hp
    cases x <;> first | exact h4.elim | skip
    exact out .returning (by simp) st' T' H' h1 h2 h3 fun w2 g1 g2 => by
      unfold LeavesIn
      exact fin_res hty g1 (h2.mono g2) h5
  | ret =>
    obtain ⟨st', T', H', x, h1, h2, h3, h4, h5⟩ := hp
    cases x <;> first | exact h4.elim | skip
    exact out .returning (by simp) st' T' H' h1 h2 h3 fun w2 g1 g2 => by
      unfold LeavesIn
      exact fin_res hty g1 (h2.mono g2) h5
  | panic ch =>
    obtain ⟨st', T', H', x, h1, h2, h3, h4, h5⟩ := hp
    cases x <;> first | exact h4.elim | skip
    rename_i v
    obtain ⟨k, h6⟩ := h5
    refine out (.panicking ch) (by simp) st' T' H' h1 h2 h3 fun w2 g1 g2 => ?_
    unfold LeavesIn
    obtain ⟨c, rfl, h7⟩ := h4
    exact ⟨st', .panic v, H'.drop k, conc_dropK g1, ⟨c, rfl, h7.mono g2⟩, h6⟩
  | exit id =>
    obtain ⟨st', T', H', x, h1, h2, h3, h4, h5⟩ := hp
    cases x <;> first | exact h4.elim | exact h5.elim
  | goto l =>
    obtain ⟨st', T', H', x, h1, h2, h3, h4, h5⟩ := hp
    cases x <;> first | exact h4.elim | exact h5.elim

theorem acalls_of_fwp {f : FuncId} {fn : Func} {c : Code} {vs : List AV} {K : ARes → AHeap → Prop} (hcb : Callable P f) (hf : P.funcs[f]? = some fn) (hb : fn.body = some c)
    (hl : Nat.ble vs.length fn.ntmps = true) (h : FWP P fn c (args0 0 vs) H K) : ACalls P f vs H K := by
  refine ⟨hcb, fun st w xs hc hx hg => ?_⟩
  have hl' := Nat.le_of_ble_eq_true hl
  refine callsIn_wide.1 (callsIn_of_wp_marks (n := 0) hf hb trivial (h (Env0.of w st H) st w _ hc ⟨?_, ?_⟩ (Fr.none_nil hg)))
  · simp [hx.1]; omega
  · intro t v ht
    obtain ⟨_, h2⟩ := lk_args0 vs 0 t v ht
    simp only [Nat.sub_zero] at h2
    have htl : t < xs.length := by
      have := (List.getElem?_eq_some_iff.1 h2).1
      rw [hx.1]; exact this
    refine ⟨xs[t], ?_, hx.2 t v _ h2 (by simp [htl])⟩
    rw [Array.getElem?_append_left (by simpa using htl)]
    simp [htl]

theorem fwp_of_awp (hty : TyOk P ty) {fn : Func} {c : Code} {K : ARes → AHeap → Prop} (h : AWP P fn.ntmps c T H (fnQ ty fn.results.toList K)) : FWP P fn c T H K :=
  fun E st w a h1 h2 h3 => wpIn_mono (h E st w a none _ h1 h2 h3) fun _ _ _ hp => body_of_post hty hp

theorem fwp_seq (hty : TyOk P ty) {fn : Func} {x y : Code} {K : ARes → AHeap → Prop} (h : AWP P fn.ntmps x T H (thenQ (fun T' H' => FWP P fn y T' H' K) (fnQ ty fn.results.toList K))) : FWP P fn (.seq x y) T H K := by
  intro E st w a h1 h2 h3
  refine wpIn_seq (wpIn_mono (h E st w a none _ h1 h2 h3) fun e a' w' hp => ?_)
  cases e with
  | outgrown => exact hp.elim
  | normal =>
    obtain ⟨st', T', H', x, g1, g2, g3, g4, g5⟩ := hp
    cases x <;> first | exact g4.elim | exact g5 E st' w' a' g1 g2 g3
  | _ =>
    obtain ⟨st', T', H', x, g1, g2, g3, g4, g5⟩ := hp
    cases x <;> first | exact g4.elim | exact body_of_post (K := K) hty (Post.mk g1 g2 g3 g4 g5)

/-- The same, with the rest under a name. -/
theorem fwp_seq_k (hty : TyOk P ty) {fn : Func} {x y : Code} {K : ARes → AHeap → Prop}
    (h : ∀ KK : Tmps → AHeap → Prop, (∀ T' H', FWP P fn y T' H' K → KK T' H') → AWP P fn.ntmps x T H (thenQ KK (fnQ ty fn.results.toList K))) : FWP P fn (.seq x y) T H K :=
  fwp_seq hty (h _ fun _ _ h => h)

/-! A function that is called as a deferred one, and recovers. -/

/-- In what mode the frame below is: it returns, or it panics with v. -/
def UM (st : Stab) (w : World) (u : FrameMode) : Option AV → Prop
  | none => u = .returning
  | some v => ∃ c, u = .panicking [{ v := c, recovered := false }] ∧ Rep st w v c

/-- What the deferred function does with the heap; behind it the frame below returns. -/
def DCalls (P : Program) (f : FuncId) (vs : List AV) (pv : Option AV) (H : AHeap) (R : AHeap → Prop) : Prop :=
  Callable P f ∧ ∀ st w xs u, Conc (Env0.of w st H) st H w → RepL st w vs xs → Gl H w → UM st w u pv →
    CallsDIn (fen none) 0 P f ⟨xs⟩ u w fun e u' w' => ∃ v, e = .returned v ∧ settle u' = .returning ∧ ∃ st' H', Conc (Env0.of w st H) st' H' w' ∧ R H'

theorem going_marks {E : Env0} {st : Stab} {H : AHeap} (fr : Frame) (cs : List Frame) (hro : (fen none).room (cs.length + 1 + 0)) :
    ∀ (ds : List Deferred) (w : World), Fr0 none E.w0.heap.size H w ds → Conc E st H w →
      ∃ w', StepsIn (Machine.fenced P (fen none)) P (lone { fr with mode := .returning, defers := ds } cs w) (lone { fr with mode := .returning, defers := [] } cs w') ∧ Conc E st H w' ∧ (∀ p, w'.cell? p = w.cell? p)
  | [], w, _, hc => ⟨w, StepsIn.refl _, hc, fun _ => rfl⟩
  | d :: ds, w, hf, hc => by
    obtain ⟨b, rfl, h2, h3, h4⟩ := hf.marks d (by simp)
    have hnd := List.nodup_cons.1 hf.nodup
    have hc' : Conc E st H (w.putObj b (.deferred none)) := hc.putObj h2 (by simp) (by simp) (.inr h4) h3
    obtain ⟨w', g1, g2, g3⟩ := going_marks fr cs hro ds _ ⟨fun d hd => by
      obtain ⟨b', k1, k2, k3, k4⟩ := hf.marks d (by simp [hd])
      refine ⟨b', k1, ?_, k3, k4⟩
      rw [World.putObj_heap_other]
      · exact k2
      · rintro rfl
        exact hnd.1 (k1 ▸ hd), hnd.2, by simpa using hf.size, fun l hl => (by cases hl), hf.gl.putObj h2 (by simp)⟩ hc'
    have hs := step_collected (P := P) (fr := { fr with mode := .returning, defers := { target := .collected b, args := #[] } :: ds }) (cs := cs) (by simp) rfl rfl (run_takeDeferred h2)
    have hi : (lone { fr with mode := .returning, defers := { target := .collected b, args := #[] } :: ds } cs w).fenced P (fen none) := fenced_out (n := 0) trivial hro (by simp) rfl (fun g hg => by simp [Target.leads] at hg)
    exact ⟨w', .head hi hs g1, g2, fun p => (g3 p).trans (cell_putObj h2 (by simp) (by simp) p)⟩

theorem dcalls_of_awp {f : FuncId} {fn : Func} {id : Nat} {o : Oper} {d : Nat} {c : Code} {vs : List AV} {pv : Option AV} {R : AHeap → Prop} (hcb : Callable P f) (hf : P.funcs[f]? = some fn)
    (hb : fn.body = some (.seq (.region id #[o] false) c)) (ho : o.op = .call { callee := .builtin .recover, args := #[], argTypes := #[] }) (hg : o.guard = none) (hd : o.dst = some d) (hr : fn.results = #[])
    (hN : Nat.ble (d + 1) fn.ntmps = true) (hl : Nat.ble vs.length fn.ntmps = true)
    (h : AWP P fn.ntmps c ((d, pv.getD .nilIface) :: args0 0 vs) H fun x _ H' => isRet x = true ∧ R H') : DCalls P f vs pv H R := by
  refine ⟨hcb, fun st w xs u hc hx hgl hu => ?_⟩
  have hl' := Nat.le_of_ble_eq_true hl
  refine ⟨trivial, fun c₀ cs hm hroom => ?_⟩
  let b : Frame := { (default : Frame) with fn := f, kind := .deferred, roundOf := none }
  have henter : Frame.enter P f ⟨xs⟩ .deferred = b.atR { tmps := ⟨xs⟩ ++ Array.replicate (fn.ntmps - xs.length) undef, defers := [] } [.code (.seq (.region id #[o] false) c)] := by
    simp [Frame.enter, Frame.atR, hf, hb, b]
  -- the frame at the start
  have hfr0 : FR fn.ntmps st w (args0 0 vs) { tmps := ⟨xs⟩ ++ Array.replicate (fn.ntmps - xs.length) undef, defers := [] } := by
    refine ⟨?_, ?_⟩
    · simp [hx.1]; omega
    · intro t v ht
      obtain ⟨_, h2⟩ := lk_args0 vs 0 t v ht
      simp only [Nat.sub_zero] at h2
      have htl : t < xs.length := by
        have := (List.getElem?_eq_some_iff.1 h2).1
        rw [hx.1]; exact this
      refine ⟨xs[t], ?_, hx.2 t v _ h2 (by simp [htl])⟩
      rw [Array.getElem?_append_left (by simpa using htl)]
      simp [htl]
  -- what recover tells
  obtain ⟨rv, u1, hrec, hrv, hset⟩ : ∃ rv u1, (∀ (Q : Exit → Act → List Frame → World → Prop) (a : Act), Q .normal (a.put (some d) rv) ({ c₀ with mode := u1 } :: cs) w → wpOpsSIn (fen none) 0 P #[o] Q (List.range (#[o] : Array Oper).size) a (c₀ :: cs) w) ∧ Rep st w (pv.getD .nilIface) rv ∧ settle u1 = .returning := by
    have hrun : ∀ a : Act, (execOp a.eval o).run P w = .ok .recover w := fun a => by simp [execOp, ho]; rfl
    have hab : ∀ a : Act, ∀ g, o.about P w a.eval = some g → (fen none).fn g := fun _ _ _ => trivial
    cases pv with
    | none =>
      have hu' : c₀.mode = .returning := hm.trans hu
      refine ⟨.nilIface, .returning, fun Q a hq => ?_, .nilIface, rfl⟩
      have hc0 : ({ c₀ with mode := .returning } : Frame) = c₀ := by rw [← hu']
      rw [hc0] at hq
      have hrn : recoverD (c₀ :: cs) = none := by simp [recoverD, hu']
      show wpOpsSIn (fen none) 0 P #[o] Q [0] a (c₀ :: cs) w
      simp only [wpOpsSIn, List.getElem?_toArray, List.getElem?_cons_zero, wanted_none hg, if_true, hrun, hrn, hd]
      exact ⟨hab a, hq⟩
    | some v =>
      obtain ⟨cv, hu1, hv⟩ := hu
      have hu' : c₀.mode = .panicking [{ v := cv, recovered := false }] := hm.trans hu1
      refine ⟨cv, .panicking [{ v := cv, recovered := true }], fun Q a hq => ?_, hv, rfl⟩
      have hrn : recoverD (c₀ :: cs) = some (cv, { c₀ with mode := .panicking [{ v := cv, recovered := true }] } :: cs) := by simp [recoverD, hu']
      show wpOpsSIn (fen none) 0 P #[o] Q [0] a (c₀ :: cs) w
      simp only [wpOpsSIn, List.getElem?_toArray, List.getElem?_cons_zero, wanted_none hg, if_true, hrun, hrn, hd]
      exact ⟨hab a, hq⟩
  have hwp : (Code.seq (.region id #[o] false) c).wpSIn (fen none) 0 P (fun e a' cs' w' => cs' = { c₀ with mode := u1 } :: cs ∧ Post (Env0.of w st H) fn.ntmps none ⟨w.heap.size, []⟩ (fun x _ H' => isRet x = true ∧ R H') e a' w')
      { tmps := ⟨xs⟩ ++ Array.replicate (fn.ntmps - xs.length) undef, defers := [] } (c₀ :: cs) w := by
    refine wpSIn_seq (wpSIn_region (hrec _ _ ?_))
    refine wpSIn_of_wpIn rfl (wpIn_mono (h (Env0.of w st H) st w _ none ⟨w.heap.size, []⟩ hc (hfr0.put hN hrv) (Fr.none_nil hgl)) fun e a' w' hp => ⟨rfl, hp⟩)
  obtain ⟨e, a', cs', w', hlen, ⟨hcs, hq⟩, harr⟩ := hwp b [] rfl rfl trivial hroom
  rw [← henter] at harr
  subst hcs
  have fin : ∀ todo, StepsIn (Machine.fenced P (fen none)) P (lone (Frame.enter P f ⟨xs⟩ .deferred) (c₀ :: cs) w) (lone { b.atR a' todo with mode := .returning } ({ c₀ with mode := u1 } :: cs) w') →
      (∃ st' T' H' x, Conc (Env0.of w st H) st' H' w' ∧ FR fn.ntmps st' w' T' a' ∧ Fr none ⟨w.heap.size, []⟩ H' w' a'.defers ∧ isRet x = true ∧ R H') →
      ∃ e u' w' fr, (∃ v, e = .returned v ∧ settle u' = .returning ∧ ∃ st' H', Conc (Env0.of w st H) st' H' w' ∧ R H') ∧
        ComesIn (Machine.fenced P (fen none)) P (lone (Frame.enter P f ⟨xs⟩ .deferred) (c₀ :: cs) w) (lone fr ({ c₀ with mode := u' } :: cs) w') e ∧ fr.kind = .deferred ∧ fr.fn = f ∧ fr.going P w' e := by
    rintro todo hs ⟨st', T', H', x, g1, g2, ⟨ms, hms, g3⟩, g4, g5⟩
    rw [List.append_nil] at hms
    have hroom' : (fen none).room (({ c₀ with mode := u1 } :: cs).length + 1 + 0) := by simpa using hroom
    obtain ⟨w2, k1, k2, k3⟩ := going_marks (P := P) (b.atR a' todo) ({ c₀ with mode := u1 } :: cs) hroom' ms w' g3 g1
    have e1 : ({ b.atR a' todo with mode := .returning } : Frame) = { b.atR a' todo with mode := .returning, defers := ms } := by
      rw [← hms]; rfl
    rw [e1] at hs
    have hres : (results fn a'.tmps).run P w2 = .ok (.tuple #[]) w2 := by
      rw [results_eq, hr]
      simp
    exact ⟨.returned (.tuple #[]), u1, w2, _, ⟨_, rfl, hset, st', H', k2, g5⟩, StepsIn.trans hs k1, rfl, rfl, rfl, rfl, fn, hf, hres⟩
  cases e with
  | outgrown => exact hq.elim
  | normal =>
    obtain ⟨st', T', H', x, g1, g2, g3, g4, g5, g6⟩ := hq
    refine fin [] (StepsIn.trans harr (.one (fenced_calm (fr := b.atR a' []) (n := 0) trivial (by simpa using hroom) rfl) (stepR_end rfl))) ⟨st', T', H', x, g1, g2, g3, g5, g6⟩
  | ret =>
    obtain ⟨todo, hs⟩ := harr.1 rfl
    obtain ⟨st', T', H', x, g1, g2, g3, g4, g5, g6⟩ := hq
    exact fin todo hs ⟨st', T', H', x, g1, g2, g3, g5, g6⟩
  | panic ch =>
    obtain ⟨st', T', H', x, g1, g2, g3, g4, g5, g6⟩ := hq
    cases x <;> first | exact g4.elim | cases g5
  | exit i =>
    obtain ⟨st', T', H', x, g1, g2, g3, g4, g5, g6⟩ := hq
    cases x <;> first | exact g4.elim | cases g5
  | goto l =>
    obtain ⟨st', T', H', x, g1, g2, g3, g4, g5, g6⟩ := hq
    cases x <;> first | exact g4.elim | cases g5

/-! The statement that defers. -/

/-- The boxes that a function literal takes with it. -/
def ptrsOf : List (Nat × Nat) → List AV := List.map fun p => .ptr p.1 p.2

def ptrVals : List (Nat × Nat) → List Value := List.map fun p => .pointer (some ⟨p.1, p.2, none⟩)

theorem ptrs_rep {st : Stab} {w : World} (ps : List (Nat × Nat)) : RepL st w (ptrsOf ps) (ptrVals ps) := by
  refine ⟨by simp [ptrsOf, ptrVals], fun j v x hv hx => ?_⟩
  simp only [ptrsOf, ptrVals, List.getElem?_map, Option.map_eq_some_iff] at hv hx
  obtain ⟨p, h1, rfl⟩ := hv
  obtain ⟨q, h2, rfl⟩ := hx
  rw [h1] at h2
  cases h2
  exact .ptr _ _

theorem ptrs_eq {st : Stab} {w : World} : ∀ (ps : List (Nat × Nat)) (xs : List Value), RepL st w (ptrsOf ps) xs → xs = ptrVals ps
  | [], xs, h => by
    have := h.1
    simp only [ptrsOf, List.map_nil, List.length_nil] at this
    simp [ptrVals, List.eq_nil_of_length_eq_zero this]
  | p :: ps, [], h => by have := h.1; simp [ptrsOf] at this
  | p :: ps, x :: xs, h => by
    have h0 := h.2 0 (.ptr p.1 p.2) x rfl rfl
    have ht := ptrs_eq ps xs ⟨by have := h.1; simpa [ptrsOf] using this, fun j v y hv hy => h.2 (j + 1) v y (by simpa [ptrsOf] using hv) (by simpa using hy)⟩
    cases h0
    simp [ptrVals, ht]

/-- What the rest must achieve when a call of f with those boxes stands deferred. -/
def deferQ (P : Program) (ty : TypeId → Option TyI) (rs : List ResultVar) (f : FuncId) (ps : List (Nat × Nat)) (K : ARes → AHeap → Prop) : APost
  | .normal, T, H => DCalls P f (ptrsOf ps) none H fun H' => ∃ k vs v, ResV ty T H' rs vs ∧ Sub (tup vs) v ∧ K (.ret v) (H'.drop k)
  | .ret, T, H => DCalls P f (ptrsOf ps) none H fun H' => ∃ k vs v, ResV ty T H' rs vs ∧ Sub (tup vs) v ∧ K (.ret v) (H'.drop k)
  | .panic v, T, H => DCalls P f (ptrsOf ps) (some v) H fun H' => ∃ k vs v, ResV ty T H' rs vs ∧ Sub (tup vs) v ∧ K (.ret v) (H'.drop k)
  | _, _, _ => False

theorem leaves_marks_then {E : Env0} {fn : Func} {a : Array Value} {R : Ending → World → Prop} {st : Stab} {H : AHeap} {u : FrameMode} (hu : u ≠ .run) {D : List Deferred} :
    ∀ (ds : List Deferred) (w : World), Fr0 none E.w0.heap.size H w ds → Conc E st H w →
    (∀ w', Conc E st H w' → Gl H w' → (∀ p, w'.cell? p = w.cell? p) → LeavesInM (fen none) 0 P fn a R D u w') → LeavesInM (fen none) 0 P fn a R (ds ++ D) u w
  | [], w, hf, hc, h => h w hc hf.gl (fun _ => rfl)
  | d :: ds, w, hf, hc, h => by
    obtain ⟨b, rfl, h2, h3, h4⟩ := hf.marks d (by simp)
    have hnd := List.nodup_cons.1 hf.nodup
    rw [List.cons_append]
    unfold LeavesInM
    refine ⟨hu, .inl ⟨b, _, rfl, run_takeDeferred h2, ?_⟩⟩
    have hc' : Conc E st H (w.putObj b (.deferred none)) := hc.putObj h2 (by simp) (by simp) (.inr h4) h3
    refine leaves_marks_then hu ds _ ⟨fun d hd => ?_, hnd.2, by simpa using hf.size, fun l hl => (by cases hl), hf.gl.putObj h2 (by simp)⟩ hc' fun w' g1 g2 g3 => h w' g1 g2 (fun p => (g3 p).trans (cell_putObj h2 (by simp) (by simp) p))
    obtain ⟨b', k1, k2, k3, k4⟩ := hf.marks d (by simp [hd])
    refine ⟨b', k1, ?_, k3, k4⟩
    rw [World.putObj_heap_other]
    · exact k2
    · rintro rfl
      exact hnd.1 (k1 ▸ hd)

theorem fwp_defer (hty : TyOk P ty) {fn : Func} {id : Nat} {o1 o2 : Oper} {d1 : Nat} {f : FuncId} {caps : Array Operand} {at2 : Array TypeId} (ps : List (Nat × Nat)) {y : Code} {K : ARes → AHeap → Prop}
    (h1 : o1.op = .makeFunc (.func f) #[] caps) (hd1 : o1.dst = some d1) (hg1 : o1.guard = none) (hN : Nat.ble (d1 + 1) fn.ntmps = true)
    (h2 : o2.op = .defer { callee := .value (.tmp d1), args := #[], argTypes := at2 }) (hd2 : o2.dst = none) (hg2 : o2.guard = none) (hcb : Callable P f)
    (hm : mapF (opv T) caps.toList = some (ptrsOf ps)) (h : AWP P fn.ntmps y ((d1, .func (.func f) [] (ptrsOf ps)) :: T) H (deferQ P ty fn.results.toList f ps K)) :
    FWP P fn (.seq (.region id #[o1, o2] false) y) T H K := by
  intro E st w a hc hf hfr
  have hcaps : caps.toList.map a.eval = ptrVals ps := by
    obtain ⟨hl, hmr⟩ := mapF_sound (fun x v hx => opv_rep hf hx) _ _ hm
    exact ptrs_eq ps _ ⟨hl, hmr⟩
  have hcaps' : caps.map a.eval = ⟨ptrVals ps⟩ := by
    apply Array.ext'
    simp [hcaps]
  have hrun1 : (execOp a.eval o1).run P w = .ok (.value (.func (.func f) #[] ⟨ptrVals ps⟩)) w := by
    simp [execOp, h1, Instr.makeFunc, hcaps']
  have hfr1 : FR fn.ntmps st w ((d1, .func (.func f) [] (ptrsOf ps)) :: T) (a.put (some d1) (.func (.func f) #[] ⟨ptrVals ps⟩)) :=
    hf.put hN (.func _ _ _ _ _ rfl (ptrs_rep (st := st) (w := w) ps).1 (by simp) (ptrs_rep ps).2)
  have hdN : d1 < a.tmps.size := by rw [hf.size]; exact Nat.le_of_ble_eq_true hN
  have hev : (a.put (some d1) (.func (.func f) #[] ⟨ptrVals ps⟩)).eval (.tmp d1) = .func (.func f) #[] ⟨ptrVals ps⟩ := by
    simp [Act.eval, Act.put, hdN]
  have hrun2 : (execOp (a.put (some d1) (.func (.func f) #[] ⟨ptrVals ps⟩)).eval o2).run P w = .ok (.defer { target := .fn (.func f) ⟨ptrVals ps⟩, args := #[] }) w := by
    simp [execOp, h2, resolve, hev, Deferred.ofValue]
  refine wpIn_seq (wpIn_region ?_)
  show wpOpsIn (fen none) 0 P #[o1, o2] _ [0, 1] a w
  rw [wpOpsIn_cons]
  unfold wpOpIn
  simp only [List.getElem?_toArray, List.getElem?_cons_zero, wanted_none hg1, if_true]
  refine wp_of_value hrun1 ?_
  rw [wpOpsIn_cons, hd1]
  unfold wpOpIn
  simp only [List.getElem?_toArray, List.getElem?_cons_zero, List.getElem?_cons_succ, wanted_none hg2, if_true]
  refine ⟨fun _ _ => trivial, ?_⟩
  have hs : (o2.semAt (fen none).round (a.put (some d1) (.func (.func f) #[] ⟨ptrVals ps⟩)).eval) = execOp (a.put (some d1) (.func (.func f) #[] ⟨ptrVals ps⟩)).eval o2 := Oper.semAt_none ..
  rw [hs, hrun2, Oper.uponIn_defer, hd2]
  obtain ⟨ms, hms, hfr⟩ := hfr
  rw [List.append_nil] at hms
  have hdef : (Act.put { (a.put (some d1) (.func (.func f) #[] ⟨ptrVals ps⟩)) with defers := ({ target := .fn (.func f) ⟨ptrVals ps⟩, args := #[] } : Deferred) :: (a.put (some d1) (.func (.func f) #[] ⟨ptrVals ps⟩)).defers } none undef).defers = ({ target := .fn (.func f) ⟨ptrVals ps⟩, args := #[] } : Deferred) :: ms := by
    simp [Act.put, hms]
  have hgl := hfr.gl
  refine wpIn_mono (h (Env0.of w st H) st w _ none ⟨w.heap.size, ({ target := .fn (.func f) ⟨ptrVals ps⟩, args := #[] } : Deferred) :: ms⟩ hc.start ⟨hfr1.size, hfr1.val⟩ ⟨[], hdef, Fr0.none_nil hgl⟩) fun e a' w' hp => ?_
  -- the rest of the way out
  have out : ∀ (u : FrameMode) (pv : Option AV) (st' : Stab) (T' : Tmps) (H' : AHeap), u ≠ .run → Conc (Env0.of w st H) st' H' w' → FR fn.ntmps st' w' T' a' → Fr none ⟨w.heap.size, ({ target := .fn (.func f) ⟨ptrVals ps⟩, args := #[] } : Deferred) :: ms⟩ H' w' a'.defers → UM st' w' u pv →
      DCalls P f (ptrsOf ps) pv H' (fun H' => ∃ k vs v, ResV ty T' H' fn.results.toList vs ∧ Sub (tup vs) v ∧ K (.ret v) (H'.drop k)) → LeavesInM (fen none) 0 P fn a'.tmps (FPost E K) a'.defers u w' := by
    intro u pv st' T' H' hu g1 g2 ⟨ms', hms', g3⟩ g4 g5
    rw [hms']
    refine leaves_marks_then (E := Env0.of w st H) hu ms' w' g3 g1 fun w2 k1 k2 k3 => ?_
    have kk : Keeps st' st' w' w2 := ⟨fun _ _ h => h, fun b o _ => k3 _⟩
    unfold LeavesInM
    refine ⟨hu, .inr ⟨fun e => by simp [fen, Fence.wide] at e, .func f, ⟨ptrVals ps⟩, f, ⟨ptrVals ps⟩, rfl, ?_, fun _ _ => trivial, ?_⟩⟩
    · have := hcb ⟨ptrVals ps⟩ w2
      simpa [invoke] using this
    · refine (g5.2 st' w2 (ptrVals ps) u k1.start (ptrs_rep ps) k2 ?_).mono ?_
      · cases pv with
        | none => exact g4
        | some v => obtain ⟨c, e1, e2⟩ := g4; exact ⟨c, e1, e2.mono kk⟩
      · rintro e u' w3 ⟨v, rfl, hset, st3, H3, c3, k, us, r, r1, r2, r3⟩
        simp only [hset]
        have c4 : Conc (Env0.of w st H) st3 H3 w3 := k1.trans c3
        have c5 : Conc E st3 H3 w3 := hc.trans c4
        refine leaves_marks (u := .returning) (by simp) ms w3 (hfr.keep c4) c5 fun w4 l1 l2 _ => ?_
        unfold LeavesIn
        have hk3 : Keeps st' st3 w2 w3 := ⟨c3.stle, c3.keep⟩
        have hk4 : Keeps st3 st3 w3 w4 := ⟨fun _ _ h => h, fun b o _ => l2 _⟩
        exact fin_res hty l1 (((g2.mono kk).mono hk3).mono hk4) ⟨k, us, r, r1, r2, r3⟩
  cases e with
  | outgrown => exact hp.elim
  | normal =>
    obtain ⟨st', T', H', x, g1, g2, g3, g4, g5⟩ := hp
    cases x <;> first | exact g4.elim | exact out .returning none st' T' H' (by simp) g1 g2 g3 rfl g5
  | ret =>
    obtain ⟨st', T', H', x, g1, g2, g3, g4, g5⟩ := hp
    cases x <;> first | exact g4.elim | exact out .returning none st' T' H' (by simp) g1 g2 g3 rfl g5
  | panic ch =>
    obtain ⟨st', T', H', x, g1, g2, g3, g4, g5⟩ := hp
    cases x <;> first | exact g4.elim | skip
    obtain ⟨c, rfl, g6⟩ := g4
    exact out (.panicking [{ v := c, recovered := false }]) (some _) st' T' H' (by simp) g1 g2 g3 ⟨c, rfl, g6⟩ g5
  | exit i =>
    obtain ⟨st', T', H', x, g1, g2, g3, g4, g5⟩ := hp
    cases x <;> first | exact g4.elim | exact g5.elim
  | goto l =>
    obtain ⟨st', T', H', x, g1, g2, g3, g4, g5⟩ := hp
    cases x <;> first | exact g4.elim | exact g5.elim

/-! An interface's value, asked for its type. -/
variable {N : Nat} {l0 : List Oper} {LD : LDs} {W : Bool} {l : List (Nat × Oper)} {n : Nat} {o : Oper}

theorem qta (hty : TyOk P ty) {x : Operand} {t a : TypeId} {ti : TyI} {fs : List (Nat × TypeId)} {v : AV} {d : Nat} (k : TR P N ty l0 LD W Q l ((d, .tuple [v, .bool true]) :: T) H) (hg : o.guard = none := by exact rfl)
    (ho : o.op = .typeAssert x t a true := by exact rfl) (hd : o.dst = some d := by exact rfl) (hN : Nat.ble (d + 1) N = true := by exact rfl) (hon : optN True T (tmpsOf o.op) := by (first | exact True.intro | exact ⟨id, True.intro⟩ | exact ⟨id, id, True.intro⟩ | exact ⟨id, id, id, True.intro⟩))
    (hx : opvL (tmpsOf o.op) T x = some (.iface a v) := by exact rfl) (ht : ty a = some ti := by exact rfl) (hk : ti.k = .struct fs := by exact rfl) : TR P N ty l0 LD W Q ((n, o) :: l) T H := by
  refine TR.sem (.tuple [v, .bool true]) d hg hd hN hon ?_ k
  intro st w ρ hρ
  have hrep := hρ x _ hx
  generalize hcv : ρ x = cv at hrep
  cases hrep with
  | iface _ _ y hy =>
    obtain ⟨⟨dd, hdd, hfit⟩, _⟩ := hty a ti ht
    rw [hk] at hfit
    obtain ⟨aa, rfl, _⟩ := hfit
    refine ⟨.tuple #[y, .bool true], ?_, ?_⟩
    · have hu : (underlying a).run P w = .ok (.struct aa) w := run_underlying hdd w
      simp [execOp, ho, Instr.typeAssert, hcv, hu]
    · exact .tuple _ _ rfl fun j u z hu hz => by
        match j, hu, hz with
        | 0, hu, hz => simp at hu hz; subst hu; subst hz; exact hy
        | 1, hu, hz => simp at hu hz; subst hu; subst hz; exact .bool true

end
end Go.Ab
