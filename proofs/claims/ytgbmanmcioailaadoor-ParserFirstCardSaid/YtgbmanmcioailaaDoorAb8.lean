/-
  Calls: what a function does with abstract arguments in an abstract heap; the operation that calls; the function's own body.
-/
import Derived.Test.YtgbmanmcioailaaDoorAb7
namespace Go.Ab

def Callable (P : Program) (f : FuncId) : Prop := ∀ args w, (callFunc f args).run P w = .ok (.enter f args) w

def RepL (st : Stab) (w : World) (vs : List AV) (xs : List Value) : Prop :=
  xs.length = vs.length ∧ ∀ (j : Nat) (v : AV) (x : Value), vs[j]? = some v → xs[j]? = some x → Rep st w v x

theorem RepL.append {st : Stab} {w : World} {vs us : List AV} {xs ys : List Value} (h : RepL st w vs xs) (k : RepL st w us ys) : RepL st w (vs ++ us) (xs ++ ys) := by
  refine ⟨by simp [h.1, k.1], fun j v x hv hx => ?_⟩
  by_cases hj : j < vs.length
  · rw [List.getElem?_append_left hj] at hv
    rw [List.getElem?_append_left (by rw [h.1]; exact hj)] at hx
    exact h.2 j v x hv hx
  · rw [List.getElem?_append_right (by omega)] at hv
    rw [List.getElem?_append_right (by rw [h.1]; omega), h.1] at hx
    exact k.2 _ v x hv hx

theorem RepL.mono {st st' : Stab} {w w' : World} (k : Keeps st st' w w') {vs : List AV} {xs : List Value} (h : RepL st w vs xs) : RepL st' w' vs xs :=
  ⟨h.1, fun j v x hv hx => (h.2 j v x hv hx).mono k⟩

def ERes (st : Stab) (w : World) : Ending → ARes → Prop
  | .returned c, .ret v => Rep st w v c
  | .panicked ch, .panic v => ∃ c, ch = [{ v := c, recovered := false }] ∧ Rep st w v c
  | _, _ => False

def FPost (E : Env0) (K : ARes → AHeap → Prop) : Ending → World → Prop
  | .outgrown, _ => False
  | e, w => ∃ st r H, Conc E st H w ∧ ERes st w e r ∧ K r H

def ACalls (P : Program) (f : FuncId) (vs : List AV) (H : AHeap) (K : ARes → AHeap → Prop) : Prop :=
  Callable P f ∧ ∀ st w xs, Conc (Env0.of w st H) st H w → RepL st w vs xs → Gl H w → Calls P f ⟨xs⟩ w (FPost (Env0.of w st H) K)

theorem FPost.mono {E : Env0} {K K' : ARes → AHeap → Prop} (h : ∀ r H, K r H → K' r H) {e : Ending} {w : World} (hp : FPost E K e w) : FPost E K' e w := by
  cases e with
  | outgrown => exact hp.elim
  | returned v =>
    obtain ⟨st, r, H, h1, h2, h3⟩ := hp
    exact ⟨st, r, H, h1, h2, h _ _ h3⟩
  | panicked c =>
    obtain ⟨st, r, H, h1, h2, h3⟩ := hp
    exact ⟨st, r, H, h1, h2, h _ _ h3⟩

theorem ACalls.mono {P : Program} {f : FuncId} {vs : List AV} {H : AHeap} {K K' : ARes → AHeap → Prop} (h : ACalls P f vs H K) (hk : ∀ r H', K r H' → K' r H') : ACalls P f vs H K' :=
  ⟨h.1, fun st w xs hc hx hg => (h.2 st w xs hc hx hg).mono fun _ _ hp => FPost.mono hk hp⟩

section
variable {P : Program} {ty : TypeId → Option TyI} {o : Oper} {F : Operand → Option AV} {H : AHeap}

theorem calls_fen {r : Option Nat} {n : Nat} {f : FuncId} {args : Array Value} {w : World} {R : Ending → World → Prop} (h : Calls P f args w R) : CallsIn (fen r) n P f args w R := by
  cases r with
  | none => exact callsIn_wide.2 h
  | some l => exact (callsIn_wide.2 h : CallsIn Fence.wide n P f args w R)

theorem hard_call {cf : Operand} {args : Array Operand} {ats : Array TypeId} {f : FuncId} {first captured vs : List AV} {Hc G : AHeap} {K : ARes → AHeap → Prop}
    (ho : o.op = .call { callee := .value cf, args := args, argTypes := ats }) (hf : F cf = some (.func (.func f) first captured)) (hm : mapF F args.toList = some vs) (hp : H.Perm (Hc ++ G))
    (h : ACalls P f (first ++ vs ++ captured) Hc K) : AHard P o F H fun r H' => ∃ Hc', H' = Hc' ++ G ∧ K r Hc' := by
  intro E st w a r next Q hc hF hout hr hpn
  have hrep := hF cf _ hf
  obtain ⟨hl, hmr⟩ := mapF_sound hF _ _ hm
  generalize hcv : a.eval cf = cv at hrep
  cases hrep with
  | func _ _ _ f' c' hfl hcl hff hcc =>
    have hc1 := hc.perm hp
    have hc2 : Conc E st Hc w := hc1.drop
    have hcall := h.2 st w (f' ++ args.toList.map a.eval ++ c') hc2.start
      (RepL.append (RepL.append ⟨hfl, hff⟩ ⟨hl, hmr⟩) ⟨hcl, hcc⟩) (hout.sub fun _ ⟨e, he, hk⟩ => ⟨e, hp.mem_iff.2 (List.mem_append.2 (.inl he)), hk⟩)
    have hargs : (⟨f'⟩ ++ args.map a.eval ++ ⟨c'⟩ : Array Value) = ⟨f' ++ args.toList.map a.eval ++ c'⟩ := by
      apply Array.ext'
      simp
    have hrun : (execOp a.eval o).run P w = .ok (.enter f ⟨f' ++ args.toList.map a.eval ++ c'⟩) w := by
      have := h.1 (⟨f'⟩ ++ args.map a.eval ++ ⟨c'⟩) w
      rw [hargs] at this
      simp only [execOp, ho, resolve, hcv, Deferred.ofValue, Sem.run_bind, Sem.run_pure, Result.andThen_ok, invoke, hargs, this]
    refine ⟨fun _ _ => trivial, ?_⟩
    rw [Oper.semAt_eq _ _ _ (by simp [ho]), hrun, Oper.uponIn_enter]
    refine ⟨fun h => by simp [fen, Fence.wide] at h, (calls_fen hcall).mono fun e w' hp' => ?_⟩
    cases e with
    | outgrown => exact hp'.elim
    | returned v =>
      obtain ⟨st', r, Hc', h1, h2, h3⟩ := hp'
      cases r with
      | panic v => exact h2.elim
      | ret u =>
        obtain ⟨k1, k2⟩ := hc1.call h1
        exact hr st' w' u v _ k1 k2 h2 ⟨Hc', rfl, h3⟩
    | panicked ch =>
      obtain ⟨st', r, Hc', h1, h2, h3⟩ := hp'
      cases r with
      | ret u => exact h2.elim
      | panic u =>
        obtain ⟨c, rfl, h4⟩ := h2
        obtain ⟨k1, k2⟩ := hc1.call h1
        exact hpn st' w' u c _ k1 k2 h4 ⟨Hc', rfl, h3⟩

theorem hard_panic {x : Operand} {t : TypeId} {v : AV} (ho : o.op = .panic x) (hx : F x = some (.iface t v)) : AHard P o F H fun r H' => r = .panic (.iface t v) ∧ H' = H := by
  intro E st w a r next Q hc hF _ _ hpn
  have hrep := hF x _ hx
  generalize hcv : a.eval x = cv at hrep
  cases hrep with
  | iface _ _ y hy =>
    have hrun : (execOp a.eval o).run P w = .halt (.panic (.iface t y)) w := by
      simp [execOp, ho, hcv, Instr.panic]
    refine ⟨fun _ _ => trivial, ?_⟩
    rw [Oper.semAt_eq _ _ _ (by simp [ho]), hrun, Oper.uponIn_panic]
    exact hpn st w (.iface t v) (.iface t y) H hc (Keeps.refl st w) (.iface _ _ _ hy) ⟨rfl, rfl⟩

/-! The body. -/

def args0 : Nat → List AV → Tmps
  | _, [] => []
  | k, v :: vs => (k, v) :: args0 (k + 1) vs

theorem lk_args0 : ∀ (vs : List AV) (k t : Nat) (v : AV), lk (args0 k vs) t = some v → k ≤ t ∧ vs[t - k]? = some v
  | [], k, t, v, h => by simp [args0, lk] at h
  | u :: vs, k, t, v, h => by
    by_cases e : k = t
    · subst e
      simp [args0, lk] at h
      subst h
      simp
    · simp only [args0, lk, beq_ne e, cond_false] at h
      obtain ⟨h1, h2⟩ := lk_args0 vs (k + 1) t v h
      refine ⟨by omega, ?_⟩
      have : t - k = (t - (k + 1)) + 1 := by omega
      rw [this]
      simpa using h2

inductive ResV (ty : TypeId → Option TyI) (T : Tmps) (H : AHeap) : List ResultVar → List AV → Prop
  | nil : ResV ty T H [] []
  | tmp {t v rs vs} (h : lk T t = some v) (k : ResV ty T H rs vs) : ResV ty T H (.tmp t :: rs) (v :: vs)
  | cell {a t b off ty0 u ti p v rs vs} (h : lk T a = some (.ptr b off)) (ht : ty t = some ti) (hm : Ent.box b ty0 u ∈ H) (hv : boxAt ti u off = some (p, v)) (hp : p) (k : ResV ty T H rs vs) :
      ResV ty T H (.cell a t :: rs) (v :: vs)

def tup : List AV → AV
  | [v] => v
  | vs => .tuple vs

def fnQ (ty : TypeId → Option TyI) (rs : List ResultVar) (K : ARes → AHeap → Prop) : APost
  | .normal, T, H => ∃ k vs v, ResV ty T H rs vs ∧ Sub (tup vs) v ∧ K (.ret v) (H.drop k)
  | .ret, T, H => ∃ k vs v, ResV ty T H rs vs ∧ Sub (tup vs) v ∧ K (.ret v) (H.drop k)
  | .panic v, _, H => ∃ k, K (.panic v) (H.drop k)
  | _, _, _ => False

def resF (tmps : Array Value) : ResultVar → Sem Value
  | .tmp t => pure (tmps.getD t undef)
  | .cell p t => do loadVar t (← asAddr (tmps.getD p undef))

theorem results_eq (fn : Func) (tmps : Array Value) : results fn tmps = (do
    let vs ← fn.results.mapM (resF tmps)
    pure (if h : vs.size = 1 then vs[0] else .tuple vs)) := by
  unfold results
  congr 1

theorem run_resV (hty : TyOk P ty) {E : Env0} {N : Nat} {st : Stab} {w : World} {T : Tmps} {a : Act} (hc : Conc E st H w) (hf : FR N st w T a) {rs : List ResultVar} {vs : List AV} (h : ResV ty T H rs vs) :
    ∃ cs, (rs.mapM (resF a.tmps)).run P w = .ok cs w ∧ RepL st w vs cs := by
  induction h with
  | nil => exact ⟨[], by simp, rfl, by simp⟩
  | @tmp t v rs vs h _ ih =>
    obtain ⟨cs, h1, h2⟩ := ih
    obtain ⟨c, h3, h4⟩ := hf.val t v h
    refine ⟨c :: cs, ?_, ?_⟩
    · have h3' : (resF a.tmps (.tmp t)).run P w = .ok c w := by simp [resF, h3]
      simp only [List.mapM_cons, Sem.run_bind, h3', h1, Result.andThen_ok, Sem.run_pure]
    · exact RepL.append (vs := [v]) (xs := [c]) ⟨rfl, fun j u y hu hy => by
        match j, hu, hy with
        | 0, hu, hy => simp at hu hy; subst hu; subst hy; exact h4⟩ h2
  | @cell p t b off ty0 u ti pp v rs vs h ht hm hv hp _ ih =>
    obtain ⟨cs, h1, h2⟩ := ih
    obtain ⟨c, h3, h4⟩ := hf.val p _ h
    cases h4
    obtain ⟨x, h5, h6⟩ := boxAt_sound (P := P) hty ht (hc.ents _ hm) hv hp
    have h5' : (loadVar t ⟨b, off, none⟩).run P w = .ok x w := by
      simpa [Instr.loadAt, Instr.sureAddr] using h5
    refine ⟨x :: cs, ?_, ?_⟩
    · have h3' : (resF a.tmps (.cell p t)).run P w = .ok x w := by simp [resF, h3, asAddr, h5']
      simp only [List.mapM_cons, Sem.run_bind, h3', h1, Result.andThen_ok, Sem.run_pure]
    · exact RepL.append (vs := [v]) (xs := [x]) ⟨rfl, fun j u y hu hy => by
        match j, hu, hy with
        | 0, hu, hy => simp at hu hy; subst hu; subst hy; exact h6⟩ h2

theorem tup_rep {st : Stab} {w : World} {vs : List AV} {cs : List Value} (h : RepL st w vs cs) : Rep st w (tup vs) (if h : (Array.mk cs).size = 1 then (Array.mk cs)[0] else .tuple ⟨cs⟩) := by
  by_cases h1 : cs.length = 1
  · rw [dif_pos (by simpa using h1)]
    obtain ⟨c, rfl⟩ := List.length_eq_one_iff.1 h1
    have hl : vs.length = 1 := by rw [← h.1]; rfl
    obtain ⟨v, rfl⟩ := List.length_eq_one_iff.1 hl
    exact h.2 0 v c rfl rfl
  · rw [dif_neg (by simpa using h1)]
    have e : tup vs = .tuple vs := by
      have : vs.length ≠ 1 := by rw [← h.1]; exact h1
      unfold tup
      split
      · simp at this
      · rfl
    rw [e]
    exact .tuple vs cs h.1 h.2

theorem cell_putObj {w : World} {b : Nat} {x y : Obj} (h : w.heap[b]? = some x) (hx : ∀ c t f, x ≠ .cells c t f) (hy : ∀ c t f, y ≠ .cells c t f) (p : Addr) : (w.putObj b y).cell? p = w.cell? p := by
  unfold World.cell?
  by_cases e : p.block = b
  · have hlt := (Array.getElem?_eq_some_iff.1 h).1
    rw [e, World.putObj_heap_same hlt, h]
    cases x <;> cases y <;> first | rfl | exact absurd rfl (hx _ _ _) | exact absurd rfl (hy _ _ _)
  · rw [World.putObj_heap_other e]

/-- A block that is no cells, new and not owned, turns. -/
theorem Conc.putObj {E : Env0} {st : Stab} {H : AHeap} {w : World} (h : Conc E st H w) {b : Nat} {x y : Obj} (hb : w.heap[b]? = some x) (hx : ∀ c t f, x ≠ .cells c t f) (hy : ∀ c t f, y ≠ .cells c t f)
    (hnew : E.O b ∨ E.w0.heap.size ≤ b) (hno : ¬ AHeap.owns H b) : Conc E st H (w.putObj b y) := by
  have hcell := cell_putObj (y := y) hb hx hy
  have hk : Keeps st st w (w.putObj b y) := ⟨fun _ _ h => h, fun b' o _ => hcell _⟩
  refine ⟨h.os, h.tape, h.output, by simpa using h.size, ?_, fun b' o hs => (hcell _).trans (h.keep b' o hs), h.stle, h.stnew, fun b' o hs => by simpa using h.stlt b' o hs, h.ownnew, fun k hk => by simpa using h.ownlt k hk, ?_, h.sep⟩
  · intro k hlt hO
    have : k ≠ b := by
      rintro rfl
      rcases hnew with h1 | h1
      · exact hO h1
      · omega
    rw [World.putObj_heap_other this]
    exact h.old k hlt hO
  · intro e he
    refine Ent.holds_keep hk (h.ents e he) (fun k hk' => ?_) fun _ _ _ h => h
    have : k ≠ b := by
      rintro rfl
      exact hno ⟨e, he, hk'⟩
    exact World.putObj_heap_other this

/-- The marks are come to, one by one: nothing else turns. -/
theorem leaves_marks {E : Env0} {fn : Func} {a : Array Value} {R : Ending → World → Prop} {st : Stab} {H : AHeap} {u : FrameMode} (hu : u ≠ .run) :
    ∀ (ds : List Deferred) (w : World), Fr0 none E.w0.heap.size H w ds → Conc E st H w →
    (∀ w', Conc E st H w' → (∀ p, w'.cell? p = w.cell? p) → (∀ k, AHeap.owns H k → w'.heap[k]? = w.heap[k]?) → LeavesIn Fence.wide 0 P fn a R [] u w') → LeavesInM Fence.wide 0 P fn a R ds u w
  | [], w, _, hc, h => by
    unfold LeavesInM
    exact h w hc (fun _ => rfl) (fun _ _ => rfl)
  | d :: ds, w, hf, hc, h => by
    obtain ⟨b, rfl, h2, h3, h4⟩ := hf.marks d (by simp)
    have hnd := List.nodup_cons.1 hf.nodup
    unfold LeavesInM
    refine ⟨hu, .inl ⟨b, _, rfl, run_takeDeferred h2, ?_⟩⟩
    have hc' : Conc E st H (w.putObj b (.deferred none)) := hc.putObj h2 (by simp) (by simp) (.inr h4) h3
    refine leaves_marks hu ds _ ⟨fun d hd => ?_, hnd.2, by simpa using hf.size, fun l hl => (by cases hl), hf.gl.putObj h2 (by simp)⟩ hc' fun w' g1 g2 g3 => h w' g1 (fun p => (g2 p).trans (cell_putObj h2 (by simp) (by simp) p)) fun k hk => (g3 k hk).trans ?_
    · obtain ⟨b', k1, k2, k3, k4⟩ := hf.marks d (by simp [hd])
      refine ⟨b', k1, ?_, k3, k4⟩
      rw [World.putObj_heap_other]
      · exact k2
      · rintro rfl
        exact hnd.1 (k1 ▸ hd)
    · exact World.putObj_heap_other fun e => h3 (e ▸ hk)

theorem acalls_of_awp (hty : TyOk P ty) {f : FuncId} {fn : Func} {c : Code} {vs : List AV} {K : ARes → AHeap → Prop} (hcb : Callable P f) (hf : P.funcs[f]? = some fn) (hb : fn.body = some c)
    (hl : Nat.ble vs.length fn.ntmps = true) (h : AWP P fn.ntmps c (args0 0 vs) H (fnQ ty fn.results.toList K)) : ACalls P f vs H K := by
  refine ⟨hcb, fun st w xs hc hx hg => ?_⟩
  have hl' := Nat.le_of_ble_eq_true hl
  refine callsIn_wide.1 (callsIn_of_wp_marks (n := 0) hf hb trivial (wpIn_mono (h (Env0.of w st H) st w _ none ⟨w.heap.size, []⟩ hc ⟨?_, ?_⟩ (Fr.none_nil hg)) ?_))
  · simp [hx.1]; omega
  · intro t v ht
    obtain ⟨_, h2⟩ := lk_args0 vs 0 t v ht
    simp only [Nat.sub_zero] at h2
    have htl : t < xs.length := by
      have := (List.getElem?_eq_some_iff.1 h2).1
      rw [hx.1]; exact this
    refine ⟨xs[t], ?_, hx.2 t v _ h2 (by simp [htl])⟩
    rw [Array.getElem?_append_left (by simpa using htl)]
    simp [htl]
  · intro e a' w' hp
    have fin : ∀ w2 st' T' H' , Conc (Env0.of w st H) st' H' w2 → FR fn.ntmps st' w2 T' a' → (∃ k vs v, ResV ty T' H' fn.results.toList vs ∧ Sub (tup vs) v ∧ K (.ret v) (H'.drop k)) →
        ∃ v, (results fn a'.tmps).run P w2 = .ok v w2 ∧ FPost (Env0.of w st H) K (.returned v) w2 := by
      rintro w2 st' T' H' h1 h2 ⟨k, us, v, h3, h4, h5⟩
      obtain ⟨cs, h6, h7⟩ := run_resV (P := P) hty h1 h2 h3
      refine ⟨_, ?_, st', .ret v, H'.drop k, ?_, h4 _ _ _ (tup_rep h7), h5⟩
      · rw [results_eq, Sem.run_bind, Array.mapM_eq_mapM_toList, Sem.run_map, h6]
        rfl
      · have : H'.take k ++ H'.drop k = H' := List.take_append_drop k H'
        rw [← this] at h1
        exact h1.drop_front
    have out : ∀ (u : FrameMode), u ≠ .run → ∀ st' T' H' , Conc (Env0.of w st H) st' H' w' → FR fn.ntmps st' w' T' a' → Fr none ⟨w.heap.size, []⟩ H' w' a'.defers →
        (∀ w2, Conc (Env0.of w st H) st' H' w2 → Keeps st' st' w' w2 → LeavesIn Fence.wide 0 P fn a'.tmps (FPost (Env0.of w st H) K) [] u w2) →
        LeavesInM Fence.wide 0 P fn a'.tmps (FPost (Env0.of w st H) K) a'.defers u w' :=
      fun u hu st' T' H' h1 h2 ⟨ms, hms, h3⟩ h4 => by
        rw [hms, List.append_nil]
        exact leaves_marks hu _ w' h3 h1 fun w2 g1 g2 _ => h4 w2 g1 ⟨fun _ _ h => h, fun b o _ => g2 _⟩
    cases e with
    | outgrown => exact hp.elim
    | normal =>
      obtain ⟨st', T', H', x, h1, h2, h3, h4, h5⟩ := hp
      cases x <;> first | exact h4.elim | skip
      exact out .returning (by simp) st' T' H' h1 h2 h3 fun w2 g1 g2 => by
        unfold LeavesIn
        exact fin w2 st' T' H' g1 (h2.mono g2) h5
    | ret =>
      obtain ⟨st', T', H', x, h1, h2, h3, h4, h5⟩ := hp
      cases x <;> first | exact h4.elim | skip
      exact out .returning (by simp) st' T' H' h1 h2 h3 fun w2 g1 g2 => by
        unfold LeavesIn
        exact fin w2 st' T' H' g1 (h2.mono g2) h5
    | panic ch =>
      obtain ⟨st', T', H', x, h1, h2, h3, h4, h5⟩ := hp
      cases x <;> first | exact h4.elim | skip
      rename_i v
      obtain ⟨k, h6⟩ := h5
      refine out (.panicking ch) (by simp) st' T' H' h1 h2 h3 fun w2 g1 g2 => ?_
      unfold LeavesIn
      obtain ⟨c, rfl, h7⟩ := h4
      refine ⟨st', .panic v, H'.drop k, ?_, ⟨c, rfl, h7.mono g2⟩, h6⟩
      have : H'.take k ++ H'.drop k = H' := List.take_append_drop k H'
      rw [← this] at g1
      exact g1.drop_front
    | exit id =>
      obtain ⟨st', T', H', x, h1, h2, h3, h4, h5⟩ := hp
      cases x <;> first | exact h4.elim | exact h5.elim
    | goto l =>
      obtain ⟨st', T', H', x, h1, h2, h3, h4, h5⟩ := hp
      cases x <;> first | exact h4.elim | exact h5.elim

end
end Go.Ab
