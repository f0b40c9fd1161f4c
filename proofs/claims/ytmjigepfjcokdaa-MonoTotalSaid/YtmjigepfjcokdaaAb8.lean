/-
  Calls: what a function does with abstract arguments in an abstract heap; the operation that calls; the function's own body.
-/
import Derived.Test.YtmjigepfjcokdaaAb7
namespace Go.Ab

def Callable (P : Program) (f : FuncId) : Prop := ∀ args w, (callFunc f args).run P w = .ok (.enter f args) w

def RepL (st : Stab) (w : World) (vs : List AV) (xs : List Value) : Prop :=
  xs.length = vs.length ∧ ∀ (j : Nat) (v : AV) (x : Value), vs[j]? = some v → xs[j]? = some x → Rep st w v x

theorem RepL.append {st : Stab} {w : World} {vs us : List AV} {xs ys : List Value} (h : RepL st w vs xs) (k : RepL st w us ys) : RepL st w (vs ++ us) (xs ++ ys) := by
  refine ⟨by simp [h.1, k.1], fun j v x hv hx => ?_⟩
  by_cases hj : j < vs.length
  · rw [List.getElem?_append_left hj] at hv
    rw [List.getElem?_append_left (by rw [h.1]; exact hj)] at hx
    exact h.2 j v x hv hx
  · rw [List.getElem?_append_right (by omega)] at hv
    rw [List.getElem?_append_right (by rw [h.1]; omega), h.1] at hx
    exact k.2 _ v x hv hx

theorem RepL.mono {st st' : Stab} {w w' : World} (k : Keeps st st' w w') {vs : List AV} {xs : List Value} (h : RepL st w vs xs) : RepL st' w' vs xs :=
  ⟨h.1, fun j v x hv hx => (h.2 j v x hv hx).mono k⟩

def ERes (st : Stab) (w : World) : Ending → ARes → Prop
  | .returned c, .ret v => Rep st w v c
  | .panicked ch, .panic v => ∃ c, ch = [{ v := c, recovered := false }] ∧ Rep st w v c
  | _, _ => False

def FPost (E : Env0) (K : ARes → AHeap → Prop) : Ending → World → Prop
  | .outgrown, _ => False
  | e, w => ∃ st r H, Conc E st H w ∧ ERes st w e r ∧ K r H

def ACalls (P : Program) (f : FuncId) (vs : List AV) (H : AHeap) (K : ARes → AHeap → Prop) : Prop :=
  Callable P f ∧ ∀ st w xs, Conc (Env0.of w st H) st H w → RepL st w vs xs → Calls P f ⟨xs⟩ w (FPost (Env0.of w st H) K)

theorem FPost.mono {E : Env0} {K K' : ARes → AHeap → Prop} (h : ∀ r H, K r H → K' r H) {e : Ending} {w : World} (hp : FPost E K e w) : FPost E K' e w := by
  cases e with
  | outgrown => exact hp.elim
  | returned v =>
    obtain ⟨st, r, H, h1, h2, h3⟩ := hp
    exact ⟨st, r, H, h1, h2, h _ _ h3⟩
  | panicked c =>
    obtain ⟨st, r, H, h1, h2, h3⟩ := hp
    exact ⟨st, r, H, h1, h2, h _ _ h3⟩

theorem ACalls.mono {P : Program} {f : FuncId} {vs : List AV} {H : AHeap} {K K' : ARes → AHeap → Prop} (h : ACalls P f vs H K) (hk : ∀ r H', K r H' → K' r H') : ACalls P f vs H K' :=
  ⟨h.1, fun st w xs hc hx => (h.2 st w xs hc hx).mono fun _ _ hp => FPost.mono hk hp⟩

section
variable {P : Program} {ty : TypeId → Option TyI} {o : Oper} {F : Operand → Option AV} {H : AHeap}

theorem hard_call {cf : Operand} {args : Array Operand} {ats : Array TypeId} {f : FuncId} {first captured vs : List AV} {Hc G : AHeap} {K : ARes → AHeap → Prop}
    (ho : o.op = .call { callee := .value cf, args := args, argTypes := ats }) (hf : F cf = some (.func (.func f) first captured)) (hm : mapF F args.toList = some vs) (hp : H.Perm (Hc ++ G))
    (h : ACalls P f (first ++ vs ++ captured) Hc K) : AHard P o F H fun r H' => ∃ Hc', H' = Hc' ++ G ∧ K r Hc' := by
  intro E st w a next Q hc hF hout hr hpn
  have hrep := hF cf _ hf
  obtain ⟨hl, hmr⟩ := mapF_sound hF _ _ hm
  generalize hcv : a.eval cf = cv at hrep
  cases hrep with
  | func _ _ _ f' c' hfl hcl hff hcc =>
    have hc1 := hc.perm hp
    have hc2 : Conc E st Hc w := hc1.drop
    have hcall := h.2 st w (f' ++ args.toList.map a.eval ++ c') hc2.start
      (RepL.append (RepL.append ⟨hfl, hff⟩ ⟨hl, hmr⟩) ⟨hcl, hcc⟩)
    have hargs : (⟨f'⟩ ++ args.map a.eval ++ ⟨c'⟩ : Array Value) = ⟨f' ++ args.toList.map a.eval ++ c'⟩ := by
      apply Array.ext'
      simp
    have hrun : (execOp a.eval o).run P w = .ok (.enter f ⟨f' ++ args.toList.map a.eval ++ c'⟩) w := by
      have := h.1 (⟨f'⟩ ++ args.map a.eval ++ ⟨c'⟩) w
      rw [hargs] at this
      simp only [execOp, ho, resolve, hcv, Deferred.ofValue, Sem.run_bind, Sem.run_pure, Result.andThen_ok, invoke, hargs, this]
    unfold Oper.wp
    rw [hrun, Oper.upon_enter]
    refine hcall.mono fun e w' hp' => ?_
    cases e with
    | outgrown => exact hp'.elim
    | returned v =>
      obtain ⟨st', r, Hc', h1, h2, h3⟩ := hp'
      cases r with
      | panic v => exact h2.elim
      | ret u =>
        obtain ⟨k1, k2⟩ := hc1.call h1
        exact hr st' w' u v _ k1 k2 h2 ⟨Hc', rfl, h3⟩
    | panicked ch =>
      obtain ⟨st', r, Hc', h1, h2, h3⟩ := hp'
      cases r with
      | ret u => exact h2.elim
      | panic u =>
        obtain ⟨c, rfl, h4⟩ := h2
        obtain ⟨k1, k2⟩ := hc1.call h1
        exact hpn st' w' u c _ k1 k2 h4 ⟨Hc', rfl, h3⟩

theorem hard_panic {x : Operand} {t : TypeId} {v : AV} (ho : o.op = .panic x) (hx : F x = some (.iface t v)) : AHard P o F H fun r H' => r = .panic (.iface t v) ∧ H' = H := by
  intro E st w a next Q hc hF _ _ hpn
  have hrep := hF x _ hx
  generalize hcv : a.eval x = cv at hrep
  cases hrep with
  | iface _ _ y hy =>
    have hrun : (execOp a.eval o).run P w = .halt (.panic (.iface t y)) w := by
      simp [execOp, ho, hcv, Instr.panic]
    unfold Oper.wp
    rw [hrun, Oper.upon_panic]
    exact hpn st w (.iface t v) (.iface t y) H hc (Keeps.refl st w) (.iface _ _ _ hy) ⟨rfl, rfl⟩

/-! The body. -/

def args0 : Nat → List AV → Tmps
  | _, [] => []
  | k, v :: vs => (k, v) :: args0 (k + 1) vs

theorem lk_args0 : ∀ (vs : List AV) (k t : Nat) (v : AV), lk (args0 k vs) t = some v → k ≤ t ∧ vs[t - k]? = some v
  | [], k, t, v, h => by simp [args0, lk] at h
  | u :: vs, k, t, v, h => by
    by_cases e : k = t
    · subst e
      simp [args0, lk] at h
      subst h
      simp
    · simp only [args0, lk, beq_ne e, cond_false] at h
      obtain ⟨h1, h2⟩ := lk_args0 vs (k + 1) t v h
      refine ⟨by omega, ?_⟩
      have : t - k = (t - (k + 1)) + 1 := by omega
      rw [this]
      simpa using h2

inductive ResV (ty : TypeId → Option TyI) (T : Tmps) (H : AHeap) : List ResultVar → List AV → Prop
  | nil : ResV ty T H [] []
  | tmp {t v rs vs} (h : lk T t = some v) (k : ResV ty T H rs vs) : ResV ty T H (.tmp t :: rs) (v :: vs)
  | cell {a t b off ty0 u ti p v rs vs} (h : lk T a = some (.ptr b off)) (ht : ty t = some ti) (hm : Ent.box b ty0 u ∈ H) (hv : boxAt ti u off = some (p, v)) (hp : p) (k : ResV ty T H rs vs) :
      ResV ty T H (.cell a t :: rs) (v :: vs)

def tup : List AV → AV
  | [v] => v
  | vs => .tuple vs

def fnQ (ty : TypeId → Option TyI) (rs : List ResultVar) (K : ARes → AHeap → Prop) : APost
  | .normal, T, H => ∃ k vs v, ResV ty T H rs vs ∧ Sub (tup vs) v ∧ K (.ret v) (H.drop k)
  | .ret, T, H => ∃ k vs v, ResV ty T H rs vs ∧ Sub (tup vs) v ∧ K (.ret v) (H.drop k)
  | .panic v, _, H => ∃ k, K (.panic v) (H.drop k)
  | _, _, _ => False

def resF (tmps : Array Value) : ResultVar → Sem Value
  | .tmp t => pure (tmps.getD t undef)
  | .cell p t => do loadVar t (← asAddr (tmps.getD p undef))

theorem results_eq (fn : Func) (tmps : Array Value) : results fn tmps = (do
    let vs ← fn.results.mapM (resF tmps)
    pure (if h : vs.size = 1 then vs[0] else .tuple vs)) := by
  unfold results
  congr 1

theorem run_resV (hty : TyOk P ty) {E : Env0} {N : Nat} {st : Stab} {w : World} {T : Tmps} {a : Act} (hc : Conc E st H w) (hf : FR N st w T a) {rs : List ResultVar} {vs : List AV} (h : ResV ty T H rs vs) :
    ∃ cs, (rs.mapM (resF a.tmps)).run P w = .ok cs w ∧ RepL st w vs cs := by
  induction h with
  | nil => exact ⟨[], by simp, rfl, by simp⟩
  | @tmp t v rs vs h _ ih =>
    obtain ⟨cs, h1, h2⟩ := ih
    obtain ⟨c, h3, h4⟩ := hf.val t v h
    refine ⟨c :: cs, ?_, ?_⟩
    · have h3' : (resF a.tmps (.tmp t)).run P w = .ok c w := by simp [resF, h3]
      simp only [List.mapM_cons, Sem.run_bind, h3', h1, Result.andThen_ok, Sem.run_pure]
    · exact RepL.append (vs := [v]) (xs := [c]) ⟨rfl, fun j u y hu hy => by
        match j, hu, hy with
        | 0, hu, hy => simp at hu hy; subst hu; subst hy; exact h4⟩ h2
  | @cell p t b off ty0 u ti pp v rs vs h ht hm hv hp _ ih =>
    obtain ⟨cs, h1, h2⟩ := ih
    obtain ⟨c, h3, h4⟩ := hf.val p _ h
    cases h4
    obtain ⟨x, h5, h6⟩ := boxAt_sound (P := P) hty ht (hc.ents _ hm) hv hp
    have h5' : (loadVar t ⟨b, off, none⟩).run P w = .ok x w := by
      simpa [Instr.loadAt, Instr.sureAddr] using h5
    refine ⟨x :: cs, ?_, ?_⟩
    · have h3' : (resF a.tmps (.cell p t)).run P w = .ok x w := by simp [resF, h3, asAddr, h5']
      simp only [List.mapM_cons, Sem.run_bind, h3', h1, Result.andThen_ok, Sem.run_pure]
    · exact RepL.append (vs := [v]) (xs := [x]) ⟨rfl, fun j u y hu hy => by
        match j, hu, hy with
        | 0, hu, hy => simp at hu hy; subst hu; subst hy; exact h6⟩ h2

theorem tup_rep {st : Stab} {w : World} {vs : List AV} {cs : List Value} (h : RepL st w vs cs) : Rep st w (tup vs) (if h : (Array.mk cs).size = 1 then (Array.mk cs)[0] else .tuple ⟨cs⟩) := by
  by_cases h1 : cs.length = 1
  · rw [dif_pos (by simpa using h1)]
    obtain ⟨c, rfl⟩ := List.length_eq_one_iff.1 h1
    have hl : vs.length = 1 := by rw [← h.1]; rfl
    obtain ⟨v, rfl⟩ := List.length_eq_one_iff.1 hl
    exact h.2 0 v c rfl rfl
  · rw [dif_neg (by simpa using h1)]
    have e : tup vs = .tuple vs := by
      have : vs.length ≠ 1 := by rw [← h.1]; exact h1
      unfold tup
      split
      · simp at this
      · rfl
    rw [e]
    exact .tuple vs cs h.1 h.2

theorem acalls_of_awp (hty : TyOk P ty) {f : FuncId} {fn : Func} {c : Code} {vs : List AV} {K : ARes → AHeap → Prop} (hcb : Callable P f) (hf : P.funcs[f]? = some fn) (hb : fn.body = some c)
    (hl : Nat.ble vs.length fn.ntmps = true) (h : AWP P fn.ntmps c (args0 0 vs) H (fnQ ty fn.results.toList K)) : ACalls P f vs H K := by
  refine ⟨hcb, fun st w xs hc hx => ?_⟩
  have hl' := Nat.le_of_ble_eq_true hl
  refine calls_of_wp hf hb (wp_mono (h (Env0.of w st H) st w _ hc ⟨?_, ?_⟩ rfl) ?_)
  · simp [hx.1]; omega
  · intro t v ht
    obtain ⟨_, h2⟩ := lk_args0 vs 0 t v ht
    simp only [Nat.sub_zero] at h2
    have htl : t < xs.length := by
      have := (List.getElem?_eq_some_iff.1 h2).1
      rw [hx.1]; exact this
    refine ⟨xs[t], ?_, hx.2 t v _ h2 (by simp [htl])⟩
    rw [Array.getElem?_append_left (by simpa using htl)]
    simp [htl]
  · intro e a' w' hp
    have fin : ∀ st' T' H' , Conc (Env0.of w st H) st' H' w' → FR fn.ntmps st' w' T' a' → (∃ k vs v, ResV ty T' H' fn.results.toList vs ∧ Sub (tup vs) v ∧ K (.ret v) (H'.drop k)) →
        ∃ v, (results fn a'.tmps).run P w' = .ok v w' ∧ FPost (Env0.of w st H) K (.returned v) w' := by
      rintro st' T' H' h1 h2 ⟨k, us, v, h3, h4, h5⟩
      obtain ⟨cs, h6, h7⟩ := run_resV (P := P) hty h1 h2 h3
      refine ⟨_, ?_, st', .ret v, H'.drop k, ?_, h4 _ _ _ (tup_rep h7), h5⟩
      · rw [results_eq, Sem.run_bind, Array.mapM_eq_mapM_toList, Sem.run_map, h6]
        rfl
      · have : H'.take k ++ H'.drop k = H' := List.take_append_drop k H'
        rw [← this] at h1
        exact h1.drop_front
    cases e with
    | outgrown => exact hp.elim
    | normal =>
      obtain ⟨st', T', H', x, h1, h2, h3, h4, h5⟩ := hp
      cases x <;> first | exact h4.elim | skip
      exact ⟨h3, fin st' T' H' h1 h2 h5⟩
    | ret =>
      obtain ⟨st', T', H', x, h1, h2, h3, h4, h5⟩ := hp
      cases x <;> first | exact h4.elim | skip
      exact ⟨h3, fin st' T' H' h1 h2 h5⟩
    | panic ch =>
      obtain ⟨st', T', H', x, h1, h2, h3, h4, h5⟩ := hp
      cases x <;> first | exact h4.elim | skip
      rename_i v
      obtain ⟨k, h6⟩ := h5
      refine ⟨h3, st', .panic v, H'.drop k, ?_, h4, h6⟩
      have : H'.take k ++ H'.drop k = H' := List.take_append_drop k H'
      rw [← this] at h1
      exact h1.drop_front
    | exit id =>
      obtain ⟨st', T', H', x, h1, h2, h3, h4, h5⟩ := hp
      cases x <;> first | exact h4.elim | exact h5.elim
    | goto l =>
      obtain ⟨st', T', H', x, h1, h2, h3, h4, h5⟩ := hp
      cases x <;> first | exact h4.elim | exact h5.elim

end
end Go.Ab
