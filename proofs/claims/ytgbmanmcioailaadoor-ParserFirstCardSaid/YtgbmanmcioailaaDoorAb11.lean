/-
  Regions that draw their order: a chain of steps in one order stands for all, where what acts is in a fixed place.
-/
import Derived.Test.YtgbmanmcioailaaDoorAb10
import Derived.StillTail
namespace Go.Ab

def readsOf (l0 : List Oper) (o : Oper) : List Nat := tmpsOf o.op ++ (match o.guard with
  | some (j, _) => (gdst l0 j).toList
  | none => [])

def putR (d : Option Tmp) (r : Option AV) (T : Tmps) : Tmps :=
  match d with
  | some d => match r with
    | some v => (d, v) :: T
    | none => T
  | none => T

section
variable {P : Program} {N : Nat} {ty : TypeId → Option TyI} {l0 : List Oper} {LD : LDs} {Q : APost}

def Step (P : Program) (N : Nat) (l0 : List Oper) (o : Oper) (T : Tmps) (H : AHeap) (K : Option AV → AHeap → Prop) (Q : APost) : Prop :=
  ∀ E st w a ro B0 next, Conc E st H w → a.tmps.size = N → Fr ro B0 H w a.defers → (∀ t ∈ readsOf l0 o, ∀ v, lk T t = some v → ∃ c, a.tmps[t]? = some c ∧ Rep st w v c) →
    (∀ st' w' c r H', Conc E st' H' w' → Fr ro B0 H' w' a.defers → Keeps st st' w w' → (∀ v, r = some v → Rep st' w' v c) → K r H' → next (a.put o.dst c) w') →
    (if Region.wanted o (yielded l0.toArray a.tmps) then o.wpIn (fen ro) 0 P a w next (Post E N ro B0 Q) else next (a.put o.dst undef) w)

def dstIs : Option Nat → Nat → Bool
  | none, _ => false
  | some d, t => Nat.beq d t

/-- The frame without what the region writes. -/
def keepT (l0 : List Oper) (T : Tmps) : Tmps := T.filter fun p => l0.all fun o => !dstIs o.dst p.1

/-- What must hold behind a region: a panic leaves the frame without what the region writes. -/
def pQ (l0 : List Oper) (Q : APost) : APost
  | .panic v, T, H => Q (.panic v) (keepT l0 T) H
  | x, T, H => Q x T H

theorem pQ_normal {l0 : List Oper} {Q : APost} {T : Tmps} {H : AHeap} (h : Q .normal T H) : pQ l0 Q .normal T H := h
theorem pQ_panic {l0 : List Oper} {Q : APost} {v : AV} {T : Tmps} {H : AHeap} (h : Q (.panic v) (keepT l0 T) H) : pQ l0 Q (.panic v) T H := h

theorem lk_keepT {l0 : List Oper} : ∀ {T : Tmps} {t : Nat} {v : AV}, lk (keepT l0 T) t = some v → lk T t = some v ∧ ∀ o ∈ l0, o.dst ≠ some t
  | [], t, v, h => by simp [keepT, lk] at h
  | (d, u) :: T, t, v, h => by
    by_cases e : d = t
    · subst e
      by_cases hd : (l0.all fun o => !dstIs o.dst d) = true
      · have h' : lk ((d, u) :: keepT l0 T) d = some v := by
          have : keepT l0 ((d, u) :: T) = (d, u) :: keepT l0 T := List.filter_cons_of_pos hd
          rwa [this] at h
        refine ⟨by simpa [lk] using h', fun o ho e => ?_⟩
        have := List.all_eq_true.1 hd o ho
        rw [e] at this
        simp [dstIs] at this
      · have : keepT l0 ((d, u) :: T) = keepT l0 T := List.filter_cons_of_neg hd
        rw [this] at h
        obtain ⟨_, h2⟩ := lk_keepT h
        refine absurd (List.all_eq_true.2 fun o ho => ?_) hd
        have := h2 o ho
        cases hod : o.dst with
        | none => rfl
        | some x =>
          have : x ≠ d := fun e => this (by rw [hod, e])
          simp [dstIs, beq_ne this]
    · have h' : lk (keepT l0 T) t = some v := by
        by_cases hd : (l0.all fun o => !dstIs o.dst d) = true
        · have : keepT l0 ((d, u) :: T) = (d, u) :: keepT l0 T := List.filter_cons_of_pos hd
          rw [this] at h
          simpa [lk, beq_ne e] using h
        · have : keepT l0 ((d, u) :: T) = keepT l0 T := List.filter_cons_of_neg hd
          rwa [this] at h
      obtain ⟨h1, h2⟩ := lk_keepT h'
      exact ⟨by simpa [lk, beq_ne e] using h1, h2⟩

/-- A step that acts, and may panic. -/
def StepH (P : Program) (N : Nat) (l0 : List Oper) (o : Oper) (T : Tmps) (H : AHeap) (K : Option AV → AHeap → Prop) (Q : APost) : Prop :=
  ∀ E st w a ro B0 next, Conc E st H w → a.tmps.size = N → Fr ro B0 H w a.defers → (∀ t ∈ readsOf l0 o, ∀ v, lk T t = some v → ∃ c, a.tmps[t]? = some c ∧ Rep st w v c) →
    (∀ t v, lk (keepT l0 T) t = some v → ∃ c, a.tmps[t]? = some c ∧ Rep st w v c) →
    (∀ st' w' c r H', Conc E st' H' w' → Fr ro B0 H' w' a.defers → Keeps st st' w w' → (∀ v, r = some v → Rep st' w' v c) → K r H' → next (a.put o.dst c) w') →
    (if Region.wanted o (yielded l0.toArray a.tmps) then o.wpIn (fen ro) 0 P a w next (Post E N ro B0 Q) else next (a.put o.dst undef) w)

theorem wanted_in {ro : Option Nat} {o : Oper} {w : World} {a : Act} {X Y : Prop} {b : Bool} (h : if b then X else Y) : if b then X else (∀ f, o.about P w a.eval = some f → (fen ro).fn f) ∧ Y := by
  cases b
  · exact ⟨fun _ _ => trivial, h⟩
  · exact h

theorem yielded_at {st : Stab} {w : World} {T : Tmps} {a : Act} {j dj : Nat} {x : Bool} {L : List Nat} (hf : ∀ t ∈ L, ∀ v, lk T t = some v → ∃ c, a.tmps[t]? = some c ∧ Rep st w v c) (hm : dj ∈ L)
    (hj : gdst l0 j = some dj) (hb : lk T dj = some (.bool x)) : yielded l0.toArray a.tmps j = some x := by
  obtain ⟨c, h1, h2⟩ := hf dj hm _ hb
  obtain rfl := h2.bool_eq
  unfold gdst at hj
  simp [yielded, hj, h1]

theorem off_at {st : Stab} {w : World} {T : Tmps} {a : Act} {o : Oper} {j dj : Nat} {b : Bool} {u : AV} {L : List Nat} (hf : ∀ t ∈ L, ∀ v, lk T t = some v → ∃ c, a.tmps[t]? = some c ∧ Rep st w v c) (hm : dj ∈ L)
    (hg : o.guard = some (j, b)) (hj : gdst l0 j = some dj) (hb : lk T dj = some u) (hx : isOff u b = true) : Region.wanted o (yielded l0.toArray a.tmps) = false := by
  obtain ⟨c, h1, h2⟩ := hf dj hm _ hb
  have := isOff_rep hx h2
  unfold gdst at hj
  simp only [Region.wanted, hg, yielded, List.getElem?_toArray, hj, Option.bind_some, h1]
  exact this

theorem wanted_at {st : Stab} {w : World} {T : Tmps} {a : Act} {o : Oper} {j dj : Nat} {g x b : Bool} {L : List Nat} (hf : ∀ t ∈ L, ∀ v, lk T t = some v → ∃ c, a.tmps[t]? = some c ∧ Rep st w v c) (hm : dj ∈ L)
    (hg : o.guard = some (j, g)) (hj : gdst l0 j = some dj) (hb : gcond (lk T dj) g = some (x, b)) : Region.wanted o (yielded l0.toArray a.tmps) = decide (x = b) := by
  cases hl : lk T dj with
  | none => rw [hl] at hb; cases hb
  | some u =>
    rw [hl] at hb
    obtain ⟨c, h1, h2⟩ := hf dj hm _ hl
    have := gcond_rep hb h2
    unfold gdst at hj
    simp only [Region.wanted, hg, yielded, List.getElem?_toArray, hj, Option.bind_some, h1]
    exact this

theorem reads_g {o : Oper} {j dj : Nat} {b : Bool} (hg : o.guard = some (j, b)) (hj : gdst l0 j = some dj) : dj ∈ readsOf l0 o := by simp [readsOf, hg, hj]
theorem reads_t {o : Oper} {t : Nat} (h : t ∈ tmpsOf o.op) : t ∈ readsOf l0 o := by simp [readsOf, h]

/-- The soft step, at whatever heap that holds what it needs. -/
theorem TR.soft (hty : TyOk P ty) : ∀ {L : List (Nat × Oper)} {T : Tmps} {H : AHeap}, TR P N ty l0 LD false Q L T H → ∀ {i : Nat} {o : Oper} {l : List (Nat × Oper)}, L = (i, o) :: l → (hardOp o.op && !(isCallV o.op && LD.sc i)) = false →
    ∃ (res : Option AV) (need : AHeap), (∀ H', (∀ e ∈ need, e ∈ H') → ∀ Q2, Step P N l0 o T H' (fun r H2 => r = res ∧ H2 = H') Q2) ∧ (∀ e ∈ need, e ∈ H ∧ ∃ b t u, e = .box b t u ∧ LD.ld i t = true) ∧ True ∧
      TR P N ty l0 LD false Q l (putR o.dst res T) H ∧ (res = none → ∀ d, o.dst = some d → lk T d = none) := by
  intro L T H h
  induction h with
  | nil h => intro i o l e; cases e
  | @pure i o l T H p v d hg hdst hN hv ho hp k _ =>
    intro i' o' l' e hs
    cases e
    refine ⟨some v, [], fun H' _ Q2 E st w a ro B0 next hc hsz hd hf hk => ?_, by simp, by simp, by rw [hdst]; exact k, by simp⟩
    obtain ⟨c, h1, h2⟩ := aeval_sound (P := P) hty (fun x u hx => opvL_rep (N := N) (fun t ht => hf t (reads_t ht)) ho trivial hsz hx) hv hp
    rw [if_pos (wanted_none hg)]
    exact (wp_of_value h1 (hk st w c (some v) H' hc hd (Keeps.refl _ _) (fun u hu => by cases hu; exact h2) ⟨rfl, rfl⟩))
  | @sem i o l T H v d hg hdst hN ho hv k _ =>
    intro i' o' l' e hs
    cases e
    refine ⟨some v, [], fun H' _ Q2 E st w a ro B0 next hc hsz hd hf hk => ?_, by simp, by simp, by rw [hdst]; exact k, by simp⟩
    obtain ⟨c, h1, h2⟩ := hv st w a.eval (fun x u hx => opvL_rep (N := N) (fun t ht => hf t (reads_t ht)) ho trivial hsz hx)
    rw [if_pos (wanted_none hg)]
    exact (wp_of_value h1 (hk st w c (some v) H' hc hd (Keeps.refl _ _) (fun u hu => by cases hu; exact h2) ⟨rfl, rfl⟩))
  | @on i o l T H j b dj hg hj hb k ih =>
    intro i' o' l' e hs
    cases e
    obtain ⟨res, need, h1, h2, h3, h4, h5⟩ := ih rfl hs
    refine ⟨res, need, fun H' hn Q2 E st w a ro B0 next hc hsz hd hf hk => ?_, h2, h3, h4, h5⟩
    have := h1 H' hn Q2 E st w a ro B0 next hc hsz hd (fun t ht => hf t (reads_t (by simpa [readsOf] using ht))) hk
    rw [if_pos (wanted_none rfl)] at this
    rw [if_pos (by simp [Region.wanted, hg, yielded_at hf (reads_g hg hj) hj hb])]
    exact this
  | @off i o l T H j b u dj d hg hj hb hx hdst hN k _ =>
    intro i' o' l' e hs
    cases e
    refine ⟨some (.tuple []), [], fun H' _ Q2 E st w a ro B0 next hc hsz hd hf hk => ?_, by simp, by simp, by rw [hdst]; exact k, by simp⟩
    rw [off_at hf (reads_g hg hj) hg hj hb hx]
    exact hk st w undef _ H' hc hd (Keeps.refl _ _) (fun u hu => by cases hu; exact undef_rep st w) ⟨rfl, rfl⟩
  | @opt i o l T H p v d j g b x dj hg hj hb hdst hN hv ho hp k _ =>
    intro i' o' l' e hs
    cases e
    refine ⟨some (.opt x b v), [], fun H' _ Q2 E st w a ro B0 next hc hsz hd hf hk => ?_, by simp, by simp, by rw [hdst]; exact k, by simp⟩
    by_cases hxb : x = b
    · have hw : Region.wanted o (yielded l0.toArray a.tmps) = true := by
        rw [wanted_at hf (reads_g hg hj) hg hj hb]; simp [hxb]
      rw [hw]
      obtain ⟨c, h1, h2⟩ := aeval_sound (P := P) hty (fun y u hy => opvL_rep (N := N) (fun t ht => hf t (reads_t ht)) ho hxb hsz hy) hv (hp hxb)
      exact (wp_of_value h1 (hk st w c _ H' hc hd (Keeps.refl _ _) (fun u hu => by cases hu; exact .opt _ _ _ _ (fun _ => h2) (fun e => absurd hxb e)) ⟨rfl, rfl⟩))
    · have hw : Region.wanted o (yielded l0.toArray a.tmps) = false := by
        rw [wanted_at hf (reads_g hg hj) hg hj hb]; simp [hxb]
      rw [hw]
      exact hk st w undef _ H' hc hd (Keeps.refl _ _) (fun u hu => by cases hu; exact .opt _ _ _ _ (fun e => absurd e hxb) (fun _ => rfl)) ⟨rfl, rfl⟩
  | @hard i o l T H K hh hg hN ho h k kp _ hsc _ =>
    intro i' o' l' e hs
    cases e
    rcases hh with hh | hh
    · cases hh
    · rw [hh] at hs
      cases hcv : isCallV o.op with
      | false => rw [hcv] at hs; cases hs
      | true => rw [hcv, hsc hcv] at hs; cases hs
  | @pcl i o l T H u d hg hdst hN ho hcv h k _ =>
    intro i' o' l' e hs
    cases e
    refine ⟨some u, [], fun H' _ Q2 E st w a ro B0 next hc hsz hd hf hk => ?_, by simp, trivial, by rw [hdst]; exact k, by simp⟩
    rw [if_pos (wanted_none hg)]
    refine (h H') (Env0.of w st H') st w a ro next (Post E N ro B0 Q2) hc.start (fun y u hy => opvL_rep (N := N) (fun t ht => hf t (reads_t ht)) ho trivial hsz hy) hd.gl ?_ ?_
    · rintro st' w' v c H2 h1 h2 h3 ⟨e, rfl⟩
      cases e
      exact hk st' w' c (some u) _ (hc.trans h1) (hd.keep h1) h2 (fun u hu => by cases hu; exact h3) ⟨rfl, rfl⟩
    · rintro st' w' v c H2 h1 h2 h3 ⟨e, rfl⟩
      cases e
  | @hload i o l T H t x ti b off ty0 u p v d hg hop hdst hN hx hon ht hm hv hp hl k _ =>
    intro i' o' l' e hs
    cases e
    refine ⟨some v, [.box b ty0 u], fun H' hn Q2 E st w a ro B0 next hc hsz hd hf hk => ?_, fun e he => by rw [List.mem_singleton.1 he]; exact ⟨hm, _, _, _, rfl, hl⟩, trivial, by rw [hdst]; exact k, by simp⟩
    have hr := opvL_rep (N := N) (fun t ht => hf t (reads_t ht)) hon trivial hsz hx
    obtain ⟨c, h1, h2⟩ := boxAt_sound (P := P) hty ht (hc.ents (.box b ty0 u) (hn _ (by simp))) hv hp
    have he : a.eval x = .pointer (some ⟨b, off, none⟩) := by
      generalize a.eval x = y at hr
      cases hr
      rfl
    rw [if_pos (wanted_none hg)]
    refine (wp_of_value (c := c) ?_ (hk st w c _ H' hc hd (Keeps.refl _ _) (fun u hu => by cases hu; exact h2) ⟨rfl, rfl⟩))
    unfold execOp
    rw [hop]
    simp only [he]
    exact exec_v h1
  | @hopt i o l T H t y ti bb off ty0 u p v d j g b x dj hg hj hb hop hdst hN hx hon ht hm hv hp hl k _ =>
    intro i' o' l' e hs
    cases e
    refine ⟨some (.opt x b v), [.box bb ty0 u], fun H' hn Q2 E st w a ro B0 next hc hsz hd hf hk => ?_, fun e he => by rw [List.mem_singleton.1 he]; exact ⟨hm, _, _, _, rfl, hl⟩, trivial, by rw [hdst]; exact k, by simp⟩
    by_cases hxb : x = b
    · have hw : Region.wanted o (yielded l0.toArray a.tmps) = true := by
        rw [wanted_at hf (reads_g hg hj) hg hj hb]; simp [hxb]
      rw [hw]
      have hr := opvL_rep (N := N) (fun t ht => hf t (reads_t ht)) hon hxb hsz hx
      obtain ⟨c, h1, h2⟩ := boxAt_sound (P := P) hty ht (hc.ents (.box bb ty0 u) (hn _ (by simp))) hv (hp hxb)
      have he : a.eval y = .pointer (some ⟨bb, off, none⟩) := by
        generalize a.eval y = q at hr
        cases hr
        rfl
      refine (wp_of_value (c := c) ?_ (hk st w c _ H' hc hd (Keeps.refl _ _) (fun u hu => by cases hu; exact .opt _ _ _ _ (fun _ => h2) (fun e => absurd hxb e)) ⟨rfl, rfl⟩))
      unfold execOp
      rw [hop]
      simp only [he]
      exact exec_v h1
    · have hw : Region.wanted o (yielded l0.toArray a.tmps) = false := by
        rw [wanted_at hf (reads_g hg hj) hg hj hb]; simp [hxb]
      rw [hw]
      exact hk st w undef _ H' hc hd (Keeps.refl _ _) (fun u hu => by cases hu; exact .opt _ _ _ _ (fun e => absurd e hxb) (fun _ => rfl)) ⟨rfl, rfl⟩
  | @pick i o l T H c a' b x va vb v p d hg hop hdst hN hcc ha hb hv hp k _ =>
    intro i' o' l' e hs
    cases e
    refine ⟨some v, [], fun H' _ Q2 E st w a ro B0 next hc hsz hd hf hk => ?_, by simp, by simp, by rw [hdst]; exact k, by simp⟩
    have hval : ∀ y u, opv T y = some u → y ∈ [c, a', b] → Rep st w u (a.eval y) := by
      intro y u hy hm
      cases y with
      | tmp t =>
        have htm : t ∈ tmpsOf o.op := by
          unfold tmpsOf
          rw [hop]
          simp only [Op.operands]
          simp only [List.mem_cons, List.not_mem_nil, or_false] at hm
          rcases hm with h | h | h <;> simp [List.mem_filterMap, ← h]
        obtain ⟨z, h1, h2⟩ := hf t (reads_t htm) u hy
        simpa [Act.eval, h1] using h2
      | const z => exact ofConst_rep hy
      | global g => simp [opv] at hy
      | func f =>
        simp [opv] at hy
        subst hy
        exact Rep.func (.func f) [] [] [] [] rfl rfl (by simp) (by simp)
    have h1 := (hval c _ hcc (by simp)).bool_eq
    have h2 := apick_sound (hval a' _ ha (by simp)) (hval b _ hb (by simp)) hv hp
    rw [if_pos (wanted_none hg)]
    refine (wp_of_value (c := if x then a.eval a' else a.eval b) ?_ (hk st w _ _ H' hc hd (Keeps.refl _ _) (fun u hu => by cases hu; exact h2) ⟨rfl, rfl⟩))
    unfold execOp
    rw [hop]
    simp [h1, asBool]
  | @sopt i o l T H v d j g b x dj hg hj hb hdst hN ho hv k _ =>
    intro i' o' l' e hs
    cases e
    refine ⟨some (.opt x b v), [], fun H' _ Q2 E st w a ro B0 next hc hsz hd hf hk => ?_, by simp, by simp, by rw [hdst]; exact k, by simp⟩
    by_cases hxb : x = b
    · have hw : Region.wanted o (yielded l0.toArray a.tmps) = true := by
        rw [wanted_at hf (reads_g hg hj) hg hj hb]; simp [hxb]
      rw [hw]
      obtain ⟨c, h1, h2⟩ := hv hxb st w a.eval (fun y u hy => opvL_rep (N := N) (fun t ht => hf t (reads_t ht)) ho hxb hsz hy)
      exact (wp_of_value h1 (hk st w c _ H' hc hd (Keeps.refl _ _) (fun u hu => by cases hu; exact .opt _ _ _ _ (fun _ => h2) (fun e => absurd hxb e)) ⟨rfl, rfl⟩))
    · have hw : Region.wanted o (yielded l0.toArray a.tmps) = false := by
        rw [wanted_at hf (reads_g hg hj) hg hj hb]; simp [hxb]
      rw [hw]
      exact hk st w undef _ H' hc hd (Keeps.refl _ _) (fun u hu => by cases hu; exact .opt _ _ _ _ (fun e => absurd e hxb) (fun _ => rfl)) ⟨rfl, rfl⟩
  | @copt i o l T H u d j g b x dj hh hg hj hb hdst hN ho h k hsc _ =>
    intro i' o' l' e hs
    cases e
    rcases hh with hh | hh
    · cases hh
    · rw [hh] at hs
      cases hcv : isCallV o.op with
      | false => rw [hcv] at hs; cases hs
      | true => rw [hcv, hsc hcv] at hs; cases hs
  | @gpick i o l T H c a' b' y va vb v pc p d j g b x dj hg hj hb hop hdst hN hcc hpc ha hb' hv hp k _ =>
    intro i' o' l' e hs
    cases e
    refine ⟨some (.opt x b v), [], fun H' _ Q2 E st w a ro B0 next hc hsz hd hf hk => ?_, by simp, by simp, by rw [hdst]; exact k, by simp⟩
    by_cases hxb : x = b
    · have hw : Region.wanted o (yielded l0.toArray a.tmps) = true := by
        rw [wanted_at hf (reads_g hg hj) hg hj hb]; simp [hxb]
      rw [hw]
      have hval : ∀ y u, opv T y = some u → y ∈ [c, a', b'] → Rep st w u (a.eval y) := by
        intro y u hy hm
        cases y with
        | tmp t =>
          have htm : t ∈ tmpsOf o.op := by
            unfold tmpsOf
            rw [hop]
            simp only [Op.operands]
            simp only [List.mem_cons, List.not_mem_nil, or_false] at hm
            rcases hm with h | h | h <;> simp [List.mem_filterMap, ← h]
          obtain ⟨z, h1, h2⟩ := hf t (reads_t htm) u hy
          simpa [Act.eval, h1] using h2
        | const z => exact ofConst_rep hy
        | global g => simp [opv] at hy
        | func f =>
          simp [opv] at hy
          subst hy
          exact Rep.func (.func f) [] [] [] [] rfl rfl (by simp) (by simp)
      have h1 : a.eval c = .bool y := by
        cases hu : opv T c with
        | none => rw [hu] at hcc; cases hcc
        | some u => rw [hu] at hcc; exact copd_rep hcc (hpc hxb) (hval c _ hu (by simp))
      have h2 := apick_sound (hval a' _ ha (by simp)) (hval b' _ hb' (by simp)) hv (hp hxb)
      refine (wp_of_value (c := if y then a.eval a' else a.eval b') ?_ (hk st w _ _ H' hc hd (Keeps.refl _ _) (fun u hu => by cases hu; exact .opt _ _ _ _ (fun _ => h2) (fun e => absurd hxb e)) ⟨rfl, rfl⟩))
      unfold execOp
      rw [hop]
      simp [h1, asBool]
    · have hw : Region.wanted o (yielded l0.toArray a.tmps) = false := by
        rw [wanted_at hf (reads_g hg hj) hg hj hb]; simp [hxb]
      rw [hw]
      exact hk st w undef _ H' hc hd (Keeps.refl _ _) (fun u hu => by cases hu; exact .opt _ _ _ _ (fun e => absurd e hxb) (fun _ => rfl)) ⟨rfl, rfl⟩
  | @know l T H t x b hW hx hl k ih =>
    cases hW

theorem TR.step (hty : TyOk P ty) : ∀ {L : List (Nat × Oper)} {T : Tmps} {H : AHeap}, TR P N ty l0 LD false (pQ l0 Q) L T H → ∀ {i : Nat} {o : Oper} {l : List (Nat × Oper)}, L = (i, o) :: l → (hardOp o.op && !(isCallV o.op && LD.sc i)) = true →
    ∃ K : Option AV → AHeap → Prop, StepH P N l0 o T H K Q ∧ ∀ r H', K r H' → TR P N ty l0 LD false (pQ l0 Q) l (putR o.dst r T) H' ∧ (r = none → ∀ d, o.dst = some d → lk T d = none) ∧ (keepOp o.op = true → KeepB LD i H H') := by
  intro L T H h
  induction h with
  | nil h => intro i o l e; cases e
  | @pure i o l T H p v d hg hdst hN hv ho hp k _ =>
    intro i' o' l' e hs
    cases e
    refine ⟨fun r H' => r = some v ∧ H' = H, fun E st w a ro B0 next hc hsz hd hf hb0 hk => ?_, fun r H' ⟨hr, hH⟩ => ?_⟩
    · obtain ⟨c, h1, h2⟩ := aeval_sound (P := P) hty (fun x u hx => opvL_rep (N := N) (fun t ht => hf t (reads_t ht)) ho trivial hsz hx) hv hp
      rw [if_pos (wanted_none hg)]
      exact (wp_of_value h1 (hk st w c (some v) H hc hd (Keeps.refl _ _) (fun u hu => by cases hu; exact h2) ⟨rfl, rfl⟩))
    · subst hr; subst hH
      rw [hdst]
      exact ⟨k, by simp, fun _ => KeepB.refl _⟩
  | @sem i o l T H v d hg hdst hN ho hv k _ =>
    intro i' o' l' e hs
    cases e
    refine ⟨fun r H' => r = some v ∧ H' = H, fun E st w a ro B0 next hc hsz hd hf hb0 hk => ?_, fun r H' ⟨hr, hH⟩ => ?_⟩
    · obtain ⟨c, h1, h2⟩ := hv st w a.eval (fun x u hx => opvL_rep (N := N) (fun t ht => hf t (reads_t ht)) ho trivial hsz hx)
      rw [if_pos (wanted_none hg)]
      exact (wp_of_value h1 (hk st w c (some v) H hc hd (Keeps.refl _ _) (fun u hu => by cases hu; exact h2) ⟨rfl, rfl⟩))
    · subst hr; subst hH
      rw [hdst]
      exact ⟨k, by simp, fun _ => KeepB.refl _⟩
  | @on i o l T H j b dj hg hj hb k ih =>
    intro i' o' l' e hs
    cases e
    obtain ⟨K, h1, h2⟩ := ih rfl hs
    refine ⟨K, fun E st w a ro B0 next hc hsz hd hf hb0 hk => ?_, h2⟩
    have := h1 E st w a ro B0 next hc hsz hd (fun t ht => hf t (reads_t (by simpa [readsOf] using ht))) hb0 hk
    rw [if_pos (wanted_none rfl)] at this
    rw [if_pos (by simp [Region.wanted, hg, yielded_at hf (reads_g hg hj) hj hb])]
    exact this
  | @off i o l T H j b u dj d hg hj hb hx hdst hN k _ =>
    intro i' o' l' e hs
    cases e
    refine ⟨fun r H' => r = some (.tuple []) ∧ H' = H, fun E st w a ro B0 next hc hsz hd hf hb0 hk => ?_, fun r H' ⟨hr, hH⟩ => ?_⟩
    · rw [off_at hf (reads_g hg hj) hg hj hb hx]
      exact hk st w undef _ H hc hd (Keeps.refl _ _) (fun u hu => by cases hu; exact undef_rep st w) ⟨rfl, rfl⟩
    · subst hr; subst hH
      rw [hdst]
      exact ⟨k, by simp, fun _ => KeepB.refl _⟩
  | @opt i o l T H p v d j g b x dj hg hj hb hdst hN hv ho hp k _ =>
    intro i' o' l' e hs
    cases e
    refine ⟨fun r H' => r = some (.opt x b v) ∧ H' = H, fun E st w a ro B0 next hc hsz hd hf hb0 hk => ?_, fun r H' ⟨hr, hH⟩ => ?_⟩
    · by_cases hxb : x = b
      · have hw : Region.wanted o (yielded l0.toArray a.tmps) = true := by
          rw [wanted_at hf (reads_g hg hj) hg hj hb]; simp [hxb]
        rw [hw]
        obtain ⟨c, h1, h2⟩ := aeval_sound (P := P) hty (fun y u hy => opvL_rep (N := N) (fun t ht => hf t (reads_t ht)) ho hxb hsz hy) hv (hp hxb)
        exact (wp_of_value h1 (hk st w c _ H hc hd (Keeps.refl _ _) (fun u hu => by cases hu; exact .opt _ _ _ _ (fun _ => h2) (fun e => absurd hxb e)) ⟨rfl, rfl⟩))
      · have hw : Region.wanted o (yielded l0.toArray a.tmps) = false := by
          rw [wanted_at hf (reads_g hg hj) hg hj hb]; simp [hxb]
        rw [hw]
        exact hk st w undef _ H hc hd (Keeps.refl _ _) (fun u hu => by cases hu; exact .opt _ _ _ _ (fun e => absurd e hxb) (fun _ => rfl)) ⟨rfl, rfl⟩
    · subst hr; subst hH
      rw [hdst]
      exact ⟨k, by simp, fun _ => KeepB.refl _⟩
  | @hard i o l T H K hh hg hN ho h k kp hkb _ _ =>
    intro i' o' l' e hs
    cases e
    refine ⟨fun r H' => ∃ v, r = some v ∧ K (.ret v) H', fun E st w a ro B0 next hc hsz hd hf hb0 hk => ?_, fun r H' ⟨v, hr, hK⟩ => ?_⟩
    · rw [if_pos (wanted_none hg)]
      refine (h (Env0.of w st H) st w a ro next (Post E N ro B0 Q) hc.start (fun y u hy => opvL_rep (N := N) (fun t ht => hf t (reads_t ht)) ho trivial hsz hy) hd.gl ?_ ?_)
      · intro st' w' v c H' h1 h2 h3 h4
        exact hk st' w' c (some v) H' (hc.trans h1) (hd.keep h1) h2 (fun u hu => by cases hu; exact h3) ⟨v, rfl, h4⟩
      · intro st' w' v c H' h1 h2 h3 h4
        refine Post.mk (T := keepT l0 T) (hc.trans h1) ⟨hsz, fun t u h => ?_⟩ (hd.keep h1) (x := .panic v) ⟨c, rfl, h3⟩ (kp v H' h4)
        obtain ⟨c', e1, e2⟩ := hb0 t u h
        exact ⟨c', e1, e2.mono h2⟩
    · subst hr
      refine ⟨?_, by simp, fun hq => hkb hq v H' hK⟩
      have := k v H' hK
      cases hd : o.dst with
      | none => rw [hd] at this; exact this
      | some d => rw [hd] at this; exact this
  | @pcl i o l T H u d hg hdst hN ho hcv h k _ =>
    intro i' o' l' e hs
    cases e
    refine ⟨fun r H' => r = some u ∧ H' = H, fun E st w a ro B0 next hc hsz hd hf hb0 hk => ?_, fun r H' ⟨hr, hH⟩ => ?_⟩
    · rw [if_pos (wanted_none hg)]
      refine (h H) (Env0.of w st H) st w a ro next (Post E N ro B0 Q) hc.start (fun y u hy => opvL_rep (N := N) (fun t ht => hf t (reads_t ht)) ho trivial hsz hy) hd.gl ?_ ?_
      · rintro st' w' v c H2 h1 h2 h3 ⟨e, rfl⟩
        cases e
        exact hk st' w' c (some u) _ (hc.trans h1) (hd.keep h1) h2 (fun u hu => by cases hu; exact h3) ⟨rfl, rfl⟩
      · rintro st' w' v c H2 h1 h2 h3 ⟨e, rfl⟩
        cases e
    · subst hr; subst hH
      rw [hdst]
      exact ⟨k, by simp, fun _ => KeepB.refl _⟩
  | @hload i o l T H t x ti b off ty0 u p v d hg hop hdst hN hx hon ht hm hv hp hl k _ =>
    intro i' o' l' e hs
    cases e
    rw [hop] at hs
    cases hs
  | @hopt i o l T H t y ti bb off ty0 u p v d j g b x dj hg hj hb hop hdst hN hx hon ht hm hv hp hl k _ =>
    intro i' o' l' e hs
    cases e
    rw [hop] at hs
    cases hs
  | @pick i o l T H c a' b x va vb v p d hg hop hdst hN hcc ha hb hv hp k _ =>
    intro i' o' l' e hs
    cases e
    rw [hop] at hs
    cases hs
  | @sopt i o l T H v d j g b x dj hg hj hb hdst hN ho hv k _ =>
    intro i' o' l' e hs
    cases e
    refine ⟨fun r H' => r = some (.opt x b v) ∧ H' = H, fun E st w a ro B0 next hc hsz hd hf hb0 hk => ?_, fun r H' ⟨hr, hH⟩ => ?_⟩
    · by_cases hxb : x = b
      · have hw : Region.wanted o (yielded l0.toArray a.tmps) = true := by
          rw [wanted_at hf (reads_g hg hj) hg hj hb]; simp [hxb]
        rw [hw]
        obtain ⟨c, h1, h2⟩ := hv hxb st w a.eval (fun y u hy => opvL_rep (N := N) (fun t ht => hf t (reads_t ht)) ho hxb hsz hy)
        exact (wp_of_value h1 (hk st w c _ H hc hd (Keeps.refl _ _) (fun u hu => by cases hu; exact .opt _ _ _ _ (fun _ => h2) (fun e => absurd hxb e)) ⟨rfl, rfl⟩))
      · have hw : Region.wanted o (yielded l0.toArray a.tmps) = false := by
          rw [wanted_at hf (reads_g hg hj) hg hj hb]; simp [hxb]
        rw [hw]
        exact hk st w undef _ H hc hd (Keeps.refl _ _) (fun u hu => by cases hu; exact .opt _ _ _ _ (fun e => absurd e hxb) (fun _ => rfl)) ⟨rfl, rfl⟩
    · subst hr; subst hH
      rw [hdst]
      exact ⟨k, by simp, fun _ => KeepB.refl _⟩
  | @copt i o l T H u d j g b x dj hh hg hj hb hdst hN ho h k _ _ =>
    intro i' o' l' e hs
    cases e
    refine ⟨fun r H' => r = some (.opt x b u) ∧ H' = H, fun E st w a ro B0 next hc hsz hd hf hb0 hk => ?_, fun r H' ⟨hr, hH⟩ => ?_⟩
    · by_cases hxb : x = b
      · have hw : Region.wanted o (yielded l0.toArray a.tmps) = true := by
          rw [wanted_at hf (reads_g hg hj) hg hj hb]; simp [hxb]
        rw [hw]
        refine (h hxb (Env0.of w st H) st w a ro next (Post E N ro B0 Q) hc.start (fun y u hy => opvL_rep (N := N) (fun t ht => hf t (reads_t ht)) ho hxb hsz hy) hd.gl ?_ ?_)
        · rintro st' w' v c H' h1 h2 h3 ⟨e, rfl⟩
          cases e
          exact hk st' w' c (some (.opt x b u)) H' (hc.trans h1) (hd.keep h1) h2 (fun u hu => by cases hu; exact .opt _ _ _ _ (fun _ => h3) (fun e => absurd hxb e)) ⟨rfl, rfl⟩
        · rintro st' w' v c H' h1 h2 h3 ⟨e, rfl⟩
          cases e
      · have hw : Region.wanted o (yielded l0.toArray a.tmps) = false := by
          rw [wanted_at hf (reads_g hg hj) hg hj hb]; simp [hxb]
        rw [hw]
        exact hk st w undef _ H hc hd (Keeps.refl _ _) (fun u hu => by cases hu; exact .opt _ _ _ _ (fun e => absurd e hxb) (fun _ => rfl)) ⟨rfl, rfl⟩
    · subst hr; subst hH
      rw [hdst]
      exact ⟨k, by simp, fun _ => KeepB.refl _⟩
  | @gpick i o l T H c a' b' y va vb v pc p d j g b x dj hg hj hb hop hdst hN hcc hpc ha hb' hv hp k _ =>
    intro i' o' l' e hs
    cases e
    rw [hop] at hs
    cases hs
  | @know l T H t x b hW hx hl k ih =>
    cases hW


/-! Which operations stand ahead of which. -/

inductive Anc (l : List Oper) : Nat → Nat → Prop
  | edge {i o e} (ho : l[i]? = some o) (he : e ∈ o.after) (hb : Region.binds .any e = true) : Anc l i e.on
  | trans {i j o e} (ho : l[i]? = some o) (he : e ∈ o.after) (hb : Region.binds .any e = true) (h : Anc l e.on j) : Anc l i j

def maskOf (acc : List Nat) (s : Nat) : List Edge → Nat
  | [] => s
  | e :: es => maskOf acc (cond (Region.binds .any e) (s ||| 2 ^ e.on ||| acc.getD e.on 0) s) es

def ancsOf : List Oper → List Nat → List Nat
  | [], acc => acc
  | o :: os, acc => ancsOf os (acc ++ [maskOf acc 0 o.after.toList])

def ancB (A : List Nat) (i j : Nat) : Bool := (A.getD i 0).testBit j

theorem maskOf_spec {l : List Oper} {acc : List Nat} {i : Nat} {o : Oper} (ho : l[i]? = some o) (hacc : ∀ k j, (acc.getD k 0).testBit j = true → Anc l k j) :
    ∀ (es : List Edge) (s : Nat), (∀ e ∈ es, e ∈ o.after) → (∀ j, s.testBit j = true → Anc l i j) → ∀ j, (maskOf acc s es).testBit j = true → Anc l i j
  | [], s, _, hs, j, h => hs j h
  | e :: es, s, hes, hs, j, h => by
    refine maskOf_spec ho hacc es _ (fun e' he' => hes e' (by simp [he'])) ?_ j h
    intro j hj
    cases hb : Region.binds .any e with
    | false => simp only [hb, cond_false] at hj; exact hs j hj
    | true =>
      simp only [hb, cond_true, Nat.testBit_or, Bool.or_eq_true] at hj
      rcases hj with (hj | hj) | hj
      · exact hs j hj
      · rw [Nat.testBit_two_pow] at hj
        have : e.on = j := by simpa using hj
        subst this
        exact .edge ho (hes e (by simp)) hb
      · exact .trans ho (hes e (by simp)) hb (hacc _ _ hj)

theorem ancsOf_spec {l : List Oper} : ∀ (os : List Oper) (acc : List Nat), (∀ j, os[j]? = l[acc.length + j]?) → (∀ k j, (acc.getD k 0).testBit j = true → Anc l k j) →
    ∀ k j, ((ancsOf os acc).getD k 0).testBit j = true → Anc l k j
  | [], acc, _, h, k, j, hk => h k j hk
  | o :: os, acc, hl, h, k, j, hk => by
    have ho : l[acc.length]? = some o := by simpa using (hl 0).symm
    refine ancsOf_spec os (acc ++ [maskOf acc 0 o.after.toList]) (fun j => ?_) ?_ k j hk
    · have := hl (j + 1)
      simp only [List.getElem?_cons_succ] at this
      rw [this]
      simp [Nat.add_assoc, Nat.add_comm 1 j]
    · intro k j hk
      by_cases hlt : k < acc.length
      · exact h k j (by simpa [List.getD, List.getElem?_append_left hlt] using hk)
      · by_cases he : k = acc.length
        · subst he
          have : ((acc ++ [maskOf acc 0 o.after.toList]).getD acc.length 0) = maskOf acc 0 o.after.toList := by simp [List.getD]
          rw [this] at hk
          exact maskOf_spec ho h o.after.toList 0 (fun e he => by simpa using he) (fun j hj => by simp at hj) j hk
        · have : ((acc ++ [maskOf acc 0 o.after.toList]).getD k 0) = 0 := by
            simp only [List.getD]
            rw [List.getElem?_eq_none (by simp; omega)]
            rfl
          rw [this] at hk
          simp at hk

theorem ancB_spec {l : List Oper} {i j : Nat} (h : ancB (ancsOf l []) i j = true) : Anc l i j :=
  ancsOf_spec l [] (by simp) (fun k j hk => by simp at hk) i j h

/-! The check of an order. -/

def hardAt (l : List Oper) (sc : Nat → Bool) (i : Nat) : Bool := match l[i]? with | some o => hardOp o.op && !(isCallV o.op && sc i) | none => true
def keepAt (l : List Oper) (i : Nat) : Bool := match l[i]? with | some o => keepOp o.op | none => false
def dstAt (l : List Oper) (i : Nat) : Option Nat := gdst l i
def readsAt (l : List Oper) (i : Nat) : List Nat := match l[i]? with | some o => readsOf l o | none => []
def hits (d : Option Nat) (L : List Nat) : Bool := match d with | some t => L.contains t | none => false

/-- i stands ahead of k. -/
def pairOk (sc : List Nat) (l : List Oper) (A : List Nat) (i k : Nat) : Bool :=
  (!hardAt l (fun x => sc.contains x) i || ancB A k i) &&
  (hardAt l (fun x => sc.contains x) i || !hits (dstAt l i) (readsAt l k) || ancB A k i) &&
  (!hits (dstAt l k) (readsAt l i) || ancB A k i) &&
  ((hardAt l (fun x => sc.contains x) i && hardAt l (fun x => sc.contains x) k) || (match dstAt l i with
    | some d => !(match dstAt l k with | some d' => Nat.beq d d' | none => false)
    | none => true))

def oneOk (sc : Nat → Bool) (l : List Oper) (i : Nat) : Bool := hardAt l sc i || (dstAt l i).isSome

def pairsOk (R : Nat → Nat → Bool) : List Nat → Bool
  | [] => true
  | i :: r => r.all (R i) && pairsOk R r

def edgesOk (l : List Oper) : Bool := (ix 0 l).all fun p => p.2.after.toList.all fun e => !Region.binds .any e || Nat.blt e.on p.1

/-- Of places with the types that they do not keep: whether boxes of type t must stay at k. -/
def kpOf : List (Nat × List Nat) → Nat → Nat → Bool
  | [], _, _ => false
  | (k', np) :: r, k, t => cond (Nat.beq k' k) (!np.contains t) (kpOf r k t)

def loadOk (sc : List Nat) (l : List Oper) (A : List Nat) (kc : List (Nat × List Nat)) (t : Nat) : List Nat → Nat → Bool
  | [], _ => false
  | j :: r, i => cond (Nat.beq j i) (r.all fun k => !hardAt l (fun x => sc.contains x) k || (keepAt l k && kpOf kc k t) || ancB A k i) (loadOk sc l A kc t r i)

def ldOf (sc : List Nat) (l : List Oper) (A : List Nat) (kc : List (Nat × List Nat)) (π : List Nat) : LDs := ⟨fun i t => loadOk sc l A kc t π i, kpOf kc, fun x => sc.contains x⟩

/-- What leaves all boxes as they are, of itself. -/
def kcAuto (l : List Oper) : List (Nat × List Nat) := ((List.range l.length).filter fun i => match l[i]? with
  | some { op := .call { callee := .value _, .. }, .. } => false
  | some { op := .store _ _ _, .. } => false
  | some o => keepOp o.op
  | none => false).map fun i => (i, [])

def boundOk (l : List Oper) (N i : Nat) : Bool := dstOk (dstAt l i) N

def drawOk (sc : List Nat) (l : List Oper) (N : Nat) (π : List Nat) : Bool :=
  π.all (boundOk l N) && ((List.range l.length).all (fun i => π.contains i) && π.all (fun i => Nat.blt i l.length) && pairsOk (fun i k => !Nat.beq i k) π && edgesOk l && π.all (oneOk (fun x => sc.contains x) l) && pairsOk (pairOk sc l (ancsOf l [])) π)

/-- The same, where what 'mv' names may come in any order among itself. -/
def pairOkM (sc : List Nat) (l : List Oper) (A : List Nat) (mv : Nat → Bool) (i k : Nat) : Bool :=
  ((!hardAt l (fun x => sc.contains x) i || ancB A k i) || (mv i && mv k)) &&
  (hardAt l (fun x => sc.contains x) i || !hits (dstAt l i) (readsAt l k) || ancB A k i) &&
  (!hits (dstAt l k) (readsAt l i) || ancB A k i) &&
  ((hardAt l (fun x => sc.contains x) i && hardAt l (fun x => sc.contains x) k) || (match dstAt l i with
    | some d => !(match dstAt l k with | some d' => Nat.beq d d' | none => false)
    | none => true))

def drawOkM (sc : List Nat) (l : List Oper) (N : Nat) (mv : Nat → Bool) (π : List Nat) : Bool :=
  π.all (boundOk l N) && ((List.range l.length).all (fun i => π.contains i) && π.all (fun i => Nat.blt i l.length) && pairsOk (fun i k => !Nat.beq i k) π && edgesOk l && π.all (oneOk (fun x => sc.contains x) l) && pairsOk (pairOkM sc l (ancsOf l []) mv) π)

theorem pairOkM_of {sc : List Nat} {l : List Oper} {A : List Nat} {mv : Nat → Bool} {i k : Nat} (h : pairOk sc l A i k = true) : pairOkM sc l A mv i k = true := by
  simp only [pairOk, Bool.and_eq_true] at h
  obtain ⟨⟨⟨h1, h2⟩, h3⟩, h4⟩ := h
  simp only [pairOkM, Bool.and_eq_true, h1, Bool.true_or, true_and]
  exact ⟨⟨h2, h3⟩, h4⟩

theorem pairsOk_mono {R S : Nat → Nat → Bool} (h : ∀ i k, R i k = true → S i k = true) : ∀ {π : List Nat}, pairsOk R π = true → pairsOk S π = true
  | [], _ => rfl
  | i :: r, hr => by
    simp only [pairsOk, Bool.and_eq_true, List.all_eq_true] at hr ⊢
    exact ⟨fun k hk => h i k (hr.1 k hk), pairsOk_mono h hr.2⟩

theorem drawOkM_of {sc : List Nat} {l : List Oper} {N : Nat} {mv : Nat → Bool} {π : List Nat} (h : drawOk sc l N π = true) : drawOkM sc l N mv π = true := by
  simp only [drawOk, drawOkM, Bool.and_eq_true] at h ⊢
  exact ⟨h.1, h.2.1, pairsOk_mono (fun _ _ => pairOkM_of) h.2.2⟩

theorem pairwise_pos {S : Nat → Nat → Prop} : ∀ (r p : List Nat), (p ++ r).Pairwise (fun i k => i ≠ k) → (∀ p' i r', p ++ r = p' ++ i :: r' → i ∉ p' → ∀ k ∈ r', S i k) → r.Pairwise S
  | [], _, _, _ => .nil
  | i :: r, p, hn, h => .cons (fun k hk => h p i r rfl (fun hm => (List.pairwise_append.1 hn).2.2 i hm i (by simp) rfl) k hk)
      (pairwise_pos r (p ++ [i]) (by simpa using hn) (fun p' i' r' e => h p' i' r' (by simpa using e)))

theorem pairwise_and {R S : Nat → Nat → Prop} : ∀ {r : List Nat}, r.Pairwise R → r.Pairwise S → r.Pairwise (fun i k => R i k ∧ S i k)
  | [], _, _ => .nil
  | _ :: _, .cons h1 h2, .cons g1 g2 => .cons (fun k hk => ⟨h1 k hk, g1 k hk⟩) (pairwise_and h2 g2)

theorem pairwise_move {R : Nat → Nat → Prop} {D A r : List Nat} {i : Nat} (h : (D ++ (A ++ i :: r)).Pairwise R) (hi : ∀ a ∈ A, R i a) : (D ++ (i :: (A ++ r))).Pairwise R := by
  rw [List.pairwise_append] at h ⊢
  obtain ⟨h1, h2, h3⟩ := h
  rw [List.pairwise_append] at h2
  obtain ⟨h4, h5, h6⟩ := h2
  rw [List.pairwise_cons] at h5
  refine ⟨h1, List.pairwise_cons.2 ⟨fun k hk => ?_, List.pairwise_append.2 ⟨h4, h5.2, fun x hx y hy => h6 x hx y (by simp [hy])⟩⟩, fun x hx y hy => h3 x hx y ?_⟩
  · rcases List.mem_append.1 hk with hk | hk
    · exact hi k hk
    · exact h5.1 k hk
  · simp only [List.mem_cons, List.mem_append] at hy ⊢
    rcases hy with h | h | h
    · exact .inr (.inl h)
    · exact .inl h
    · exact .inr (.inr h)

def sel (l : List Oper) : List Nat → List (Nat × Oper)
  | [] => []
  | i :: π => match l[i]? with
    | some o => (i, o) :: sel l π
    | none => sel l π

theorem pairsOk_spec {R : Nat → Nat → Bool} : ∀ {π : List Nat}, pairsOk R π = true → π.Pairwise fun i k => R i k = true
  | [], _ => .nil
  | i :: r, h => by
    simp only [pairsOk, Bool.and_eq_true, List.all_eq_true] at h
    exact .cons h.1 (pairsOk_spec h.2)

theorem loadOk_spec {sc : List Nat} {l : List Oper} {A : List Nat} {kc : List (Nat × List Nat)} {t : Nat} : ∀ {π : List Nat} {i : Nat}, loadOk sc l A kc t π i = true → ∀ p r, π = p ++ i :: r → i ∉ p → ∀ k ∈ r, hardAt l (fun x => sc.contains x) k = true → (keepAt l k && kpOf kc k t) = false → ancB A k i = true
  | [], i, h, p, r, e, _, k, _, _, _ => by simp at e
  | j :: π, i, h, p, r, e, hn, k, hk, hh, hkk => by
    simp only [loadOk] at h
    match p, e with
    | [], e =>
      simp at e
      obtain ⟨rfl, rfl⟩ := e
      simp only [Nat.beq_refl, cond_true, List.all_eq_true] at h
      have := h k hk
      rw [hkk, hh] at this
      simpa using this
    | q :: p, e =>
      simp at e
      obtain ⟨rfl, rfl⟩ := e
      have hne : Nat.beq j i = false := beq_ne fun h => hn (by simp [h])
      simp only [hne, cond_false] at h
      exact loadOk_spec h p r rfl (fun h => hn (by simp [h])) k hk hh hkk


theorem Step.congr {o : Oper} {T T' : Tmps} {H : AHeap} {K : Option AV → AHeap → Prop} (h : Step P N l0 o T H K Q) (e : ∀ t ∈ readsOf l0 o, lk T' t = lk T t) : Step P N l0 o T' H K Q :=
  fun E st w a ro B0 next hc hs hd hf hk => h E st w a ro B0 next hc hs hd (fun t ht v hv => hf t ht v (by rw [e t ht]; exact hv)) hk

theorem anc_listed {l : List Oper} {listed : Array Bool} (closed : ∀ (i : Nat) (o : Oper) (e : Edge), l[i]? = some o → listed.getD i false = true → e ∈ o.after → Region.binds .any e = true → listed.getD e.on false = true) :
    ∀ {i j : Nat}, Anc l i j → (∀ (o : Oper) (e : Edge), l[i]? = some o → e ∈ o.after → Region.binds .any e = true → listed.getD e.on false = true) → listed.getD j false = true := by
  intro i j h
  induction h with
  | edge ho he hb => exact fun hi => hi _ _ ho he hb
  | @trans i j o e ho he hb _ ih => exact fun hi => ih fun o' e' ho' he' hb' => closed _ o' e' ho' (hi _ _ ho he hb) he' hb'

/-- What is left to do, told as a predicate: closed under each kind of step; an operation that 'mv' names may be taken ahead of others that it names. -/
structure Chain (P : Program) (N : Nat) (l : List Oper) (LD : LDs) (mv : Nat → Bool) (Q : APost) (M : List Nat → Tmps → AHeap → Prop) : Prop where
  soft : ∀ (i : Nat) (rest : List Nat) (T : Tmps) (H : AHeap) (o : Oper), M (i :: rest) T H → l[i]? = some o → hardAt l LD.sc i = false → ∃ (res : Option AV) (need : AHeap), (∀ H', (∀ e ∈ need, e ∈ H') → ∀ Q2, Step P N l o T H' (fun r H2 => r = res ∧ H2 = H') Q2) ∧
    (∀ e ∈ need, e ∈ H ∧ ∃ b t u, e = .box b t u ∧ LD.ld i t = true) ∧ True ∧ M rest (putR o.dst res T) H ∧ (res = none → ∀ d, o.dst = some d → lk T d = none)
  hard : ∀ (i : Nat) (rest : List Nat) (T : Tmps) (H : AHeap) (o : Oper), M (i :: rest) T H → l[i]? = some o → hardAt l LD.sc i = true → ∃ K : Option AV → AHeap → Prop, StepH P N l o T H K Q ∧
    ∀ r H', K r H' → M rest (putR o.dst r T) H' ∧ (r = none → ∀ d, o.dst = some d → lk T d = none) ∧ (keepOp o.op = true → KeepB LD i H H')
  nil : ∀ (T : Tmps) (H : AHeap), M [] T H → Q .normal T H
  move : ∀ (A : List Nat) (i : Nat) (r : List Nat) (T : Tmps) (H : AHeap), mv i = true → (∀ a ∈ A, mv a = true) → M (A ++ i :: r) T H → M (i :: (A ++ r)) T H

structure DInv (P : Program) (N : Nat) (l : List Oper) (LD : LDs) (M : List Nat → Tmps → AHeap → Prop) (π : List Nat) (Q : APost) (E : Env0) (ro : Option Nat) (B0 : Bs) (ρ : Nat → Option AV) (done rest : List Nat) (listed : Array Bool) (T : Tmps) (H : AHeap) (st : Stab) (w : World) (a : Act) : Prop where
  split : π = done ++ rest
  lsize : listed.size = l.length
  closed : ∀ (i : Nat) (o : Oper) (e : Edge), l[i]? = some o → listed.getD i false = true → e ∈ o.after → Region.binds .any e = true → listed.getD e.on false = true
  unl : ∀ i ∈ rest, listed.getD i true = false
  tr : M rest T H
  conc : Conc E st H w
  size : a.tmps.size = N
  defs : Fr ro B0 H w a.defers
  frame : ∀ t v, lk T t = some v → (∀ i ∈ done, listed.getD i true = false → dstAt l i ≠ some t) → ∃ c, a.tmps[t]? = some c ∧ Rep st w v c
  pend : ∀ i ∈ done, listed.getD i true = false → ∃ (o : Oper) (need : AHeap) (Ti : Tmps), l[i]? = some o ∧ hardAt l LD.sc i = false ∧ (∀ H', (∀ e ∈ need, e ∈ H') → Step P N l o Ti H' (fun r H2 => r = ρ i ∧ H2 = H') Q) ∧
    (∀ e ∈ need, e ∈ H ∧ ∃ b t u, e = .box b t u ∧ LD.ld i t = true) ∧ True ∧ (∀ d, o.dst = some d → lk T d = ρ i) ∧
    ∀ t ∈ readsOf l o, ∀ v, lk Ti t = some v → (∃ j ∈ done, listed.getD j true = false ∧ Anc l i j ∧ dstAt l j = some t ∧ ρ j = some v) ∨
      ((∀ j ∈ done, listed.getD j true = false → j ≠ i → dstAt l j = some t → Anc l j i) ∧ ∃ c, a.tmps[t]? = some c ∧ Rep st w v c)

theorem hits_iff {d : Option Nat} {L : List Nat} : hits d L = true ↔ ∃ t, d = some t ∧ t ∈ L := by
  cases d <;> simp [hits]

theorem not_hits {d : Option Nat} {L : List Nat} (h : (!hits d L) = true) : ∀ t, d = some t → t ∉ L := by
  intro t ht hm
  have := hits_iff.2 ⟨t, ht, hm⟩
  rw [this] at h
  cases h

theorem getD_tf {listed : Array Bool} {j : Nat} (h : listed.getD j true = false) : listed.getD j false = false := getD_both h

theorem lk_putR {d : Option Tmp} {r : Option AV} {T : Tmps} {t : Nat} (h : d ≠ some t) : lk (putR d r T) t = lk T t := by
  cases d with
  | none => rfl
  | some d =>
    cases r with
    | none => rfl
    | some v =>
      have : d ≠ t := fun e => h (by rw [e])
      simp [putR, lk, beq_ne this]

section draw
variable {l : List Oper} {π : List Nat} {E : Env0} {ro : Option Nat} {B0 : Bs} {mv : Nat → Bool} {M : List Nat → Tmps → AHeap → Prop}

/-- i may stand ahead of k. -/
def PR (l : List Oper) (LD : LDs) (mv : Nat → Bool) (i k : Nat) : Prop :=
  (hardAt l LD.sc i = true → Anc l k i ∨ (mv i = true ∧ mv k = true)) ∧ (hardAt l LD.sc i = false → ∀ t, dstAt l i = some t → t ∈ readsAt l k → Anc l k i) ∧ (∀ t, dstAt l k = some t → t ∈ readsAt l i → Anc l k i) ∧
    ((hardAt l LD.sc i = false ∨ hardAt l LD.sc k = false) → ∀ d, dstAt l i = some d → dstAt l k ≠ some d) ∧ (hardAt l LD.sc i = false → ∀ t, LD.ld i t = true → hardAt l LD.sc k = true → (keepAt l k && LD.kp k t) = false → Anc l k i)

structure Checked (l : List Oper) (N : Nat) (LD : LDs) (mv : Nat → Bool) (π : List Nat) : Prop where
  bound : ∀ i ∈ π, ∀ d, dstAt l i = some d → d < N
  all : ∀ i, i < l.length → i ∈ π
  lt : ∀ i ∈ π, i < l.length
  ne : π.Pairwise fun i k => i ≠ k
  edge : ∀ (i : Nat) (o : Oper) (e : Edge), l[i]? = some o → e ∈ o.after → Region.binds .any e = true → e.on < i
  one : ∀ i ∈ π, oneOk LD.sc l i = true
  pair : π.Pairwise (PR l LD mv)

theorem pw_either {R : Nat → Nat → Prop} {i j : Nat} (hne : i ≠ j) : ∀ {L : List Nat}, L.Pairwise R → i ∈ L → j ∈ L → R i j ∨ R j i := by
  intro L hL
  induction hL with
  | nil => intro hi; cases hi
  | @cons x L hx _ ih =>
    intro hiL hjL
    rcases List.mem_cons.1 hiL with hix | hiL
    · rcases List.mem_cons.1 hjL with hjx | hjL
      · exact absurd (hix.trans hjx.symm) hne
      · rw [hix]; exact .inl (hx j hjL)
    · rcases List.mem_cons.1 hjL with hjx | hjL
      · rw [hjx]; exact .inr (hx i hiL)
      · exact ih hiL hjL

theorem Checked.either {l : List Oper} {N : Nat} {π done rest : List Nat} (C : Checked l N LD mv π) (hs : π = done ++ rest) {i j : Nat} (hi : i ∈ done) (hj : j ∈ done) (hne : i ≠ j) :
    PR l LD mv i j ∨ PR l LD mv j i := by
  have h := C.pair
  rw [hs] at h
  exact pw_either hne (List.pairwise_append.1 h).1 hi hj

theorem ix_get : ∀ (l : List Oper) (k i : Nat) (o : Oper), l[i]? = some o → (k + i, o) ∈ ix k l
  | [], k, i, o, h => by simp at h
  | x :: l, k, 0, o, h => by simp at h; subst h; simp [ix]
  | x :: l, k, i + 1, o, h => by
    have := ix_get l (k + 1) i o (by simpa using h)
    rw [Nat.add_assoc, Nat.add_comm 1 i] at this
    simp [ix, this]

theorem pairOkM_spec {sc : List Nat} {i k : Nat} (h : pairOkM sc l (ancsOf l []) mv i k = true) :
    (hardAt l (fun x => sc.contains x) i = true → Anc l k i ∨ (mv i = true ∧ mv k = true)) ∧ (hardAt l (fun x => sc.contains x) i = false → ∀ t, dstAt l i = some t → t ∈ readsAt l k → Anc l k i) ∧ (∀ t, dstAt l k = some t → t ∈ readsAt l i → Anc l k i) ∧
    ((hardAt l (fun x => sc.contains x) i = false ∨ hardAt l (fun x => sc.contains x) k = false) → ∀ d, dstAt l i = some d → dstAt l k ≠ some d) := by
  simp only [pairOkM, Bool.and_eq_true] at h
  obtain ⟨⟨⟨h1, h2⟩, h3⟩, h4⟩ := h
  refine ⟨fun hi => ?_, fun hi t ht hm => ?_, fun t ht hm => ?_, fun hik d hd hd' => ?_⟩
  · rw [hi] at h1
    simp only [Bool.not_true, Bool.false_or, Bool.or_eq_true, Bool.and_eq_true] at h1
    exact h1.imp (fun h => ancB_spec h) id
  · rw [hi, hits_iff.2 ⟨t, ht, hm⟩] at h2
    exact ancB_spec (by simpa using h2)
  · rw [hits_iff.2 ⟨t, ht, hm⟩] at h3
    exact ancB_spec (by simpa using h3)
  · have hn : (hardAt l (fun x => sc.contains x) i && hardAt l (fun x => sc.contains x) k) = false := by rcases hik with e | e <;> simp only [e, Bool.false_and, Bool.and_false]
    rw [hn, hd, hd'] at h4
    simp at h4

theorem checked_of (sc : List Nat) (kc : List (Nat × List Nat)) (h : drawOkM sc l N mv π = true) : Checked l N (ldOf sc l (ancsOf l []) kc π) mv π := by
  simp only [drawOkM, Bool.and_eq_true] at h
  obtain ⟨h0, ⟨⟨⟨⟨h1, h2⟩, h3⟩, h4⟩, h5⟩, h6⟩ := h
  have hne : π.Pairwise fun i k => i ≠ k := (pairsOk_spec h3).imp fun {i k} h => by
    rintro rfl
    simp at h
  have hld : π.Pairwise fun i k => ∀ t, loadOk sc l (ancsOf l []) kc t π i = true → hardAt l (fun x => sc.contains x) k = true → (keepAt l k && kpOf kc k t) = false → ancB (ancsOf l []) k i = true :=
    pairwise_pos π [] (by simpa using hne) fun p' i r' e hn k hk t hl hh hkk => loadOk_spec hl p' r' (by simpa using e) hn k hk hh hkk
  refine ⟨fun i hi d hd => ?_, fun i hi => ?_, fun i hi => ?_, hne, fun i o e ho he hb => ?_, fun i hi => List.all_eq_true.1 h5 i hi, (pairwise_and (pairsOk_spec h6) hld).imp fun {i k} h => ?_⟩
  · have := List.all_eq_true.1 h0 i hi
    simp only [boundOk, hd, dstOk] at this
    exact Nat.le_of_ble_eq_true this
  · have := List.all_eq_true.1 h1 i (List.mem_range.2 hi)
    simpa using this
  · have := List.all_eq_true.1 h2 i hi
    simpa [Nat.blt_eq] using this
  · unfold edgesOk at h4
    have := List.all_eq_true.1 h4 (i, o) (by have := ix_get l 0 i o ho; rwa [Nat.zero_add] at this)
    have := List.all_eq_true.1 this e (by simpa using he)
    simp only [hb, Bool.not_true, Bool.false_or] at this
    simpa [Nat.blt_eq] using this
  · obtain ⟨p1, p2, p3, p4⟩ := pairOkM_spec h.1
    exact ⟨p1, p2, p3, p4, fun _ t hl hh hkk => ancB_spec (h.2 t hl hh hkk)⟩

theorem hardAt_eq {sc : Nat → Bool} {i : Nat} {o : Oper} (h : l[i]? = some o) : hardAt l sc i = (hardOp o.op && !(isCallV o.op && sc i)) := by simp [hardAt, h]
theorem dstAt_eq {i : Nat} {o : Oper} (h : l[i]? = some o) : dstAt l i = o.dst := by simp [dstAt, gdst, h]
theorem readsAt_eq {i : Nat} {o : Oper} (h : l[i]? = some o) : readsAt l i = readsOf l o := by simp [readsAt, h]

variable {ρ : Nat → Option AV} {done rest : List Nat} {listed : Array Bool} {T : Tmps} {H : AHeap} {st : Stab} {w : World} {a : Act}

theorem DInv.advance (Ch : Chain P N l LD mv Q M) (C : Checked l N LD mv π) {i : Nat} (h : DInv P N l LD M π Q E ro B0 ρ done (i :: rest) listed T H st w a) (hs : hardAt l LD.sc i = false) :
    ∃ ρ' T', DInv P N l LD M π Q E ro B0 ρ' (done ++ [i]) rest listed T' H st w a := by
  have hiπ : i ∈ π := by rw [h.split]; simp
  have hilt := C.lt i hiπ
  obtain ⟨o, ho⟩ : ∃ o, l[i]? = some o := ⟨l[i], by simp [hilt]⟩
  have hso := hs
  obtain ⟨res, need, h1, h2, h3, h4, h5⟩ := Ch.soft i rest T H o h.tr ho hso
  have hone := C.one i hiπ
  simp only [oneOk, hs, Bool.false_or] at hone
  obtain ⟨d, hd⟩ := Option.isSome_iff_exists.1 hone
  have hdo : o.dst = some d := by rw [← dstAt_eq ho]; exact hd
  have hiu : listed.getD i true = false := h.unl i (by simp)
  have hpw := C.pair
  have hne := C.ne
  rw [h.split] at hpw hne
  have hcross := (List.pairwise_append.1 hpw).2.2
  have hni : ∀ j ∈ done, j ≠ i := fun j hj => (List.pairwise_append.1 hne).2.2 j hj i (by simp)
  have hρ : ∀ j ∈ done, (if j = i then res else ρ j) = ρ j := fun j hj => if_neg (hni j hj)
  refine ⟨fun k => if k = i then res else ρ k, putR o.dst res T, ⟨by rw [h.split]; simp, h.lsize, h.closed, fun k hk => h.unl k (by simp [hk]), h4, h.conc, h.size, h.defs, ?_, ?_⟩⟩
  · intro t v ht hp
    have hne : o.dst ≠ some t := by
      have := hp i (by simp) hiu
      rwa [dstAt_eq ho] at this
    rw [lk_putR hne] at ht
    exact h.frame t v ht fun k hk hku => hp k (by simp [hk]) hku
  · intro k hk hku
    rcases List.mem_append.1 hk with hkd | hk
    · obtain ⟨o', need', Ti, g1, g2, g3, g4, g5, g6, g7⟩ := h.pend k hkd hku
      obtain ⟨-, -, -, p4, -⟩ := hcross k hkd i (by simp)
      have hρk := hρ k hkd
      simp only [hρk]
      refine ⟨o', need', Ti, g1, g2, g3, g4, g5, fun d' hd' => ?_, fun t ht v hv => ?_⟩
      · rw [lk_putR, g6 d' hd']
        intro e
        exact p4 (.inr hs) d' (by rw [dstAt_eq g1]; exact hd') (by rw [dstAt_eq ho]; exact e)
      · rcases g7 t ht v hv with ⟨j, hj, hju, ha, hjd, hjv⟩ | ⟨hno, hc⟩
        · exact .inl ⟨j, by simp [hj], hju, ha, hjd, (hρ j hj).trans hjv⟩
        · refine .inr ⟨fun j hj hju hjk hjd => ?_, hc⟩
          rcases List.mem_append.1 hj with hj | hj
          · exact hno j hj hju hjk hjd
          · simp at hj
            subst hj
            exact (hcross k hkd j (by simp)).2.2.1 t hjd (by rw [readsAt_eq g1]; exact ht)
    · simp at hk
      subst hk
      refine ⟨o, need, T, ho, hso, fun H' hn => ?_, h2, h3, fun d' hd' => ?_, fun t ht v hv => ?_⟩
      · simp only [if_true]
        exact h1 H' hn Q
      · simp only [if_true]
        rw [hdo] at hd'
        cases hd'
        rw [hdo]
        cases res with
        | none => exact h5 rfl d hdo
        | some v => simp [putR, lk]
      · by_cases hex : ∃ j ∈ done, listed.getD j true = false ∧ dstAt l j = some t
        · obtain ⟨j, hj, hju, hjd⟩ := hex
          obtain ⟨oj, _, _, j1, j2, _, _, _, j6, _⟩ := h.pend j hj hju
          refine .inl ⟨j, by simp [hj], hju, ?_, hjd, ?_⟩
          · exact (hcross j hj k (by simp)).2.1 j2 t hjd (by rw [readsAt_eq ho]; exact ht)
          · exact (hρ j hj).trans ((j6 t (by rw [← dstAt_eq j1]; exact hjd)).symm.trans hv)
        · refine .inr ⟨fun j hj hju hjk hjd => ?_, ?_⟩
          · rcases List.mem_append.1 hj with hj | hj
            · exact absurd ⟨j, hj, hju, hjd⟩ hex
            · simp at hj
              exact absurd hj hjk
          · exact h.frame t v hv fun j hj hju hjd => hex ⟨j, hj, hju, hjd⟩

theorem DInv.advances (Ch : Chain P N l LD mv Q M) (C : Checked l N LD mv π) : ∀ (r1 : List Nat) {ρ : Nat → Option AV} {done rest : List Nat} {T : Tmps}, DInv P N l LD M π Q E ro B0 ρ done (r1 ++ rest) listed T H st w a → (∀ i ∈ r1, hardAt l LD.sc i = false) →
    ∃ ρ' T', DInv P N l LD M π Q E ro B0 ρ' (done ++ r1) rest listed T' H st w a
  | [], ρ, done, rest, T, h, _ => ⟨ρ, T, by simpa using h⟩
  | i :: r1, ρ, done, rest, T, h, hs => by
    obtain ⟨ρ1, T1, h1⟩ := h.advance Ch C (hs i (by simp))
    obtain ⟨ρ2, T2, h2⟩ := DInv.advances Ch C r1 h1 (fun k hk => hs k (by simp [hk]))
    exact ⟨ρ2, T2, by simpa using h2⟩

theorem set_closed {i : Nat} {o : Oper} (_hl : listed.size = l.length) (ho : l[i]? = some o)
    (hc : ∀ (i : Nat) (o : Oper) (e : Edge), l[i]? = some o → listed.getD i false = true → e ∈ o.after → Region.binds .any e = true → listed.getD e.on false = true)
    (hi : ∀ e ∈ o.after, Region.binds .any e = true → listed.getD e.on false = true) :
    ∀ (k : Nat) (o : Oper) (e : Edge), l[k]? = some o → (listed.setIfInBounds i true).getD k false = true → e ∈ o.after → Region.binds .any e = true → (listed.setIfInBounds i true).getD e.on false = true := by
  intro k ok e hk hlk he hb
  by_cases hik : i = k
  · subst hik
    rw [ho] at hk
    cases hk
    exact getD_set_true (hi e he hb)
  · rw [getD_set_ne false hik] at hlk
    exact getD_set_true (hc k ok e hk hlk he hb)

theorem getD_set_self {i : Nat} (h : i < listed.size) : (listed.setIfInBounds i true).getD i true = true := by simp [h]

/-- A delayed operation is carried out. -/
theorem DInv.late (C : Checked l N LD mv π) {i : Nat} {K : Act → World → Prop} (h : DInv P N l LD M π Q E ro B0 ρ done rest listed T H st w a) (hid : i ∈ done) (hiu : listed.getD i true = false)
    (hready : ∀ o, l[i]? = some o → ∀ e ∈ o.after, Region.binds .any e = true → listed.getD e.on false = true)
    (k : ∀ st' w' a', DInv P N l LD M π Q E ro B0 ρ done rest (listed.setIfInBounds i true) T H st' w' a' → K a' w') : wpOpIn (fen ro) 0 P l.toArray (Post E N ro B0 Q) i K a w := by
  obtain ⟨o, need, Ti, g1, g2, g3, g4, g5, g6, g7⟩ := h.pend i hid hiu
  have hiπ : i ∈ π := by rw [h.split]; simp [hid]
  have hilt := C.lt i hiπ
  have hsi : hardAt l LD.sc i = false := g2
  have hone := C.one i hiπ
  simp only [oneOk, hsi, Bool.false_or] at hone
  obtain ⟨d, hd⟩ := Option.isSome_iff_exists.1 hone
  have hdo : o.dst = some d := by rw [← dstAt_eq g1]; exact hd
  have hready' := fun (o : Oper) (e : Edge) ho he hb => hready o ho e he hb
  have hreads : ∀ t ∈ readsOf l o, ∀ v, lk Ti t = some v → ∃ c, a.tmps[t]? = some c ∧ Rep st w v c := by
    intro t ht v hv
    rcases g7 t ht v hv with ⟨j, hj, hju, ha, _⟩ | ⟨_, hc⟩
    · have := anc_listed h.closed ha hready'
      rw [getD_tf hju] at this
      cases this
    · exact hc
  have hstep := g3 H (fun e he => (g4 e he).1) E st w a ro B0 K h.conc h.size h.defs hreads ?_
  · unfold wpOpIn
    have : l.toArray[i]? = some o := by simpa using g1
    rw [this]
    exact wanted_in hstep
  · rintro st' w' c r H' hc' hfr' hk' hr ⟨rfl, rfl⟩
    refine k st' w' _ ⟨h.split, by simp [h.lsize], set_closed h.lsize g1 h.closed (hready o g1), ?_, h.tr, hc', by simp [Act.put, hdo, h.size], by rw [hdo]; exact hfr', ?_, ?_⟩
    · intro k hk
      have : i ≠ k := by
        rintro rfl
        have hne := C.ne
        rw [h.split] at hne
        exact (List.pairwise_append.1 hne).2.2 i hid i hk rfl
      rw [getD_set_ne true this]
      exact h.unl k hk
    · intro t v ht hp
      rw [hdo]
      by_cases e : d = t
      · subst e
        rw [g6 d hdo] at ht
        have hdN := C.bound i hiπ d hd
        exact ⟨c, by simp [Act.put, h.size, hdN], hr v ht⟩
      · obtain ⟨c', h1, h2⟩ := h.frame t v ht fun j hj hju => by
          by_cases hji : i = j
          · subst hji
            rw [hd]
            intro e2
            cases e2
            exact e rfl
          · exact hp j hj (by rw [getD_set_ne true hji]; exact hju)
        exact ⟨c', by simp [Act.put, Array.getElem?_setIfInBounds_ne e, h1], h2.mono hk'⟩
    · intro j hj hju
      have hji : i ≠ j := by
        rintro rfl
        rw [getD_set_self (by rw [h.lsize]; exact hilt)] at hju
        cases hju
      rw [getD_set_ne true hji] at hju
      obtain ⟨o', need', Ti', f1, f2, f3, f4, f5, f6, f7⟩ := h.pend j hj hju
      refine ⟨o', need', Ti', f1, f2, f3, f4, f5, f6, fun t ht v hv => ?_⟩
      rw [hdo]
      rcases f7 t ht v hv with ⟨m, hm, hmu, ha, hmd, hmv⟩ | ⟨hno, c', h1, h2⟩
      · by_cases him : i = m
        · subst him
          rw [hd] at hmd
          cases hmd
          have hdN := C.bound i hiπ d hd
          refine .inr ⟨fun q hq hqu hqj hqd => ?_, c, by simp [Act.put, h.size, hdN], hr v hmv⟩
          have hqi : i ≠ q := by
            rintro rfl
            rw [getD_set_self (by rw [h.lsize]; exact hilt)] at hqu
            cases hqu
          exfalso
          rw [getD_set_ne true hqi] at hqu
          obtain ⟨oq, _, _, q1, q2, _⟩ := h.pend q hq hqu
          have hsq : hardAt l LD.sc q = false := q2
          rcases C.either h.split hid hq hqi with hp | hp
          · exact hp.2.2.2.1 (.inl hsi) d hd hqd
          · exact hp.2.2.2.1 (.inl hsq) d hqd hd
        · exact .inl ⟨m, hm, by rw [getD_set_ne true him]; exact hmu, ha, hmd, hmv⟩
      · refine .inr ⟨fun q hq hqu hqj hqd => ?_, ?_⟩
        · have hqi : i ≠ q := by
            rintro rfl
            rw [getD_set_self (by rw [h.lsize]; exact hilt)] at hqu
            cases hqu
          rw [getD_set_ne true hqi] at hqu
          exact hno q hq hqu hqj hqd
        · have : d ≠ t := by
            rintro rfl
            have ha := hno i hid hiu hji hd
            have := anc_listed h.closed ha hready'
            rw [getD_tf hju] at this
            cases this
          exact ⟨c', by simp [Act.put, Array.getElem?_setIfInBounds_ne this, h1], h2.mono hk'⟩

/-- An operation that acts is carried out: it is the first that stands in the chain still. -/
theorem DInv.now (Ch : Chain P N l LD mv Q M) (C : Checked l N LD mv π) {i : Nat} {K : Act → World → Prop} (h : DInv P N l LD M π Q E ro B0 ρ done (i :: rest) listed T H st w a) (hs : hardAt l LD.sc i = true)
    (hready : ∀ o, l[i]? = some o → ∀ e ∈ o.after, Region.binds .any e = true → listed.getD e.on false = true)
    (k : ∀ st' w' a' T' H', DInv P N l LD M π Q E ro B0 ρ (done ++ [i]) rest (listed.setIfInBounds i true) T' H' st' w' a' → K a' w') : wpOpIn (fen ro) 0 P l.toArray (Post E N ro B0 Q) i K a w := by
  have hiπ : i ∈ π := by rw [h.split]; simp
  have hilt := C.lt i hiπ
  obtain ⟨o, ho⟩ : ∃ o, l[i]? = some o := ⟨l[i], by simp [hilt]⟩
  have hso := hs
  obtain ⟨KK, h1, h2⟩ := Ch.hard i rest T H o h.tr ho hso
  have hready' := fun (o : Oper) (e : Edge) ho he hb => hready o ho e he hb
  have hpw := C.pair
  rw [h.split] at hpw
  have hcross := fun j hj => (List.pairwise_append.1 hpw).2.2 j hj i (by simp)
  have hsoft : ∀ j ∈ done, listed.getD j true = false → hardAt l LD.sc j = false := fun j hj hju => by
    obtain ⟨oj, _, _, j1, j2, _⟩ := h.pend j hj hju
    exact j2
  have hnoanc : ∀ j ∈ done, listed.getD j true = false → ¬ Anc l i j := fun j hj hju ha => by
    have := anc_listed h.closed ha hready'
    rw [getD_tf hju] at this
    cases this
  have hnotp : ∀ t ∈ readsOf l o, ∀ j ∈ done, listed.getD j true = false → dstAt l j ≠ some t := by
    intro t ht j hj hju hdj
    exact hnoanc j hj hju ((hcross j hj).2.1 (hsoft j hj hju) t hdj (by rw [readsAt_eq ho]; exact ht))
  have hstep := h1 E st w a ro B0 K h.conc h.size h.defs (fun t ht v hv => h.frame t v hv (hnotp t ht)) (fun t v hv => h.frame t v (lk_keepT hv).1 fun j hj _ hjt => by
    obtain ⟨o', ho'⟩ : ∃ o', l[j]? = some o' := ⟨l[j]'(C.lt j (by rw [h.split]; simp [hj])), by simp [C.lt j (by rw [h.split]; simp [hj])]⟩
    rw [dstAt_eq ho'] at hjt
    exact (lk_keepT hv).2 o' (List.mem_of_getElem? ho') hjt) ?_
  · unfold wpOpIn
    have : l.toArray[i]? = some o := by simpa using ho
    rw [this]
    exact wanted_in hstep
  · rintro st' w' c r H' hc' hfr' hk' hr hK
    obtain ⟨hT, hnone, hkeep⟩ := h2 r H' hK
    have hne := C.ne
    rw [h.split] at hne
    have hnd : ∀ k ∈ rest, i ≠ k := (List.pairwise_cons.1 (List.pairwise_append.1 hne).2.1).1
    refine k st' w' _ _ _ ⟨by rw [h.split]; simp, by simp [h.lsize], set_closed h.lsize ho h.closed (hready o ho), ?_, hT, hc', ?_, ?_, ?_, ?_⟩
    · intro j hj
      rw [getD_set_ne true (hnd j hj)]
      exact h.unl j (by simp [hj])
    · cases hd : o.dst <;> simp [Act.put, h.size]
    · cases hd : o.dst <;> exact hfr'
    · intro t v ht hp
      by_cases e : o.dst = some t
      · have hdN := C.bound i hiπ t (by rw [dstAt_eq ho]; exact e)
        cases r with
        | none =>
          have hn := hnone rfl t e
          rw [e] at ht
          simp only [putR] at ht
          rw [hn] at ht
          cases ht
        | some u =>
          rw [e] at ht ⊢
          simp only [putR, lk, Nat.beq_refl, cond_true] at ht
          cases ht
          exact ⟨c, by simp [Act.put, h.size, hdN], hr _ rfl⟩
      · rw [lk_putR e] at ht
        obtain ⟨c', h1, h2⟩ := h.frame t v ht fun j hj hju => by
          have hji : i ≠ j := by
            rintro rfl
            exact (List.pairwise_append.1 hne).2.2 i hj i (by simp) rfl
          exact hp j (by simp [hj]) (by rw [getD_set_ne true hji]; exact hju)
        refine ⟨c', ?_, h2.mono hk'⟩
        cases hd : o.dst with
        | none => exact h1
        | some d =>
          have : d ≠ t := fun e' => e (by rw [hd, e'])
          simp [Act.put, Array.getElem?_setIfInBounds_ne this, h1]
    · intro j hj hju
      rcases List.mem_append.1 hj with hj | hj
      · have hji : i ≠ j := by
          rintro rfl
          exact (List.pairwise_append.1 hne).2.2 i hj i (by simp) rfl
        rw [getD_set_ne true hji] at hju
        obtain ⟨o', need', Ti, g1, g2, g3, g4, g5, g6, g7⟩ := h.pend j hj hju
        obtain ⟨-, -, p3, p4, p5⟩ := hcross j hj
        have hsj := hsoft j hj hju
        have hneed : ∀ e ∈ need', e ∈ H' ∧ ∃ b t u, e = .box b t u ∧ LD.ld j t = true := by
          intro e he
          obtain ⟨e1, b, t, u, rfl, e2⟩ := g4 e he
          refine ⟨?_, b, t, u, rfl, e2⟩
          cases hkq : (keepAt l i && LD.kp i t) with
          | true =>
            simp only [Bool.and_eq_true] at hkq
            exact hkeep (by simpa [keepAt, ho] using hkq.1) b t u hkq.2 e1
          | false => exact absurd (p5 hsj t e2 hs hkq) (hnoanc j hj hju)
        refine ⟨o', need', Ti, g1, g2, g3, hneed, g5, fun d' hd' => ?_, fun t ht v hv => ?_⟩
        · rw [lk_putR, g6 d' hd']
          intro e
          exact p4 (.inl hsj) d' (by rw [dstAt_eq g1]; exact hd') (by rw [dstAt_eq ho]; exact e)
        · rcases g7 t ht v hv with ⟨m, hm, hmu, ha, hmd, hmv⟩ | ⟨hno, c', h1, h2⟩
          · have him : i ≠ m := by
              rintro rfl
              exact (List.pairwise_append.1 hne).2.2 i hm i (by simp) rfl
            exact .inl ⟨m, by simp [hm], by rw [getD_set_ne true him]; exact hmu, ha, hmd, hmv⟩
          · refine .inr ⟨fun q hq hqu hqj hqd => ?_, c', ?_, h2.mono hk'⟩
            · have hqi : i ≠ q := by
                rintro rfl
                rw [getD_set_self (by rw [h.lsize]; exact hilt)] at hqu
                cases hqu
              rw [getD_set_ne true hqi] at hqu
              rcases List.mem_append.1 hq with hq | hq
              · exact hno q hq hqu hqj hqd
              · simp at hq
                exact absurd hq.symm hqi
            · cases hd : o.dst with
              | none => exact h1
              | some d =>
                have : d ≠ t := by
                  rintro rfl
                  exact hnoanc j hj hju (p3 d (by rw [dstAt_eq ho]; exact hd) (by rw [readsAt_eq g1]; exact ht))
                simp [Act.put, Array.getElem?_setIfInBounds_ne this, h1]
      · simp at hj
        subst hj
        rw [getD_set_self (by rw [h.lsize]; exact hilt)] at hju
        cases hju

theorem lt_of_unl {i : Nat} (h : listed.getD i true = false) : i < listed.size := by
  rcases Nat.lt_or_ge i listed.size with h' | h'
  · exact h'
  · simp [Array.getElem?_eq_none h'] at h

theorem all_listed (C : Checked l N LD mv π) (hl : listed.size = l.length) (hn : Region.ready .any l.toArray listed = []) : ∀ n i, i < n → i < l.length → listed.getD i true = true
  | 0, _, h, _ => by omega
  | n + 1, i, h, hi => by
    apply Classical.byContradiction
    intro hne
    have hu : listed.getD i true = false := by simpa using hne
    obtain ⟨o, ho⟩ : ∃ o, l[i]? = some o := ⟨l[i], by simp [hi]⟩
    have : i ∈ Region.ready .any l.toArray listed := by
      refine mem_ready.2 ⟨hu, o, by simpa using ho, fun e he hb => ?_⟩
      have hlt := C.edge i o e ho he hb
      have hel : e.on < l.length := by omega
      have := all_listed C hl hn n e.on (by omega) hel
      have hsz : e.on < listed.size := by omega
      simpa [hsz] using this
    rw [hn] at this
    cases this

theorem fin (Ch : Chain P N l LD mv Q M) (h : DInv P N l LD M π Q E ro B0 ρ done rest listed T H st w a) (hall : ∀ i, listed.getD i true = true) : Post E N ro B0 Q .normal a w := by
  have hrest : rest = [] := by
    cases rest with
    | nil => rfl
    | cons x r =>
      have := h.unl x (by simp)
      rw [hall] at this
      cases this
  subst hrest
  have hq' : Q .normal T H := Ch.nil T H h.tr
  exact Post.mk h.conc ⟨h.size, fun t v ht => h.frame t v ht fun i hi hiu => by rw [hall] at hiu; cases hiu⟩ h.defs (x := .normal) trivial hq'

/-- First what only reckons, then what 'mv' names, then the rest. -/
def Shape (l : List Oper) (LD : LDs) (mv : Nat → Bool) (π : List Nat) : Prop :=
  ∃ σ A τ, π = σ ++ (A ++ τ) ∧ (∀ j ∈ σ, mv j = false ∧ hardAt l LD.sc j = false) ∧ (∀ a ∈ A, mv a = true) ∧ ∀ t ∈ τ, mv t = false

theorem cut_in {i : Nat} {r2 τ : List Nat} (hτ : ∀ t ∈ τ, t ≠ i) : ∀ (L A : List Nat), L ++ i :: r2 = A ++ τ → ∃ A1 A2, A = A1 ++ i :: A2 ∧ L = A1 ∧ r2 = A2 ++ τ
  | L, [], e => absurd rfl (hτ i (by rw [List.nil_append] at e; rw [← e]; simp))
  | [], a :: A, e => by
    simp only [List.nil_append, List.cons_append, List.cons.injEq] at e
    exact ⟨[], A, by rw [e.1]; rfl, rfl, e.2⟩
  | b :: L, a :: A, e => by
    simp only [List.cons_append, List.cons.injEq] at e
    obtain ⟨A1, A2, e1, e2, e3⟩ := cut_in hτ L A e.2
    exact ⟨b :: A1, A2, by rw [← e.1, e1]; rfl, by rw [e2], e3⟩

theorem cut_mid {i : Nat} {r2 A τ : List Nat} (hτ : ∀ t ∈ τ, t ≠ i) : ∀ (σ L : List Nat), (∀ j ∈ σ, j ≠ i) → L ++ i :: r2 = σ ++ (A ++ τ) → ∃ A1 A2, A = A1 ++ i :: A2 ∧ L = σ ++ A1 ∧ r2 = A2 ++ τ
  | [], L, _, e => by
    obtain ⟨A1, A2, e1, e2, e3⟩ := cut_in hτ L A e
    exact ⟨A1, A2, e1, e2, e3⟩
  | q :: σ, [], h, e => by
    simp only [List.nil_append, List.cons_append, List.cons.injEq] at e
    exact absurd e.1.symm (h q (by simp))
  | q :: σ, b :: L, h, e => by
    simp only [List.cons_append, List.cons.injEq] at e
    obtain ⟨A1, A2, e1, e2, e3⟩ := cut_mid hτ σ L (fun j hj => h j (by simp [hj])) e.2
    exact ⟨A1, A2, e1, by rw [e.1, e2]; rfl, e3⟩

theorem Shape.cut {done r1 r2 : List Nat} {i : Nat} (h : Shape l LD mv (done ++ (r1 ++ i :: r2))) (hi : mv i = true) :
    ∃ s B, r1 = s ++ B ∧ (∀ j ∈ s, hardAt l LD.sc j = false) ∧ (∀ b ∈ B, mv b = true) ∧ Shape l LD mv ((done ++ s) ++ (i :: (B ++ r2))) := by
  obtain ⟨σ, A, τ, e, h1, h2, h3⟩ := h
  have e' : (done ++ r1) ++ i :: r2 = σ ++ (A ++ τ) := by rw [← e]; simp
  obtain ⟨A1, A2, rfl, e1, rfl⟩ := cut_mid (fun t ht x => by rw [x] at ht; rw [h3 i ht] at hi; cases hi) σ _ (fun j hj x => by rw [x] at hj; rw [(h1 i hj).1] at hi; cases hi) e'
  have hA1 : ∀ b ∈ A1, mv b = true := fun b hb => h2 b (by simp [hb])
  have hA2 : ∀ b ∈ A2, mv b = true := fun b hb => h2 b (by simp [hb])
  rcases List.append_eq_append_iff.1 e1 with ⟨s, x1, x2⟩ | ⟨c, x1, x2⟩
  · refine ⟨s, A1, x2, fun j hj => (h1 j (by rw [x1]; simp [hj])).2, hA1, σ, i :: (A1 ++ A2), τ, by rw [x1]; simp, h1, fun a ha => ?_, h3⟩
    simp only [List.mem_cons, List.mem_append] at ha
    rcases ha with rfl | ha | ha
    · exact hi
    · exact hA1 a ha
    · exact hA2 a ha
  · refine ⟨[], r1, rfl, fun j hj => absurd hj List.not_mem_nil, fun b hb => hA1 b (by rw [x2]; simp [hb]), σ, c ++ i :: (r1 ++ A2), τ, by rw [x1]; simp, h1, fun a ha => ?_, h3⟩
    simp only [List.mem_cons, List.mem_append] at ha
    rcases ha with ha | rfl | ha | ha
    · exact hA1 a (by rw [x2]; simp [ha])
    · exact hi
    · exact hA1 a (by rw [x2]; simp [ha])
    · exact hA2 a ha

theorem draw_main (Ch : Chain P N l LD mv Q M) (hsym : ∀ a b, mv a = true → mv b = true → a ≠ b → PR l LD mv a b) (hmh : ∀ a, mv a = true → hardAt l LD.sc a = true) : ∀ (fuel : Nat) (U : List Nat) {π : List Nat} {ρ : Nat → Option AV} {done rest : List Nat} {listed : Array Bool} {T : Tmps} {H : AHeap} {st : Stab} {w : World} {a : Act},
    Checked l N LD mv π → Shape l LD mv π → DInv P N l LD M π Q E ro B0 ρ done rest listed T H st w a → (∀ i, listed.getD i true = false → i ∈ U) → U.length ≤ fuel → wpAnyIn (fen ro) 0 P .any l.toArray (Post E N ro B0 Q) fuel listed a w := by
  intro fuel
  induction fuel with
  | zero =>
    intro U π ρ done rest listed T H st w a C S h hU hf
    have hU0 : U = [] := List.eq_nil_of_length_eq_zero (by omega)
    subst hU0
    have hall : ∀ i, listed.getD i true = true := fun i => by
      cases hh : listed.getD i true with
      | true => rfl
      | false => exact absurd (hU i hh) (by simp)
    refine ⟨?_, ?_⟩
    · cases hr : Region.ready .any l.toArray listed with
      | nil => rfl
      | cons x xs =>
        have : x ∈ Region.ready .any l.toArray listed := by rw [hr]; simp
        have := (mem_ready.1 this).1
        rw [hall] at this
        cases this
    · exact fin Ch h hall
  | succ fuel ih =>
    intro U π ρ done rest listed T H st w a C S h hU hf
    have next : ∀ {i : Nat} {π' : List Nat} {ρ' : Nat → Option AV} {done' rest' : List Nat} {T' : Tmps} {H' : AHeap} {st' : Stab} {w' : World} {a' : Act}, listed.getD i true = false → Checked l N LD mv π' → Shape l LD mv π' →
        DInv P N l LD M π' Q E ro B0 ρ' done' rest' (listed.setIfInBounds i true) T' H' st' w' a' → wpAnyIn (fen ro) 0 P .any l.toArray (Post E N ro B0 Q) fuel (listed.setIfInBounds i true) a' w' := by
      intro i π' ρ' done' rest' T' H' st' w' a' hi C' S' hd
      have hiU := hU i hi
      refine ih (U.erase i) C' S' hd (fun j hj => ?_) ?_
      · have hji : i ≠ j := by
          rintro rfl
          rw [getD_set_self (lt_of_unl hi)] at hj
          cases hj
        rw [getD_set_ne true hji] at hj
        exact (List.mem_erase_of_ne (Ne.symm hji)).2 (hU j hj)
      · rw [List.length_erase_of_mem hiU]
        have := List.length_pos_of_mem hiU
        omega
    refine ⟨fun hn => fin Ch h fun i => ?_, fun i hi => ?_⟩
    · rcases Nat.lt_or_ge i l.length with hlt | hge
      · exact all_listed C h.lsize hn (i + 1) i (by omega) hlt
      · have : ¬ i < listed.size := by rw [h.lsize]; omega
        simp [this]
    · obtain ⟨hiu, o, ho, hr⟩ := mem_ready.1 hi
      have ho' : l[i]? = some o := by simpa using ho
      have hready : ∀ o, l[i]? = some o → ∀ e ∈ o.after, Region.binds .any e = true → listed.getD e.on false = true := fun o2 h2 => by
        rw [ho'] at h2
        cases h2
        exact hr
      have hilt : i < l.length := by have := lt_of_unl hiu; rw [h.lsize] at this; exact this
      have hiπ := C.all i hilt
      rw [h.split] at hiπ
      rcases List.mem_append.1 hiπ with hid | hir
      · exact h.late C hid hiu hready fun st' w' a' hd => next hiu C S hd
      · obtain ⟨r1, r2, hr12⟩ := List.append_of_mem hir
        subst hr12
        have hkey : ∀ j ∈ r1, hardAt l LD.sc j = true → mv j = true ∧ mv i = true := by
          intro j hj hh
          have hpw := C.pair
          rw [h.split] at hpw
          have := (List.pairwise_append.1 (List.pairwise_append.1 hpw).2.1).2.2 j hj i (by simp)
          rcases this.1 hh with ha | hm
          · have := anc_listed h.closed ha (fun o e ho he hb => hready o ho e he hb)
            rw [getD_tf (h.unl j (by simp [hj]))] at this
            cases this
          · exact hm
        cases hmi : mv i with
        | false =>
          have hsoft : ∀ j ∈ r1, hardAt l LD.sc j = false := by
            intro j hj
            cases hh : hardAt l LD.sc j with
            | false => rfl
            | true =>
              have := (hkey j hj hh).2
              rw [hmi] at this
              cases this
          obtain ⟨ρ1, T1, h1⟩ := h.advances Ch C r1 hsoft
          cases hh : hardAt l LD.sc i with
          | true => exact h1.now Ch C hh hready fun st' w' a' T' H' hd => next hiu C S hd
          | false =>
            obtain ⟨ρ2, T2, h2⟩ := h1.advance Ch C hh
            exact h2.late C (by simp) hiu hready fun st' w' a' hd => next hiu C S hd
        | true =>
          have hS := S
          rw [h.split] at hS
          obtain ⟨s, B, rfl, hs1, hs2, S'⟩ := hS.cut hmi
          rw [List.append_assoc] at h
          obtain ⟨ρ1, T1, h1⟩ := h.advances Ch C s hs1
          have hsp := h1.split
          have hne : ∀ b ∈ B, i ≠ b := fun b hb e => by
            have hn := C.ne
            rw [hsp] at hn
            exact (List.pairwise_append.1 (List.pairwise_append.1 hn).2.1).2.2 b hb i (by simp) e.symm
          have hmem : ∀ x, x ∈ (done ++ s) ++ (i :: (B ++ r2)) ↔ x ∈ π := fun x => by
            rw [hsp]
            simp only [List.mem_append, List.mem_cons]
            constructor <;> (intro h; rcases h with h | h | h | h <;> simp [h])
          have C' : Checked l N LD mv ((done ++ s) ++ (i :: (B ++ r2))) := by
            have hne' := C.ne
            have hpr := C.pair
            rw [hsp] at hne' hpr
            exact ⟨fun x hx => C.bound x ((hmem x).1 hx), fun x hx => (hmem x).2 (C.all x hx), fun x hx => C.lt x ((hmem x).1 hx), pairwise_move hne' hne, C.edge, fun x hx => C.one x ((hmem x).1 hx),
              pairwise_move hpr fun b hb => hsym i b hmi (hs2 b hb) (hne b hb)⟩
          have h2 : DInv P N l LD M ((done ++ s) ++ (i :: (B ++ r2))) Q E ro B0 ρ1 (done ++ s) (i :: (B ++ r2)) listed T1 H st w a :=
            ⟨rfl, h1.lsize, h1.closed, fun x hx => h1.unl x (by simp only [List.mem_cons, List.mem_append] at hx ⊢; rcases hx with h | h | h <;> simp [h]), Ch.move B i r2 T1 H hmi hs2 h1.tr, h1.conc, h1.size, h1.defs, h1.frame, h1.pend⟩
          exact h2.now Ch C' (hmh i hmi) hready fun st' w' a' T' H' hd => next hiu C' S' (by simpa using hd)

end draw

theorem areg_chain (hm : P.follows .mixedOrders = true) {LD : LDs} {mv : Nat → Bool} {M : List Nat → Tmps → AHeap → Prop} (π : List Nat) {id : Nat} {l : List Oper} {T : Tmps} {H : AHeap} (Ch : Chain P N l LD mv Q M)
    (hsym : ∀ a b, mv a = true → mv b = true → a ≠ b → PR l LD mv a b) (hmh : ∀ a, mv a = true → hardAt l LD.sc a = true) (C : Checked l N LD mv π) (S : Shape l LD mv π) (h : M π T H) : AWP P N (.region id l.toArray true) T H Q := by
  intro E st w a ro B0 hc hf hd
  refine wpIn_region_any hm ?_
  refine draw_main Ch hsym hmh _ (List.range l.length) (ρ := fun _ => none) (done := []) (rest := π) C S ⟨rfl, by simp, ?_, ?_, h, hc.draw, hf.size, (let ⟨ms, e, hd⟩ := hd; ⟨ms, e, ⟨hd.marks, hd.nodup, hd.size, hd.lrec, hd.gl⟩⟩), ?_, ?_⟩ ?_ (by simp)
  · intro i o e _ hi
    exfalso
    simp only [Array.getD_eq_getD_getElem?, Array.getElem?_replicate] at hi
    split at hi <;> simp at hi
  · intro i hi
    have := C.lt i hi
    simp [this]
  · intro t v ht _
    obtain ⟨c, h1, h2⟩ := hf.val t v ht
    exact ⟨c, h1, h2.mono (Keeps.draw _ _)⟩
  · intro i hi
    cases hi
  · intro i hi
    have := lt_of_unl hi
    simpa using this

theorem chain_tr (hty : TyOk P ty) {l : List Oper} {LD : LDs} : Chain P N l LD (fun _ => false) Q (fun rest T H => TR P N ty l LD false (pQ l Q) (sel l rest) T H) where
  soft := fun i rest T H o h ho hs => by
    simp only [sel, ho] at h
    exact TR.soft hty h rfl (by rw [hardAt_eq ho] at hs; exact hs)
  hard := fun i rest T H o h ho hs => by
    simp only [sel, ho] at h
    exact TR.step hty h rfl (by rw [hardAt_eq ho] at hs; exact hs)
  nil := fun T H h => by
    simp only [sel] at h
    cases h with
    | nil h => exact h
    | know t x b hW => cases hW
  move := fun A i r T H hi _ _ => by cases hi

theorem areg_soft (hm : P.follows .mixedOrders = true) (hty : TyOk P ty) (sc : List Nat) (kc : List (Nat × List Nat)) (π : List Nat) {id : Nat} {l : List Oper} {T : Tmps} {H : AHeap} (hchk : drawOk sc l N π = true)
    (h : TR P N ty l (ldOf sc l (ancsOf l []) kc π) false (pQ l Q) (sel l π) T H) : AWP P N (.region id l.toArray true) T H Q :=
  areg_chain hm π (chain_tr hty) (fun _ _ h => by cases h) (fun _ h => by cases h) (checked_of sc kc (drawOkM_of hchk)) ⟨[], [], π, by simp, fun _ h => absurd h List.not_mem_nil, fun _ h => absurd h List.not_mem_nil, fun _ _ => rfl⟩ h

theorem areg_kept (hm : P.follows .mixedOrders = true) (hty : TyOk P ty) (kc : List (Nat × List Nat)) (π : List Nat) {id : Nat} {l : List Oper} {T : Tmps} {H : AHeap} (hchk : drawOk [] l N π = true)
    (h : TR P N ty l (ldOf [] l (ancsOf l []) kc π) false (pQ l Q) (sel l π) T H) : AWP P N (.region id l.toArray true) T H Q :=
  areg_soft hm hty [] kc π hchk h

theorem areg_draw (hm : P.follows .mixedOrders = true) (hty : TyOk P ty) (π : List Nat) {id : Nat} {l : List Oper} {T : Tmps} {H : AHeap} (hchk : drawOk [] l N π = true)
    (h : TR P N ty l (ldOf [] l (ancsOf l []) (kcAuto l) π) false (pQ l Q) (sel l π) T H) : AWP P N (.region id l.toArray true) T H Q :=
  areg_kept hm hty (kcAuto l) π hchk h

/-! Several allocations in any order. -/

/-- A step at place a that goes on with M. -/
def OneO (P : Program) (N : Nat) (l : List Oper) (LD : LDs) (a : Nat) (T : Tmps) (H : AHeap) (M : Tmps → AHeap → Prop) : Prop :=
  ∃ (o : Oper) (K : Option AV → AHeap → Prop), l[a]? = some o ∧ (∀ Q2, StepH P N l o T H K Q2) ∧ ∀ r H', K r H' → M (putR o.dst r T) H' ∧ (r = none → ∀ d, o.dst = some d → lk T d = none) ∧ (keepOp o.op = true → KeepB LD a H H')

theorem OneO.mono {l : List Oper} {LD : LDs} {a : Nat} {T : Tmps} {H : AHeap} {M M' : Tmps → AHeap → Prop} (h : OneO P N l LD a T H M) (hm : ∀ T H, M T H → M' T H) : OneO P N l LD a T H M' :=
  let ⟨o, K, h1, h2, h3⟩ := h; ⟨o, K, h1, h2, fun r H' hK => ⟨hm _ _ (h3 r H' hK).1, (h3 r H' hK).2⟩⟩

def AllO (P : Program) (N : Nat) (ty : TypeId → Option TyI) (l : List Oper) (LD : LDs) (Q : APost) (τ : List Nat) : Nat → List Nat → Tmps → AHeap → Prop
  | 0, _, T, H => TR P N ty l LD false (pQ l Q) (sel l τ) T H
  | n + 1, A, T, H => ∀ a ∈ A, OneO P N l LD a T H (AllO P N ty l LD Q τ n (A.erase a))

theorem AllO.perm {l : List Oper} {LD : LDs} {τ : List Nat} : ∀ (n : Nat) {A A' : List Nat} {T : Tmps} {H : AHeap}, A.Perm A' → AllO P N ty l LD Q τ n A T H → AllO P N ty l LD Q τ n A' T H
  | 0, _, _, _, _, _, h => h
  | n + 1, A, A', T, H, hp, h => fun a ha => by
    exact (h a (hp.mem_iff.2 ha)).mono fun T H h => AllO.perm n (hp.erase a) h

theorem step_alloc (hty : TyOk P ty) {o : Oper} {t : TypeId} {ti : TyI} {T : Tmps} {H : AHeap} {l0 : List Oper} (ho : o.op = .alloc t) (hg : o.guard = none) (ht : ty t = some ti) :
    StepH P N l0 o T H (fun r H' => ∃ b, r = some (.ptr b 0) ∧ H' = .box b t ti.zero :: H) Q := by
  intro E st w a ro B0 next hc hsz hd2 hf _ hk
  rw [if_pos (wanted_none hg)]
  refine (hard_alloc (F := fun _ => none) hty ho ht (Env0.of w st H) st w a ro next (Post E N ro B0 Q) hc.start (fun y u hy => by cases hy) hd2.gl ?_ ?_)
  · intro st' w' v c H' h1 h2 h3 h4
    obtain ⟨b, e1, e2⟩ := h4
    cases e1
    exact hk st' w' c (some _) H' (hc.trans h1) (hd2.keep h1) h2 (fun u hu => by cases hu; exact h3) ⟨b, rfl, e2⟩
  · intro st' w' v c H' h1 h2 h3 h4
    obtain ⟨b, e1, _⟩ := h4
    cases e1

theorem one_alloc (hty : TyOk P ty) {l : List Oper} {LD : LDs} {a : Nat} {o : Oper} {t : TypeId} {ti : TyI} {d : Nat} {T : Tmps} {H : AHeap} {M : Tmps → AHeap → Prop} (hl : l[a]? = some o) (ho : o.op = .alloc t) (hg : o.guard = none) (hd : o.dst = some d)
    (ht : ty t = some ti) (k : ∀ b, M ((d, .ptr b 0) :: T) (.box b t ti.zero :: H)) : OneO P N l LD a T H M := by
  refine ⟨o, _, hl, fun Q2 => step_alloc hty ho hg ht, ?_⟩
  rintro r H' ⟨b, rfl, rfl⟩
  refine ⟨?_, fun h => (by cases h), fun _ => KeepB.cons _ _⟩
  rw [hd]
  exact k b

theorem one_pcall {l : List Oper} {LD : LDs} {a : Nat} {o : Oper} {cf : Operand} {args : Array Operand} {ats : Array TypeId} {f : FuncId} {first captured vs : List AV} {u : AV} {d : Nat} {T : Tmps} {H : AHeap} {M : Tmps → AHeap → Prop} (hl : l[a]? = some o) (hg : o.guard = none)
    (ho : o.op = .call { callee := .value cf, args := args, argTypes := ats }) (hd : o.dst = some d) (hon : optN True T (tmpsOf o.op))
    (hf : opvL (tmpsOf o.op) T cf = some (.func (.func f) first captured)) (hm : mapF (opvL (tmpsOf o.op) T) args.toList = some vs) (h : PCalls P f (first ++ vs ++ captured) u)
    (k : M ((d, u) :: T) H) : OneO P N l LD a T H M := by
  refine ⟨o, fun r H' => r = some u ∧ H' = H, hl, fun Q2 E st w a ro B0 next hc hsz hd2 hf2 _ hk => ?_, ?_⟩
  · rw [if_pos (wanted_none hg)]
    refine (hard_call (Hc := []) (G := H) ho hf hm (List.Perm.refl _) h) (Env0.of w st H) st w a ro next (Post E N ro B0 Q2) hc.start (fun y u hy => opvL_rep (N := N) (fun t ht => hf2 t (reads_t ht)) hon trivial hsz hy) hd2.gl ?_ ?_
    · rintro st' w' v c H' h1 h2 h3 ⟨Hc', rfl, e, rfl⟩
      cases e
      exact hk st' w' c (some _) _ (hc.trans h1) (hd2.keep h1) h2 (fun u hu => by cases hu; exact h3) ⟨rfl, rfl⟩
    · rintro st' w' v c H' h1 h2 h3 ⟨Hc', rfl, e, rfl⟩
      cases e
  · rintro r H' ⟨rfl, rfl⟩
    refine ⟨?_, fun h => (by cases h), fun _ => KeepB.refl _⟩
    rw [hd]
    exact k

def Qs (P : Program) (N : Nat) (ty : TypeId → Option TyI) (l : List Oper) (LD : LDs) (Q : APost) (τ A : List Nat) : APost := fun x T H => match x with
  | .normal => AllO P N ty l LD Q τ A.length A T H
  | x => Q x T H

def CH (P : Program) (N : Nat) (ty : TypeId → Option TyI) (l : List Oper) (LD : LDs) (mv : Nat → Bool) (Q : APost) (τ : List Nat) (rest : List Nat) (T : Tmps) (H : AHeap) : Prop :=
  (TR P N ty l LD false (pQ l Q) (sel l rest) T H ∧ ∀ t ∈ rest, mv t = false) ∨
  ∃ s A, rest = s ++ (A ++ τ) ∧ A ≠ [] ∧ (∀ j ∈ s, mv j = false ∧ hardAt l LD.sc j = false) ∧ (∀ a ∈ A, mv a = true) ∧ TR P N ty l LD false (pQ l (Qs P N ty l LD Q τ A)) (sel l s) T H

theorem chain_ch (hty : TyOk P ty) {l : List Oper} {LD : LDs} {mv : Nat → Bool} {τ : List Nat} (hmh : ∀ a, mv a = true → hardAt l LD.sc a = true) (hτ : ∀ t ∈ τ, mv t = false) : Chain P N l LD mv Q (CH P N ty l LD mv Q τ) where
  soft := fun i rest T H o h ho hs => by
    have hsi : hardAt l LD.sc i = false := hs
    rcases h with ⟨h, hn⟩ | ⟨s, A, e, hA, h1, h2, h⟩
    · simp only [sel, ho] at h
      obtain ⟨res, need, g1, g2, g3, g4, g5⟩ := TR.soft hty h rfl (by rw [hardAt_eq ho] at hs; exact hs)
      exact ⟨res, need, g1, g2, g3, .inl ⟨g4, fun t ht => hn t (by simp [ht])⟩, g5⟩
    · cases s with
      | nil =>
        cases A with
        | nil => exact absurd rfl hA
        | cons a A =>
          simp only [List.nil_append, List.cons_append, List.cons.injEq] at e
          have := hmh a (h2 a (by simp))
          rw [← e.1, hsi] at this
          cases this
      | cons q s =>
        simp only [List.cons_append, List.cons.injEq] at e
        obtain ⟨rfl, rfl⟩ := e
        simp only [sel, ho] at h
        obtain ⟨res, need, g1, g2, g3, g4, g5⟩ := TR.soft hty h rfl (by rw [hardAt_eq ho] at hs; exact hs)
        exact ⟨res, need, g1, g2, g3, .inr ⟨s, A, rfl, hA, fun j hj => h1 j (by simp [hj]), h2, g4⟩, g5⟩
  hard := fun i rest T H o h ho hs => by
    have hsi : hardAt l LD.sc i = true := hs
    rcases h with ⟨h, hn⟩ | ⟨s, A, e, hA, h1, h2, h⟩
    · simp only [sel, ho] at h
      obtain ⟨K, g1, g2⟩ := TR.step hty h rfl (by rw [hardAt_eq ho] at hs; exact hs)
      exact ⟨K, g1, fun r H' hK => ⟨.inl ⟨(g2 r H' hK).1, fun t ht => hn t (by simp [ht])⟩, (g2 r H' hK).2⟩⟩
    · cases s with
      | cons q s =>
        simp only [List.cons_append, List.cons.injEq] at e
        have := (h1 q (by simp)).2
        rw [← e.1, hsi] at this
        cases this
      | nil =>
        cases A with
        | nil => exact absurd rfl hA
        | cons a A =>
          simp only [List.nil_append, List.cons_append, List.cons.injEq] at e
          obtain ⟨rfl, rfl⟩ := e
          simp only [sel] at h
          have h' : AllO P N ty l LD Q τ (i :: A).length (i :: A) T H := by
            cases h with
            | nil h => exact h
            | know t x b hW => cases hW
          obtain ⟨o', K, e1, e2, e3⟩ := h' i (by simp)
          rw [ho] at e1
          cases e1
          refine ⟨K, e2 Q, ?_⟩
          intro r H' hK
          obtain ⟨g1, g2, g3⟩ := e3 r H' hK
          refine ⟨?_, g2, g3⟩
          rw [List.erase_cons_head] at g1
          cases A with
          | nil => exact .inl ⟨g1, hτ⟩
          | cons a A => exact .inr ⟨[], a :: A, rfl, by simp, fun j hj => absurd hj List.not_mem_nil, fun x hx => h2 x (by simp [hx]), .nil g1⟩
  nil := fun T H h => by
    rcases h with ⟨h, _⟩ | ⟨s, A, e, hA, _⟩
    · simp only [sel] at h
      cases h with
      | nil h => exact h
      | know t x b hW => cases hW
    · cases s <;> cases A <;> simp at e hA
  move := fun A0 i r T H hi h0 h => by
    rcases h with ⟨_, hn⟩ | ⟨s, A, e, hA, h1, h2, h⟩
    · have := hn i (by simp)
      rw [hi] at this
      cases this
    · have hs : s = [] := by
        cases s with
        | nil => rfl
        | cons q s =>
          have hq := (h1 q (by simp)).1
          cases A0 with
          | nil =>
            simp only [List.nil_append, List.cons_append, List.cons.injEq] at e
            rw [← e.1, hi] at hq
            cases hq
          | cons b B =>
            simp only [List.cons_append, List.cons.injEq] at e
            have := h0 b (by simp)
            rw [e.1, hq] at this
            cases this
      subst hs
      obtain ⟨A1, A2, rfl, rfl, rfl⟩ := cut_in (fun t ht x => by rw [x] at ht; rw [hτ i ht] at hi; cases hi) A0 A (by simpa using e)
      simp only [sel] at h
      have h' : AllO P N ty l LD Q τ (A0 ++ i :: A2).length (A0 ++ i :: A2) T H := by
        cases h with
        | nil h => exact h
        | know t x b hW => cases hW
      have hp : (A0 ++ i :: A2).Perm (i :: (A0 ++ A2)) := List.perm_middle
      refine .inr ⟨[], i :: (A0 ++ A2), by simp, by simp, fun j hj => absurd hj List.not_mem_nil, fun x hx => h2 x (hp.mem_iff.2 hx), .nil ?_⟩
      have := AllO.perm _ hp h'
      rw [hp.length_eq] at this
      exact this

def allocsOk (l : List Oper) (σ A τ : List Nat) : Bool :=
  A.all (hardAt l (fun x => ([] : List Nat).contains x)) && A.all (fun a => A.all fun b => Nat.beq a b || pairOkM [] l (ancsOf l []) (fun i => A.contains i) a b) && σ.all (fun j => !A.contains j && !hardAt l (fun x => ([] : List Nat).contains x) j) && τ.all (fun t => !A.contains t) && !A.isEmpty

theorem areg_allocs (hm : P.follows .mixedOrders = true) (hty : TyOk P ty) (σ A τ : List Nat) {id : Nat} {l : List Oper} {T : Tmps} {H : AHeap} (hchk : drawOkM [] l N (fun i => A.contains i) (σ ++ (A ++ τ)) = true) (hA : allocsOk l σ A τ = true)
    (h : TR P N ty l (ldOf [] l (ancsOf l []) [] (σ ++ (A ++ τ))) false (pQ l (Qs P N ty l (ldOf [] l (ancsOf l []) [] (σ ++ (A ++ τ))) Q τ A)) (sel l σ) T H) : AWP P N (.region id l.toArray true) T H Q := by
  simp only [allocsOk, Bool.and_eq_true, List.all_eq_true, Bool.not_eq_true', Bool.or_eq_true] at hA
  obtain ⟨⟨⟨⟨a1, a2⟩, a3⟩, a4⟩, a5⟩ := hA
  have hmem : ∀ a, A.contains a = true → a ∈ A := fun a ha => by simpa using ha
  have hmem' : ∀ a ∈ A, A.contains a = true := fun a ha => by simpa using ha
  have hmh : ∀ a, A.contains a = true → hardAt l (fun x => ([] : List Nat).contains x) a = true := fun a ha => a1 a (hmem a ha)
  refine areg_chain hm (mv := fun i => A.contains i) (σ ++ (A ++ τ)) (chain_ch hty hmh a4) (fun a b ha hb hne => ?_) hmh (checked_of [] [] hchk) ⟨σ, A, τ, rfl, a3, hmem', a4⟩
    (.inr ⟨σ, A, rfl, by rintro rfl; simp at a5, a3, hmem', h⟩)
  have hp : pairOkM [] l (ancsOf l []) (fun i => A.contains i) a b = true := by
    rcases a2 a (hmem a ha) b (hmem b hb) with e | e
    · exact absurd (Nat.eq_of_beq_eq_true e) hne
    · exact e
  obtain ⟨p1, p2, p3, p4⟩ := pairOkM_spec hp
  refine ⟨p1, p2, p3, p4, fun hs => ?_⟩
  exact absurd (show true = false from (hmh a ha).symm.trans hs) (by simp)

theorem sel_range' : ∀ (suf pre l : List Oper), l = pre ++ suf → sel l (List.range' pre.length suf.length) = ix pre.length suf
  | [], _, _, _ => rfl
  | o :: suf, pre, l, e => by
    have h : l[pre.length]? = some o := by rw [e]; simp
    have := sel_range' suf (pre ++ [o]) l (by rw [e]; simp)
    simp only [List.length_append, List.length_cons, List.length_nil, Nat.zero_add] at this
    simp only [List.length_cons, List.range'_succ, sel, h, ix, this]

theorem sel_range (l : List Oper) : sel l (List.range l.length) = ix 0 l := by
  rw [List.range_eq_range']
  exact sel_range' l [] l rfl

theorem areg_text (hm : P.follows .mixedOrders = true) (hty : TyOk P ty) {id : Nat} {l : List Oper} {T : Tmps} {H : AHeap} (hchk : drawOk [] l N (List.range l.length) = true)
    (h : TR P N ty l (ldOf [] l (ancsOf l []) (kcAuto l) (List.range l.length)) false (pQ l Q) (ix 0 l) T H) : AWP P N (.region id l.toArray true) T H Q :=
  areg_draw hm hty _ hchk (by rw [sel_range]; exact h)
end
end Go.Ab
