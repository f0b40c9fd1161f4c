/-
  More steps of a region.
-/
import Derived.Test.YtgbmanmcioailaaDoorAb11
namespace Go.Ab

theorem sl_tail {α : Type} [Inhabited α] (f : α → List AV) (sz : Nat) (x : α) (xs : List α) (o : Own) :
    Sub (.slice sz ((x :: xs).length - (1 : Int).toNat) (fun i => f ((x :: xs).getD ((1 : Int).toNat + i) default)) o) (sl f sz xs o) := by
  refine Sub.el fun i _ => ?_
  have : (1 : Int).toNat + i = i + 1 := by omega
  rw [this]
  rfl

theorem Sub.nilso (sz : Nat) (el : Nat → List AV) : Sub .nils (.slice sz 0 el (.own none 0)) := by
  intro st w c h
  cases h
  exact .slice sz 0 el (.own none 0) none 0 0 0 (fun _ _ => undef) (Nat.le_refl _) (.inl rfl) (fun i hi => absurd hi (by omega)) (fun i j hi => absurd hi (by omega)) (fun i j v hi => absurd hi (by omega)) ⟨rfl, rfl⟩ (fun i j hi => absurd hi (by omega))

section
variable {P : Program} {N : Nat} {ty : TypeId → Option TyI} {l0 : List Oper} {LD : LDs} {W : Bool} {Q : APost} {n : Nat} {o : Oper} {l : List (Nat × Oper)} {T : Tmps} {H : AHeap}

/-- A comparison whose outcome is known. -/
theorem TR.pureB (b : Bool) {p : Prop} {c : Bool} {d : Nat} (hg : o.guard = none) (hd : o.dst = some d) (hN : Nat.ble (d + 1) N = true) (hv : aeval ty (opvL (tmpsOf o.op) T) o.op = some (p, .bool c))
    (ho : optN True T (tmpsOf o.op)) (hc : c = b) (hp : p) (k : TR P N ty l0 LD W Q l ((d, .bool b) :: T) H) : TR P N ty l0 LD W Q ((n, o) :: l) T H :=
  TR.pure p (.bool c) d hg hd hN hv ho hp (by rw [hc]; exact k)

/-- A call that is handed the whole heap. -/
theorem TR.hcallA {cf : Operand} {args : Array Operand} {ats : Array TypeId} {f : FuncId} {first captured vs : List AV} {K : ARes → AHeap → Prop} (hg : o.guard = none)
    (ho : o.op = .call { callee := .value cf, args := args, argTypes := ats }) (hN : dstOk o.dst N = true) (hon : optN True T (tmpsOf o.op))
    (hf : opvL (tmpsOf o.op) T cf = some (.func (.func f) first captured)) (hm : mapF (opvL (tmpsOf o.op) T) args.toList = some vs) (h : ACalls P f (first ++ vs ++ captured) H K)
    (k : ∀ v H', K (.ret v) H' → TR P N ty l0 LD W Q l (putO o.dst v T) H') (kp : ∀ v H', K (.panic v) H' → Q (.panic v) T H') (hkb : ∀ v H', K (.ret v) H' → KeepB LD n H H' := by intro _ _ _ _ _ _ h _; cases h) (hsc : LD.sc n = false := by exact rfl) : TR P N ty l0 LD W Q ((n, o) :: l) T H :=
  TR.hcall (G := []) hg ho hN hon hf hm (by rw [List.append_nil]) h (fun v H' hk => by rw [List.append_nil]; exact k v H' hk) (fun v H' hk => by rw [List.append_nil]; exact kp v H' hk) (fun v H' hk => by rw [List.append_nil]; exact hkb v H' hk) hsc

/-- The end of a function without results. -/
theorem fnQ_none {rs : List ResultVar} {K : AHeap → Prop} {x : AX} (hx : isRet x = true) (hr : rs = []) (h : K H) : fnQ ty rs (fun r H' => r = .ret (.tuple []) ∧ K H') x T H :=
  fnQ_ret (vs := []) 0 hx (by rw [hr]; exact .nil) (Sub.refl _) ⟨rfl, h⟩

/-- A call that is handed a tail of the heap. -/
theorem TR.hcallT {cf : Operand} {args : Array Operand} {ats : Array TypeId} {f : FuncId} {first captured vs : List AV} (G : AHeap) {Hc : AHeap} {K : ARes → AHeap → Prop} (hg : o.guard = none)
    (ho : o.op = .call { callee := .value cf, args := args, argTypes := ats }) (hN : dstOk o.dst N = true) (hon : optN True T (tmpsOf o.op))
    (hf : opvL (tmpsOf o.op) T cf = some (.func (.func f) first captured)) (hm : mapF (opvL (tmpsOf o.op) T) args.toList = some vs) (hp : H = G ++ Hc) (h : ACalls P f (first ++ vs ++ captured) Hc K)
    (k : ∀ v H', K (.ret v) H' → TR P N ty l0 LD W Q l (putO o.dst v T) (G ++ H')) (kp : ∀ v H', K (.panic v) H' → Q (.panic v) T (G ++ H')) (hkb : ∀ v H', K (.ret v) H' → KeepB LD n H (G ++ H') := by intro _ _ _ _ _ _ h _; cases h) (hsc : LD.sc n = false := by exact rfl) : TR P N ty l0 LD W Q ((n, o) :: l) T H := by
  refine TR.hard (fun r H' => ∃ Hc', H' = G ++ Hc' ∧ K r Hc') (.inr (by rw [ho]; rfl)) hg hN hon ?_ ?_ ?_ (fun _ v H' ⟨Hc', e, hK⟩ => e ▸ hkb v Hc' hK) (fun _ => hsc)
  · intro E st w a r next Q hc hF hout hr hpn
    refine hard_call (Hc := Hc) (G := G) ho hf hm (by rw [hp]; exact List.perm_append_comm) h E st w a r next Q hc hF hout ?_ ?_
    · rintro st' w' u c H' h1 h2 h3 ⟨Hc', rfl, h4⟩
      exact hr st' w' u c _ (h1.perm List.perm_append_comm) h2 h3 ⟨Hc', rfl, h4⟩
    · rintro st' w' u c H' h1 h2 h3 ⟨Hc', rfl, h4⟩
      exact hpn st' w' u c _ (h1.perm List.perm_append_comm) h2 h3 ⟨Hc', rfl, h4⟩
  · rintro v H' ⟨Hc', rfl, e⟩
    exact k v Hc' e
  · rintro v H' ⟨Hc', rfl, e⟩
    exact kp v Hc' e

theorem Conc.tok0 {E : Env0} {st : Stab} {w : World} (h : Conc E st H w) (sz : Nat) (e : TypeId) : Conc E st (.tok none 0 0 sz e :: H) w := by
  have hno : ∀ k, ¬ (Ent.tok none 0 0 sz e).owns k := fun k hk => absurd hk.1 (by omega)
  refine ⟨h.os, h.tape, h.output, h.size, h.old, h.keep, h.stle, h.stnew, h.stlt, ?_, ?_, ?_, ?_⟩
  · rintro k ⟨e', he, hk⟩
    rcases List.mem_cons.1 he with rfl | he
    · exact absurd hk (hno k)
    · exact h.ownnew k ⟨e', he, hk⟩
  · rintro k ⟨e', he, hk⟩
    rcases List.mem_cons.1 he with rfl | he
    · exact absurd hk (hno k)
    · exact h.ownlt k ⟨e', he, hk⟩
  · intro e' he
    rcases List.mem_cons.1 he with rfl | he
    · exact .inl rfl
    · exact h.ents e' he
  · exact List.pairwise_cons.2 ⟨fun e' _ k hk => absurd hk (hno k), h.sep⟩

/-- The room of a slice that is nil. -/
theorem awp_tok0 {c : Code} (sz : Nat) (e : TypeId) (h : AWP P N c T (.tok none 0 0 sz e :: H) Q) : AWP P N c T H Q :=
  fun E st w a r B h1 h2 h3 => h E st w a r B (h1.tok0 sz e) h2 (h3.sub fun k ⟨e2, he, hk⟩ => by
    rcases List.mem_cons.1 he with rfl | he
    · exact absurd hk.1 (by omega)
    · exact ⟨e2, he, hk⟩)

theorem awp_loopP {c : Code} {ι : Type} (I : ι → Tmps) (J : ι → AHeap) (μ : ι → Nat) (i0 : ι) (h0 : Weak T (I i0)) (hJ : ∃ F, H.Perm (F ++ J i0))
    (round : ∀ i, AWP P N c (I i) (J i) (thenQ (fun T' H' => ∃ i', Weak T' (I i') ∧ (∃ F, H'.Perm (F ++ J i')) ∧ μ i' < μ i) Q)) : AWP P N (.loop c) T H Q := by
  refine awp_loop ι I J μ ?_ fun i => awp_mono (round i) ?_
  · intro E st w a h1 h2
    obtain ⟨F, hF⟩ := hJ
    exact ⟨st, I i0, J i0, (h1.perm hF).drop_front, h2.weaken h0.spec, i0, rfl, rfl⟩
  · intro x T' H' hx
    cases x with
    | normal =>
      obtain ⟨i', h3, ⟨F, hF⟩, h5⟩ := hx
      intro E st w a h1 h2
      exact ⟨st, I i', J i', (h1.perm hF).drop_front, h2.weaken h3.spec, i', rfl, rfl, h5⟩
    | _ => exact hx

theorem dropP1 {e : Ent} {J J' : AHeap} (h : J = J') : ∃ F, (e :: J).Perm (F ++ J') := ⟨[e], by rw [h]; exact List.Perm.refl _⟩
theorem dropP0 {J J' : AHeap} (h : J = J') : ∃ F, J.Perm (F ++ J') := ⟨[], by rw [h]; exact List.Perm.refl _⟩

end
end Go.Ab
