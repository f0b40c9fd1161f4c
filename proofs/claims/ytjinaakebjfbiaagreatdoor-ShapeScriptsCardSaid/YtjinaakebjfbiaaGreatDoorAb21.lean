/-
  Where ways meet again, whatever the order of the heap.
-/
import Derived.Test.YtjinaakebjfbiaaGreatDoorAbB
namespace Go.Ab

theorem allO_zero {P : Program} {N : Nat} {ty : TypeId → Option TyI} {l : List Oper} {LD : LDs} {Q : APost} {τ A : List Nat} {T : Tmps} {H : AHeap} (h : TR P N ty l LD false (pQ l Q) (sel l τ) T H) : AllO P N ty l LD Q τ 0 A T H := h
theorem awp_permS {P : Program} {N : Nat} {c : Code} {T : Tmps} {H H' : AHeap} {Q : APost} (hp : H'.Perm H) (h : AWP P N c T H Q) : AWP P N c T H' Q := fun E st w a r B hc hf hd =>
  h E st w a r B (hc.perm hp) hf (hd.sub fun _ ⟨e, he, hk⟩ => ⟨e, hp.mem_iff.2 he, hk⟩)
theorem cutKP {P : Program} {N : Nat} {Q : APost} {K : Tmps → AHeap → Prop} {c : Code} {Wk : Tmps} {H0 : AHeap} (hK : ∀ T' H', AWP P N c T' H' Q → K T' H') (hA : AWP P N c Wk H0 Q) : ∀ T' H', Weak T' Wk → H'.Perm H0 → K T' H' :=
  fun _ _ hw hp => hK _ _ (awp_weaken (Weak.spec hw) (awp_permS hp hA))

theorem subAgg {vs vs' : List AV} (h : SubL vs vs') : Sub (.agg vs) (.agg vs') := by
  intro st w c hr
  cases hr with
  | agg _ cs hl hh =>
    exact .agg vs' cs (by rw [hl, h.length]) fun j v' x hv hx => by
      obtain ⟨v, h1, h2⟩ := h.get j v' hv
      exact h2 _ _ _ (hh j v x h1 hx)

/-- e stands in H; G: the others. -/
inductive Pick : AHeap → Ent → AHeap → Prop
  | here {e : Ent} {G : AHeap} : Pick (e :: G) e G
  | there {y e : Ent} {H G : AHeap} (h : Pick H e G) : Pick (y :: H) e (y :: G)

theorem Pick.perm {H G : AHeap} {e : Ent} (h : Pick H e G) : H.Perm (e :: G) := by
  induction h with
  | here => exact List.Perm.refl _
  | there _ ih => exact (ih.cons _).trans (List.Perm.swap _ _ _)

section
variable {P : Program} {N : Nat} {ty : TypeId → Option TyI} {l0 : List Oper} {LD : LDs} {W : Bool} {Q : APost} {n : Nat} {o : Oper} {l : List (Nat × Oper)} {T : Tmps} {H : AHeap}

/-- A call that is handed one box, wherever it stands; it comes to stand first. -/
theorem qcallE {cf : Operand} {args : Array Operand} {ats : Array TypeId} {f : FuncId} {first captured vs : List AV} {b0 : Nat} {t0 : TypeId} {u0 u1 : AV} {G : AHeap} {u : AV} {d : Nat}
    (hp : Pick H (.box b0 t0 u0) G) (h : ACalls P f (first ++ vs ++ captured) [.box b0 t0 u0] fun r H' => r = .ret u ∧ H' = [.box b0 t0 u1])
    (k : TR P N ty l0 LD W Q l ((d, u) :: T) (.box b0 t0 u1 :: G))
    (hg : o.guard = none := by exact rfl) (ho : o.op = .call { callee := .value cf, args := args, argTypes := ats } := by exact rfl) (hd : o.dst = some d := by exact rfl)
    (hN : dstOk o.dst N = true := by exact rfl) (hon : optN True T (tmpsOf o.op) := by exact True.intro) (hf : opvL (tmpsOf o.op) T cf = some (.func (.func f) first captured) := by exact rfl)
    (hm : mapF (opvL (tmpsOf o.op) T) args.toList = some vs := by exact rfl) (hkb : LD.kp n t0 = false := by exact rfl) (hsc : LD.sc n = false := by exact rfl) : TR P N ty l0 LD W Q ((n, o) :: l) T H := by
  refine TR.hcall (Hc := [.box b0 t0 u0]) (G := G) hg ho hN hon hf hm hp.perm h (fun v H' hK => ?_) (fun v H' hK => ?_) (fun v H' hK => ?_) hsc
  · obtain ⟨e1, rfl⟩ := hK
    cases e1
    rw [hd]
    exact k
  · obtain ⟨e1, rfl⟩ := hK
    cases e1
  · obtain ⟨e1, rfl⟩ := hK
    intro b t u ht hm2
    rcases List.mem_cons.1 (hp.perm.mem_iff.1 hm2) with e | e
    · cases e
      rw [ht] at hkb
      cases hkb
    · exact List.mem_cons_of_mem _ e

end
end Go.Ab
