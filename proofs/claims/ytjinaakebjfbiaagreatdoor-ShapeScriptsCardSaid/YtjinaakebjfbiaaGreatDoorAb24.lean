/-
  Arrays as values: built of parts, one part taken.
-/
import Derived.Test.YtjinaakebjfbiaaGreatDoorAb23
namespace Go.Ab
section
variable {P : Program} {N : Nat} {ty : TypeId → Option TyI} {l0 : List Oper} {LD : LDs} {W : Bool} {Q : APost} {n : Nat} {o : Oper} {l : List (Nat × Oper)} {T : Tmps} {H : AHeap}

theorem run_buildA (hty : TyOk P ty) {st : Stab} {w : World} {t e : TypeId} {i ei : TyI} {m : Nat} {z cells : List AV} (hti : ty t = some i) (hk : i.k = .array m e) (hz : i.zero = .agg z) (hei : ty e = some ei)
    {ps : List (Nat × AV)} {xs : List (Nat × Value)} (hb : abuild (partsFs e ei.size 0 m) ty z ps = some cells)
    (hxl : xs.length = ps.length) (hx : ∀ (j : Nat) p x, ps[j]? = some p → xs[j]? = some x → p.1 = x.1 ∧ Rep st w p.2 x.2) :
    ∃ c, (Instr.build t ⟨xs⟩).run P w = .ok c w ∧ Rep st w (.agg cells) c := by
  obtain ⟨⟨d, hd, hkf⟩, inf, zv, hinf, hsz, hby, hzz, hzs, hzr⟩ := hty t i hti
  obtain ⟨-, inf2, _, hinf2, hsz2, -⟩ := hty e ei hei
  rw [hk] at hkf
  obtain rfl : d = .array m e := hkf
  have hzr' := hzr.1 st w
  rw [hz] at hzr'
  cases hzr' with
  | agg _ zc hzl hzc =>
    obtain ⟨cs', h1, h2, h3⟩ := abuild_sound (st := st) (w := w) (ty := ty) (fs := partsFs e ei.size 0 m) (place := fun i => some (i * ei.size, ei.size))
      (fun f off ft i hf hi => by
        obtain ⟨rfl, rfl⟩ := partsFs_get e ei.size m 0 f off ft hf
        rw [hei] at hi
        simp at hi
        subst hi
        simp) ps xs z cells zc hb hzl hzc hxl hx
    refine ⟨.agg ⟨cs'⟩, ?_, .agg cells cs' h2 h3⟩
    unfold Instr.build
    have hzv : (zeroValue t).run P w = .ok (.agg ⟨zc⟩) w := by rw [run_zeroValue hinf hzz]
    have hso : (sizeOf e).run P w = .ok ei.size w := by rw [run_sizeOf hinf2, hsz2]
    rw [Sem.run_bind, hzv, Result.andThen_ok, Sem.run_bind, run_underlying hd, Result.andThen_ok]
    simp only [Sem.run_bind]
    rw [hso, Result.andThen_ok]
    have h1' : Instr.fill (fun i => some (i * ei.size, ei.size)) (Value.agg ⟨zc⟩).cells xs = some ⟨cs'⟩ := h1
    simp only [h1']
    rfl

/-- An array of parts. -/
theorem qarr (hty : TyOk P ty) {t e : TypeId} {ps : Array (Nat × Operand)} {i ei : TyI} {m : Nat} {z cells : List AV} {vs : List (Nat × AV)} {d : Nat} (k' : TR P N ty l0 LD W Q l ((d, .agg cells) :: T) H)
    (ho : o.op = .build t ps := by exact rfl) (hg : o.guard = none := by exact rfl) (hd : o.dst = some d := by exact rfl) (hN : Nat.ble (d + 1) N = true := by exact rfl)
    (hon : optN True T (tmpsOf o.op) := by exact True.intro) (hti : ty t = some i := by exact rfl) (hk : i.k = .array m e := by exact rfl) (hz : i.zero = .agg z := by exact rfl) (he : ty e = some ei := by exact rfl)
    (hm : mapP (opvL (tmpsOf o.op) T) ps.toList = some vs := by exact rfl) (hb : abuild (partsFs e ei.size 0 m) ty z vs = some cells := by exact rfl) : TR P N ty l0 LD W Q ((n, o) :: l) T H := by
  refine TR.sem (.agg cells) d hg hd hN hon (fun st w ρ hF => ?_) k'
  obtain ⟨hl, hr⟩ := mapP_sound hF _ _ hm
  obtain ⟨c, h1, h2⟩ := run_buildA (st := st) (w := w) hty hti hk hz he hb hl hr
  refine ⟨c, ?_, h2⟩
  obtain ⟨dst, op', type, pos, after, guard⟩ := o
  simp only at ho
  subst ho
  have e' : (ps.map fun (x : Nat × Operand) => (x.1, ρ x.2)) = ⟨ps.toList.map fun p => (p.1, ρ p.2)⟩ := by
    apply Array.ext'
    simp
  show ((do pure (.value (← Instr.build t (ps.map fun (x : Nat × Operand) => (x.1, ρ x.2))))) : Sem Next).run P w = _
  rw [e']
  exact exec_v h1

/-- A part of an array that is a value. -/
theorem qaix (hty : TyOk P ty) {t e : TypeId} {x y : Operand} {i ei : TyI} {m : Nat} {k : IntKind} {j : Int} {cells : List AV} {v : AV} {d : Nat}
    (k' : TR P N ty l0 LD W Q l ((d, v) :: T) H)
    (ho : o.op = .index t x y := by exact rfl) (hg : o.guard = none := by exact rfl) (hd : o.dst = some d := by exact rfl) (hN : Nat.ble (d + 1) N = true := by exact rfl)
    (hon : optN True T (tmpsOf o.op) := by exact True.intro) (hti : ty t = some i := by exact rfl) (hk : i.k = .array m e := by exact rfl) (he : ty e = some ei := by exact rfl)
    (hx : opvL (tmpsOf o.op) T x = some (.agg cells) := by exact rfl) (hy : opvL (tmpsOf o.op) T y = some (.int k j) := by exact rfl)
    (hp : partOf ei (cells.drop (j.toNat * ei.size)) = some v := by exact rfl) (hj : 0 ≤ j ∧ j < (m : Int) := by first | decide | omega) : TR P N ty l0 LD W Q ((n, o) :: l) T H := by
  refine TR.sem v d hg hd hN hon (fun st w ρ hF => ?_) k'
  have h2 := (hF y _ hy).int_eq
  have h1 := hF x _ hx
  generalize hxv : ρ x = xv at h1
  cases h1 with
  | agg _ cs hl hc =>
    obtain ⟨⟨dd, hdd, hkf⟩, -⟩ := hty t i hti
    obtain ⟨-, inf2, _, hinf2, hsz2, -⟩ := hty e ei he
    rw [hk] at hkf
    obtain rfl : dd = .array m e := hkf
    obtain ⟨c, g1, g2⟩ := part_sound (st := st) (w := w) hty he hl hc hp
    refine ⟨c, ?_, g2⟩
    obtain ⟨dst, op', type, pos, after, guard⟩ := o
    simp only at ho
    subst ho
    have hso : (sizeOf e).run P w = .ok ei.size w := by rw [run_sizeOf hinf2, hsz2]
    show ((do pure (.value (← Instr.index t (ρ x) (ρ y)))) : Sem Next).run P w = _
    rw [hxv, h2]
    refine exec_v ?_
    unfold Instr.index
    simp only [asIntOf, Sem.run_bind, Sem.run_pure, Result.andThen_ok, run_underlying hdd, hj.1, hj.2, if_true, and_self, hso, g1]
/-- Where ways meet again, whatever stands ahead of the heap. -/
theorem cutKF {K : Tmps → AHeap → Prop} {c : Code} {Wk : Tmps} {H0 : AHeap} (hK : ∀ T' H', AWP P N c T' H' Q → K T' H') (hA : AWP P N c Wk H0 Q) : ∀ T' F, Weak T' Wk → K T' (F ++ H0) :=
  fun _ _ hw => hK _ _ (awp_weaken (Weak.spec hw) (awp_dropF hA))
end
end Go.Ab
