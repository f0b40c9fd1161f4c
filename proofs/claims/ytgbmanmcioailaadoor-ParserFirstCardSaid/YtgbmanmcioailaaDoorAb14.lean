/-
  Steps for arrays: a box of one.
-/
import Derived.Test.YtgbmanmcioailaaDoorAb13
namespace Go.Ab

section
variable {P : Program} {N : Nat} {ty : TypeId → Option TyI} {l0 : List Oper} {LD : LDs} {W : Bool} {Q : APost} {n : Nat} {o : Oper} {l : List (Nat × Oper)} {T : Tmps} {H : AHeap}

theorem hard_boxV {F : Operand → Option AV} {elem : TypeId} {x : Operand} {m : Nat} {el : Nat → AV} (ho : o.op = .box elem x) (hx : F x = some (.vec m el)) :
    AHard P o F H fun r H' => ∃ b, r = .ret (.ptr b 0) ∧ H' = .box b elem (.vec m el) :: H := by
  intro E st w a r next Q hc hF _ hr _
  have hrep := hF x _ hx
  have hone : ∀ y ∈ (a.eval x).cells.toList, y.oneCell' = true := by
    generalize a.eval x = c at hrep
    cases hrep with
    | vec _ _ cs hl h hone => exact fun y hy => hone y (by simpa [Value.cells] using hy)
  have hnb := hc.newBox (ty := elem) hrep hone
  refine upon_value_ok (c := .pointer (some ⟨w.heap.size, 0, none⟩)) (w' := w.alloc (.cells (a.eval x).cells elem)) ?_ (hr st _ (.ptr w.heap.size 0) _ _ hnb.1 hnb.2 (.ptr _ _) ⟨_, rfl, rfl⟩)
  simp [execOp, ho, Instr.box, newVar, newRow]

theorem qboxV {elem : TypeId} {x : Operand} {m : Nat} {el : Nat → AV} {d : Nat} (k : ∀ b, TR P N ty l0 LD W Q l ((d, .ptr b 0) :: T) (.box b elem (.vec m el) :: H)) (hg : o.guard = none := by exact rfl) (ho : o.op = .box elem x := by exact rfl)
    (hd : o.dst = some d := by exact rfl) (hN : dstOk o.dst N = true := by exact rfl) (hon : optN True T (tmpsOf o.op) := by exact True.intro) (hx : opvL (tmpsOf o.op) T x = some (.vec m el) := by exact rfl) :
    TR P N ty l0 LD W Q ((n, o) :: l) T H := by
  refine TR.hard _ (.inr (by rw [ho]; rfl)) hg hN hon (hard_boxV ho hx) ?_ ?_ (fun _ v H' ⟨_, _, e⟩ => e ▸ KeepB.cons _ _) (fun h => by rw [ho] at h; cases h)
  · rintro u H' ⟨b, e, rfl⟩
    cases e
    rw [hd]
    exact k b
  · rintro u H' ⟨b, e, rfl⟩
    cases e

/-- A store into an array of numbers. -/
theorem qstV (hty : TyOk P ty) {t : TypeId} {x y : Operand} {ti : TyI} {b off : Nat} {ty0 : TypeId} {m : Nat} {kk : IntKind} {g : Nat → Int} {z : Int} {F : Ent → AHeap}
    (k : TR P N ty l0 LD W Q l T (F (.box b ty0 (.vec m fun j => .int kk (if j = off then z else g j))))) (hg : o.guard = none := by exact rfl)
    (ho : o.op = .store t x y := by exact rfl) (hd : o.dst = none := by exact rfl) (hon : optN True T (tmpsOf o.op) := by (first | exact True.intro | exact ⟨id, True.intro⟩ | exact ⟨id, id, True.intro⟩ | exact ⟨id, id, id, True.intro⟩)) (hx : opvL (tmpsOf o.op) T x = some (.ptr b off) := by exact rfl) (hy : opvL (tmpsOf o.op) T y = some (.int kk z) := by exact rfl)
    (ht : ty t = some ti := by exact rfl) (hi : EntAt H (.box b ty0 (.vec m fun j => .int kk (g j))) F := by (first | exact .here | exact .there (.here) | exact .there (.there (.here)) | exact .there (.there (.there (.here))) | exact .there (.there (.there (.there (.here)))) | exact .there (.there (.there (.there (.there (.here))))) | exact .there (.there (.there (.there (.there (.there (.here)))))) | exact .there (.there (.there (.there (.there (.there (.there (.here))))))) | exact .there (.there (.there (.there (.there (.there (.there (.there (.here)))))))) | exact .there (.there (.there (.there (.there (.there (.there (.there (.there (.here))))))))) | exact .there (.there (.there (.there (.there (.there (.there (.there (.there (.there (.here)))))))))) | exact .there (.there (.there (.there (.there (.there (.there (.there (.there (.there (.there (.here))))))))))) | exact .there (.there (.there (.there (.there (.there (.there (.there (.there (.there (.there (.there (.here)))))))))))) | exact .there (.there (.there (.there (.there (.there (.there (.there (.there (.there (.there (.there (.there (.here))))))))))))) | exact .there (.there (.there (.there (.there (.there (.there (.there (.there (.there (.there (.there (.there (.there (.here)))))))))))))) | exact .there (.there (.there (.there (.there (.there (.there (.there (.there (.there (.there (.there (.there (.there (.there (.here))))))))))))))))) (hs : Nat.beq ti.size 1 = true := by exact rfl) (hp : off < m := by (first | exact True.intro | assumption | omega | (simp only [List.length_cons, List.length_nil]; omega) | (simp only [inK]; omega) | exact fun _ => True.intro | (intro _; omega) | (intro h1 h2; rw [h1, h2]; rfl) | (intro h1 h2; simp only [h1, h2]; done) | (intro h1 h2; simp [h1, h2]; done) | (intro _; simp only [inK]; omega) | (intro hx; simp only [Bool.and_eq_true, Bool.or_eq_false_iff, Bool.and_eq_false_imp, Bool.or_eq_true, decide_eq_true_eq, decide_eq_false_iff_not, bne_iff_ne, beq_iff_eq, bne_eq_false_iff_eq, beq_eq_false_iff_ne, ne_eq, Bool.not_eq_true', Bool.not_eq_false'] at hx; (try simp only [inK]); omega) | exact id | decide | (intro _; decide) )) (hkb : LD.kp n ty0 = false := by first | exact rfl | decide +kernel) : TR P N ty l0 LD W Q ((n, o) :: l) T H := by
  obtain ⟨i, g1, g2⟩ := hi.spec
  rw [g2] at k
  refine TR.store hty (u' := .vec m fun j => if j = off then .int kk z else .int kk (g j)) (p := off < m) i hg ho hd hon hx hy ht g1 ?_ hp ?_ hkb
  · simp [boxSet, hs, AV.one]
  · have e : (fun j => if j = off then AV.int kk z else AV.int kk (g j)) = fun j => AV.int kk (if j = off then z else g j) := by
      funext j
      split <;> rfl
    rw [e]
    exact k

/-- Some slots of a frame. -/
def selT (T : Tmps) : List Nat → Option Tmps
  | [] => some []
  | t :: ts => match lk T t with
    | some v => match selT T ts with
      | some l => some ((t, v) :: l)
      | none => none
    | none => none

theorem selT_weak : ∀ {L : List Nat} {T0 : Tmps}, selT T L = some T0 → Weak T T0
  | [], T0, h => by simp only [selT, Option.some.injEq] at h; subst h; trivial
  | t :: L, T0, h => by
    simp only [selT] at h
    cases h1 : lk T t with
    | none => simp [h1] at h
    | some v =>
      cases h2 : selT T L with
      | none => simp [h1, h2] at h
      | some l =>
        simp only [h1, h2, Option.some.injEq] at h
        subst h
        exact ⟨⟨v, h1, Sub.refl v⟩, selT_weak h2⟩

theorem Weak.append : ∀ {A B : Tmps}, Weak T A → Weak T B → Weak T (A ++ B)
  | [], _, _, h => h
  | _ :: _, _, h, k => ⟨h.1, Weak.append h.2 k⟩

/-- A loop that keeps some slots as they are. -/
theorem awp_loopK {Q : APost} {c : Code} {ι : Type} (keep : List Nat) {T0 : Tmps} (hsel : selT T keep = some T0) (I : ι → Tmps) (J : ι → AHeap) (μ : ι → Nat) (i0 : ι) (h0 : Weak T (I i0)) (hJ : ∃ k, H.drop k = J i0)
    (round : ∀ i, AWP P N c (I i ++ T0) (J i) (thenQ (fun T' H' => ∃ i', Weak T' (I i' ++ T0) ∧ (∃ k, H'.drop k = J i') ∧ μ i' < μ i) Q)) : AWP P N (.loop c) T H Q :=
  awp_loop0 (fun i => I i ++ T0) J μ i0 (Weak.append h0 (selT_weak hsel)) hJ round

theorem awp_loopKP {Q : APost} {c : Code} {ι : Type} (keep : List Nat) {T0 : Tmps} (hsel : selT T keep = some T0) (I : ι → Tmps) (J : ι → AHeap) (μ : ι → Nat) (i0 : ι) (h0 : Weak T (I i0)) (hJ : ∃ F, H.Perm (F ++ J i0))
    (round : ∀ i, AWP P N c (I i ++ T0) (J i) (thenQ (fun T' H' => ∃ i', Weak T' (I i' ++ T0) ∧ (∃ F, H'.Perm (F ++ J i')) ∧ μ i' < μ i) Q)) : AWP P N (.loop c) T H Q :=
  awp_loopP (fun i => I i ++ T0) J μ i0 (Weak.append h0 (selT_weak hsel)) hJ round

end
end Go.Ab
