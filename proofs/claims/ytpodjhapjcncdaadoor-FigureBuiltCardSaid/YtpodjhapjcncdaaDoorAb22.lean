/-
  Arrays of two numbers: whether they differ.
-/
import Derived.Test.YtpodjhapjcncdaaDoorAb21
import Derived.ChangeKeysEq
namespace Go.Ab
section
variable {P : Program} {N : Nat} {ty : TypeId → Option TyI} {l0 : List Oper} {LD : LDs} {W : Bool} {Q : APost} {n : Nat} {o : Oper} {l : List (Nat × Oper)} {T : Tmps} {H : AHeap}

theorem part_int (hty : TyOk P ty) {e : TypeId} {ei : TyI} {k : IntKind} {w : World} (he : ty e = some ei) (hek : ei.k = .int k) (xs : List Int) (j : Nat) (hj : j < xs.length) :
    (part e ⟨xs.map (Value.int k)⟩ j).run P w = .ok (.int k (xs.getD j 0)) w := by
  have hp : partOf ei ((xs.map (AV.int k)).drop j) = some (.int k (xs.getD j 0)) := by
    unfold partOf partOf'
    simp [hek, TyK.isOther, TyK.isAgg, List.head?_drop, List.getElem?_eq_getElem hj, List.getD]
  obtain ⟨c, h1, h2⟩ := part_sound (st := fun _ _ => False) (w := w) hty he (cells := xs.map (AV.int k)) (cs := xs.map (Value.int k)) (by simp) (fun i v x hv hx => by
    simp only [List.getElem?_map, Option.map_eq_some_iff] at hv hx
    obtain ⟨a, ha, rfl⟩ := hv
    obtain ⟨b, hb, rfl⟩ := hx
    rw [ha] at hb
    cases hb
    exact .int _ _) hp
  rw [h1, h2.int_eq]

theorem run_eqA2 (hty : TyOk P ty) {t e : TypeId} {i ei : TyI} {k : IntKind} {w : World} (hti : ty t = some i) (hk : i.k = .array 2 e) (he : ty e = some ei) (hek : ei.k = .int k) (hes : ei.size = 1) (a b a' b' : Int) :
    (Op.equalIn 10000 t (.agg #[.int k a, .int k b]) (.agg #[.int k a', .int k b'])).run P w = .ok (a == a' && b == b') w := by
  obtain ⟨⟨d, hd, hkf⟩, -⟩ := hty t i hti
  obtain ⟨⟨d2, hd2, hkf2⟩, inf2, _, hinf2, hsz2, -⟩ := hty e ei he
  rw [hk] at hkf
  obtain rfl : d = .array 2 e := hkf
  rw [hek] at hkf2
  obtain rfl : d2 = .int k := hkf2
  have hc : P.cellsOf e = 1 := by simp [Program.cellsOf, hinf2, hsz2, hes]
  rw [show (10000 : Nat) = 9999 + 1 from rfl, run_equalIn_array w 9999 _ _ hd hinf2, hc]
  have p0 := fun (x y : Int) => part_int (w := w) hty he hek [x, y] 0 (by simp)
  have p1 := fun (x y : Int) => part_int (w := w) hty he hek [x, y] 1 (by simp)
  have q0 : ∀ x y : Int, (part e #[.int k x, .int k y] (0 * 1)).run P w = .ok (.int k x) w := fun x y => p0 x y
  have q1 : ∀ x y : Int, (part e #[.int k x, .int k y] (1 * 1)).run P w = .ok (.int k y) w := fun x y => p1 x y
  have e2 : ∀ x y : Int, (Op.equalIn 9999 e (.int k x) (.int k y)).run P w = .ok (x == y) w := fun x y => run_equalIn_int w 9998 e k k x y hd2
  rw [show List.range 2 = [0, 1] from rfl]
  simp only [Op.eqItems, Sem.run_bind, q0, q1, e2, Result.andThen_ok]
  cases h : (a == a')
  · simp
  · have q2 : ∀ x y : Int, (part e #[.int k x, .int k y] 1).run P w = .ok (.int k y) w := fun x y => p1 x y
    cases h2 : (b == b') <;> simp [q2, e2, h2]

theorem qneA2 (hty : TyOk P ty) {t e : TypeId} {x y : Operand} {rt : TypeId} {i ei : TyI} {k : IntKind} {a b a' b' : Int} {d : Nat} (hmm : P.eqGuardType P.depth t = false) (k' : TR P N ty l0 LD W Q l ((d, .bool (!(a == a' && b == b'))) :: T) H)
    (ho : o.op = .binOp .neq t x y rt := by exact rfl) (hg : o.guard = none := by exact rfl) (hd : o.dst = some d := by exact rfl) (hN : Nat.ble (d + 1) N = true := by exact rfl)
    (hon : optN True T (tmpsOf o.op) := by exact True.intro) (hti : ty t = some i := by exact rfl) (hk : i.k = .array 2 e := by exact rfl) (he : ty e = some ei := by exact rfl) (hek : ei.k = .int k := by exact rfl)
    (hes : ei.size = 1 := by exact rfl) (hx : opvL (tmpsOf o.op) T x = some (.agg [.int k a, .int k b]) := by exact rfl) (hy : opvL (tmpsOf o.op) T y = some (.agg [.int k a', .int k b']) := by exact rfl) : TR P N ty l0 LD W Q ((n, o) :: l) T H := by
  refine TR.sem (.bool (!(a == a' && b == b'))) d hg hd hN hon (fun st w ρ hF => ?_) k'
  have two : ∀ (z : Value) (u v : Int), Rep st w (.agg [.int k u, .int k v]) z → z = .agg #[.int k u, .int k v] := by
    intro z u v h
    cases h with
    | agg _ cs hl hc =>
      match cs, hl with
      | [c0, c1], _ =>
        have h0 := (hc 0 _ c0 rfl rfl).int_eq
        have h1 := (hc 1 _ c1 rfl rfl).int_eq
        rw [h0, h1]
  have h1 := two _ _ _ (hF x _ hx)
  have h2 := two _ _ _ (hF y _ hy)
  have hr := run_eqA2 (w := w) hty hti hk he hek hes a b a' b'
  obtain ⟨dst, op', type, pos, after, guard⟩ := o
  simp only at ho
  subst ho
  refine ⟨.bool (!(a == a' && b == b')), ?_, .bool _⟩
  simp only [execOp, Sem.run_bind, h1, h2, run_eqGuard_agg w .neq t x y _ _ hmm, Result.andThen_ok, run_neq_struct, hr]
  rfl

end
end Go.Ab
