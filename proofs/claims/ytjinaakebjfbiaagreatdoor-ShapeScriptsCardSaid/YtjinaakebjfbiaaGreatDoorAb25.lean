/-
  More of arrays: the address of a part, in stable cells.
-/
import Derived.Test.YtjinaakebjfbiaaGreatDoorAb24
namespace Go.Ab
section
variable {P : Program} {N : Nat} {ty : TypeId → Option TyI} {l0 : List Oper} {LD : LDs} {W : Bool} {Q : APost} {n : Nat} {o : Oper} {l : List (Nat × Oper)} {T : Tmps} {H : AHeap}

/-- The address of a part of an array that stands in stable cells. -/
theorem qiaR (hty : TyOk P ty) {t e : TypeId} {x y : Operand} {i ei : TyI} {m : Nat} {k : IntKind} {j : Int} {cells : List AV} {d : Nat}
    (k' : TR P N ty l0 LD W Q l ((d, .rptr (cells.drop (j.toNat * ei.size))) :: T) H)
    (ho : o.op = .indexAddr t x y := by exact rfl) (hg : o.guard = none := by exact rfl) (hd : o.dst = some d := by exact rfl) (hN : Nat.ble (d + 1) N = true := by exact rfl)
    (hon : optN True T (tmpsOf o.op) := by exact True.intro) (hti : ty t = some i := by exact rfl) (hk : i.k = .array m e := by exact rfl) (he : ty e = some ei := by exact rfl)
    (hx : opvL (tmpsOf o.op) T x = some (.rptr cells) := by exact rfl) (hy : opvL (tmpsOf o.op) T y = some (.int k j) := by exact rfl)
    (hj : 0 ≤ j ∧ j < (m : Int) := by first | decide | omega) : TR P N ty l0 LD W Q ((n, o) :: l) T H := by
  refine TR.sem (.rptr (cells.drop (j.toNat * ei.size))) d hg hd hN hon (fun st w ρ hF => ?_) k'
  have h2 := (hF y _ hy).int_eq
  have h1 := hF x _ hx
  generalize hxv : ρ x = xv at h1
  cases h1 with
  | rptr _ b off c hcell hrep =>
    obtain ⟨⟨dd, hdd, hkf⟩, -⟩ := hty t i hti
    obtain ⟨-, inf2, _, hinf2, hsz2, -⟩ := hty e ei he
    rw [hk] at hkf
    obtain rfl : dd = .array m e := hkf
    refine ⟨.pointer (some ⟨b, off + j.toNat * ei.size, none⟩), ?_, .rptr _ b (off + j.toNat * ei.size) (fun z => c (j.toNat * ei.size + z)) (fun z hz => ?_) (fun z v hv => ?_)⟩
    · obtain ⟨dst, op', type, pos, after, guard⟩ := o
      simp only at ho
      subst ho
      show ((do pure (.value (← Instr.indexAt t (ρ x) (ρ y)))) : Sem Next).run P w = _
      rw [hxv, h2]
      refine exec_v ?_
      unfold Instr.indexAt
      simp [asIntOf, run_underlying hdd, run_sizeOf hinf2, hsz2, hj.1, hj.2, addr_add, Instr.sureAddr]
    · have := hcell (j.toNat * ei.size + z) (by simp at hz; omega)
      simpa [Nat.add_assoc] using this
    · exact hrep (j.toNat * ei.size + z) v (by simpa using hv)
end
end Go.Ab
