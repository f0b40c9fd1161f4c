/-
  Steps that look for their own conditions.
-/
import Derived.Test.YtgbmanmcioailaaDoorAb12
import Derived.KernelRfl
namespace Go.Ab

theorem ix0 {α : Type} {x : α} {l : List α} : (x :: l)[0]? = some x := rfl
theorem ixS {α : Type} {x y : α} {l : List α} {i : Nat} (h : l[i]? = some x) : (y :: l)[i + 1]? = some x := h
theorem dr0 {α : Type} {l : List α} : List.drop 0 l = l := rfl
theorem drS {α : Type} {x : α} {l l' : List α} {i : Nat} (h : List.drop i l = l') : List.drop (i + 1) (x :: l) = l' := h

/-- e stands in H; F x: x in its place. -/
inductive EntAt : AHeap → Ent → (Ent → AHeap) → Prop
  | here {e : Ent} {H : AHeap} : EntAt (e :: H) e (fun x => x :: H)
  | there {y e : Ent} {H : AHeap} {F : Ent → AHeap} (h : EntAt H e F) : EntAt (y :: H) e (fun x => y :: F x)

theorem EntAt.spec {H : AHeap} {e : Ent} {F : Ent → AHeap} (h : EntAt H e F) : ∃ i, H[i]? = some e ∧ ∀ x, F x = H.set i x := by
  induction h with
  | here => exact ⟨0, rfl, fun _ => rfl⟩
  | there _ ih =>
    obtain ⟨i, h1, h2⟩ := ih
    exact ⟨i + 1, by simpa using h1, fun x => by simp only [h2, List.set_cons_succ]⟩

inductive AppL : AHeap → AHeap → AHeap → Prop
  | nil {G : AHeap} : AppL [] G G
  | cons {e : Ent} {l G H : AHeap} (h : AppL l G H) : AppL (e :: l) G (e :: H)

theorem AppL.eq {l G H : AHeap} (h : AppL l G H) : H = l ++ G := by
  induction h with
  | nil => rfl
  | cons _ ih => rw [ih, List.cons_append]

section
variable {P : Program} {N : Nat} {ty : TypeId → Option TyI} {l0 : List Oper} {LD : LDs} {W : Bool} {Q : APost} {n : Nat} {o : Oper} {l : List (Nat × Oper)} {T : Tmps} {H : AHeap}

theorem qp {p : Prop} {v : AV} {d : Nat} (k : TR P N ty l0 LD W Q l ((d, v) :: T) H) (hg : o.guard = none := by exact rfl) (hd : o.dst = some d := by exact rfl) (hN : Nat.ble (d + 1) N = true := by exact rfl)
    (hv : aeval ty (opvL (tmpsOf o.op) T) o.op = some (p, v) := by exact rfl) (ho : optN True T (tmpsOf o.op) := by (first | exact True.intro | exact ⟨id, True.intro⟩ | exact ⟨id, id, True.intro⟩ | exact ⟨id, id, id, True.intro⟩)) (hp : p := by (first | exact True.intro | assumption | omega | (simp only [List.length_cons, List.length_nil]; omega) | (simp only [inK]; omega) | exact fun _ => True.intro | (intro _; omega) | (intro h1 h2; rw [h1, h2]; rfl) | (intro h1 h2; simp only [h1, h2]; done) | (intro h1 h2; simp [h1, h2]; done) | (intro _; simp only [inK]; omega) | (intro hx; simp only [Bool.and_eq_true, Bool.or_eq_false_iff, Bool.and_eq_false_imp, Bool.or_eq_true, decide_eq_true_eq, decide_eq_false_iff_not, bne_iff_ne, beq_iff_eq, bne_eq_false_iff_eq, beq_eq_false_iff_ne, ne_eq, Bool.not_eq_true', Bool.not_eq_false'] at hx; (try simp only [inK]); omega) | exact id | decide | (intro _; decide) )) : TR P N ty l0 LD W Q ((n, o) :: l) T H := TR.pure p v d hg hd hN hv ho hp k

theorem qt {p : Prop} {c : Bool} {d : Nat} (k : TR P N ty l0 LD W Q l ((d, .bool true) :: T) H) (hg : o.guard = none := by exact rfl) (hd : o.dst = some d := by exact rfl) (hN : Nat.ble (d + 1) N = true := by exact rfl)
    (hv : aeval ty (opvL (tmpsOf o.op) T) o.op = some (p, .bool c) := by exact rfl) (ho : optN True T (tmpsOf o.op) := by (first | exact True.intro | exact ⟨id, True.intro⟩ | exact ⟨id, id, True.intro⟩ | exact ⟨id, id, id, True.intro⟩)) (hc : c = true := by first | exact rfl | (first | (refine decide_eq_true ?_; first | assumption | omega | (simp only [List.length_cons, List.length_nil]; omega)) | (refine beq_iff_eq.2 ?_; omega) | (refine bne_iff_ne.2 ?_; omega))) (hp : p := by (first | exact True.intro | assumption | omega | (simp only [List.length_cons, List.length_nil]; omega) | (simp only [inK]; omega) | exact fun _ => True.intro | (intro _; omega) | (intro h1 h2; rw [h1, h2]; rfl) | (intro h1 h2; simp only [h1, h2]; done) | (intro h1 h2; simp [h1, h2]; done) | (intro _; simp only [inK]; omega) | (intro hx; simp only [Bool.and_eq_true, Bool.or_eq_false_iff, Bool.and_eq_false_imp, Bool.or_eq_true, decide_eq_true_eq, decide_eq_false_iff_not, bne_iff_ne, beq_iff_eq, bne_eq_false_iff_eq, beq_eq_false_iff_ne, ne_eq, Bool.not_eq_true', Bool.not_eq_false'] at hx; (try simp only [inK]); omega) | exact id | decide | (intro _; decide) )) :
    TR P N ty l0 LD W Q ((n, o) :: l) T H := TR.pureB true hg hd hN hv ho hc hp k

theorem qf {p : Prop} {c : Bool} {d : Nat} (k : TR P N ty l0 LD W Q l ((d, .bool false) :: T) H) (hg : o.guard = none := by exact rfl) (hd : o.dst = some d := by exact rfl) (hN : Nat.ble (d + 1) N = true := by exact rfl)
    (hv : aeval ty (opvL (tmpsOf o.op) T) o.op = some (p, .bool c) := by exact rfl) (ho : optN True T (tmpsOf o.op) := by (first | exact True.intro | exact ⟨id, True.intro⟩ | exact ⟨id, id, True.intro⟩ | exact ⟨id, id, id, True.intro⟩)) (hc : c = false := by first | exact rfl | (first | (refine decide_eq_false ?_; first | assumption | omega | (simp only [List.length_cons, List.length_nil]; omega)) | (refine beq_eq_false_iff_ne.2 ?_; omega) | (refine bne_eq_false_iff_eq.2 ?_; omega))) (hp : p := by (first | exact True.intro | assumption | omega | (simp only [List.length_cons, List.length_nil]; omega) | (simp only [inK]; omega) | exact fun _ => True.intro | (intro _; omega) | (intro h1 h2; rw [h1, h2]; rfl) | (intro h1 h2; simp only [h1, h2]; done) | (intro h1 h2; simp [h1, h2]; done) | (intro _; simp only [inK]; omega) | (intro hx; simp only [Bool.and_eq_true, Bool.or_eq_false_iff, Bool.and_eq_false_imp, Bool.or_eq_true, decide_eq_true_eq, decide_eq_false_iff_not, bne_iff_ne, beq_iff_eq, bne_eq_false_iff_eq, beq_eq_false_iff_ne, ne_eq, Bool.not_eq_true', Bool.not_eq_false'] at hx; (try simp only [inK]); omega) | exact id | decide | (intro _; decide) )) :
    TR P N ty l0 LD W Q ((n, o) :: l) T H := TR.pureB false hg hd hN hv ho hc hp k

theorem qon {j : Nat} {b : Bool} {dj : Nat} (k : TR P N ty l0 LD W Q ((n, { o with guard := none }) :: l) T H) (hg : o.guard = some (j, b) := by exact rfl) (hj : gdst l0 j = some dj := by exact rfl)
    (hb : lk T dj = some (.bool b) := by exact rfl) : TR P N ty l0 LD W Q ((n, o) :: l) T H := TR.on j b dj hg hj hb k

theorem qoff {j : Nat} {b : Bool} {u : AV} {dj d : Nat} (k : TR P N ty l0 LD W Q l ((d, .tuple []) :: T) H) (hg : o.guard = some (j, b) := by exact rfl) (hj : gdst l0 j = some dj := by exact rfl) (hb : lk T dj = some u := by exact rfl)
    (hx : isOff u b = true := by exact rfl) (hd : o.dst = some d := by exact rfl) (hN : Nat.ble (d + 1) N = true := by exact rfl) : TR P N ty l0 LD W Q ((n, o) :: l) T H := TR.off j b u dj d hg hj hb hx hd hN k

theorem qopt {p : Prop} {v : AV} {d j : Nat} {g b x : Bool} {dj : Nat} (k : TR P N ty l0 LD W Q l ((d, .opt x b v) :: T) H) (hg : o.guard = some (j, g) := by exact rfl) (hj : gdst l0 j = some dj := by exact rfl)
    (hb : gcond (lk T dj) g = some (x, b) := by exact rfl) (hd : o.dst = some d := by exact rfl) (hN : Nat.ble (d + 1) N = true := by exact rfl) (hv : aeval ty (opvL (tmpsOf o.op) T) o.op = some (p, v) := by exact rfl)
    (ho : optN (x = b) T (tmpsOf o.op) := by (first | exact True.intro | exact ⟨id, True.intro⟩ | exact ⟨id, id, True.intro⟩ | exact ⟨id, id, id, True.intro⟩)) (hp : x = b → p := by (first | exact True.intro | assumption | omega | (simp only [List.length_cons, List.length_nil]; omega) | (simp only [inK]; omega) | exact fun _ => True.intro | (intro _; omega) | (intro h1 h2; rw [h1, h2]; rfl) | (intro h1 h2; simp only [h1, h2]; done) | (intro h1 h2; simp [h1, h2]; done) | (intro _; simp only [inK]; omega) | (intro hx; simp only [Bool.and_eq_true, Bool.or_eq_false_iff, Bool.and_eq_false_imp, Bool.or_eq_true, decide_eq_true_eq, decide_eq_false_iff_not, bne_iff_ne, beq_iff_eq, bne_eq_false_iff_eq, beq_eq_false_iff_ne, ne_eq, Bool.not_eq_true', Bool.not_eq_false'] at hx; (try simp only [inK]); omega) | exact id | decide | (intro _; decide) )) : TR P N ty l0 LD W Q ((n, o) :: l) T H := TR.opt p v d j g b x dj hg hj hb hd hN hv ho hp k

theorem qhopt {t : TypeId} {y : Operand} {ti : TyI} {bb off : Nat} {ty0 : TypeId} {u v : AV} {p : Prop} {d j : Nat} {g b x : Bool} {dj : Nat} (k : TR P N ty l0 LD W Q l ((d, .opt x b v) :: T) H)
    (hg : o.guard = some (j, g) := by exact rfl) (hj : gdst l0 j = some dj := by exact rfl) (hb : gcond (lk T dj) g = some (x, b) := by exact rfl) (ho : o.op = .load t y := by exact rfl) (hd : o.dst = some d := by exact rfl)
    (hN : Nat.ble (d + 1) N = true := by exact rfl) (hx : opvL (tmpsOf o.op) T y = some (.ptr bb off) := by exact rfl) (hon : optN (x = b) T (tmpsOf o.op) := by (first | exact True.intro | exact ⟨id, True.intro⟩ | exact ⟨id, id, True.intro⟩ | exact ⟨id, id, id, True.intro⟩)) (ht : ty t = some ti := by exact rfl)
    (hm : Ent.box bb ty0 u ∈ H := by (first | exact (List.Mem.head _) | exact List.Mem.tail _ ((List.Mem.head _)) | exact List.Mem.tail _ (List.Mem.tail _ ((List.Mem.head _))) | exact List.Mem.tail _ (List.Mem.tail _ (List.Mem.tail _ ((List.Mem.head _)))) | exact List.Mem.tail _ (List.Mem.tail _ (List.Mem.tail _ (List.Mem.tail _ ((List.Mem.head _))))) | exact List.Mem.tail _ (List.Mem.tail _ (List.Mem.tail _ (List.Mem.tail _ (List.Mem.tail _ ((List.Mem.head _)))))) | exact List.Mem.tail _ (List.Mem.tail _ (List.Mem.tail _ (List.Mem.tail _ (List.Mem.tail _ (List.Mem.tail _ ((List.Mem.head _))))))) | exact List.Mem.tail _ (List.Mem.tail _ (List.Mem.tail _ (List.Mem.tail _ (List.Mem.tail _ (List.Mem.tail _ (List.Mem.tail _ ((List.Mem.head _)))))))) | exact List.Mem.tail _ (List.Mem.tail _ (List.Mem.tail _ (List.Mem.tail _ (List.Mem.tail _ (List.Mem.tail _ (List.Mem.tail _ (List.Mem.tail _ ((List.Mem.head _))))))))))) (hv : boxAt ti u off = some (p, v) := by exact rfl) (hl : LD.ld n ty0 = true := by first | exact rfl | decide +kernel) (hp : x = b → p := by (first | exact True.intro | assumption | omega | (simp only [List.length_cons, List.length_nil]; omega) | (simp only [inK]; omega) | exact fun _ => True.intro | (intro _; omega) | (intro h1 h2; rw [h1, h2]; rfl) | (intro h1 h2; simp only [h1, h2]; done) | (intro h1 h2; simp [h1, h2]; done) | (intro _; simp only [inK]; omega) | (intro hx; simp only [Bool.and_eq_true, Bool.or_eq_false_iff, Bool.and_eq_false_imp, Bool.or_eq_true, decide_eq_true_eq, decide_eq_false_iff_not, bne_iff_ne, beq_iff_eq, bne_eq_false_iff_eq, beq_eq_false_iff_ne, ne_eq, Bool.not_eq_true', Bool.not_eq_false'] at hx; (try simp only [inK]); omega) | exact id | decide | (intro _; decide) )) :
    TR P N ty l0 LD W Q ((n, o) :: l) T H := TR.hopt t y ti bb off ty0 u p v d j g b x dj hg hj hb ho hd hN hx hon ht hm hv hp hl k

theorem qgp {c a b' : Operand} {y : Bool} {va vb v : AV} {pc p : Prop} {d j : Nat} {g b x : Bool} {dj : Nat} (k : TR P N ty l0 LD W Q l ((d, .opt x b v) :: T) H) (hg : o.guard = some (j, g) := by exact rfl) (hj : gdst l0 j = some dj := by exact rfl)
    (hb : gcond (lk T dj) g = some (x, b) := by exact rfl) (ho : o.op = .pick c a b' := by exact rfl) (hd : o.dst = some d := by exact rfl) (hN : Nat.ble (d + 1) N = true := by exact rfl) (hc : copd (opv T c) = some (pc, y) := by exact rfl)
    (ha : opv T a = some va := by exact rfl) (hb' : opv T b' = some vb := by exact rfl) (hv : apick y va vb = some (p, v) := by exact rfl) (hpc : x = b → pc := by (first | exact True.intro | assumption | omega | (simp only [List.length_cons, List.length_nil]; omega) | (simp only [inK]; omega) | exact fun _ => True.intro | (intro _; omega) | (intro h1 h2; rw [h1, h2]; rfl) | (intro h1 h2; simp only [h1, h2]; done) | (intro h1 h2; simp [h1, h2]; done) | (intro _; simp only [inK]; omega) | (intro hx; simp only [Bool.and_eq_true, Bool.or_eq_false_iff, Bool.and_eq_false_imp, Bool.or_eq_true, decide_eq_true_eq, decide_eq_false_iff_not, bne_iff_ne, beq_iff_eq, bne_eq_false_iff_eq, beq_eq_false_iff_ne, ne_eq, Bool.not_eq_true', Bool.not_eq_false'] at hx; (try simp only [inK]); omega) | exact id | decide | (intro _; decide) )) (hp : x = b → p := by (first | exact True.intro | assumption | omega | (simp only [List.length_cons, List.length_nil]; omega) | (simp only [inK]; omega) | exact fun _ => True.intro | (intro _; omega) | (intro h1 h2; rw [h1, h2]; rfl) | (intro h1 h2; simp only [h1, h2]; done) | (intro h1 h2; simp [h1, h2]; done) | (intro _; simp only [inK]; omega) | (intro hx; simp only [Bool.and_eq_true, Bool.or_eq_false_iff, Bool.and_eq_false_imp, Bool.or_eq_true, decide_eq_true_eq, decide_eq_false_iff_not, bne_iff_ne, beq_iff_eq, bne_eq_false_iff_eq, beq_eq_false_iff_ne, ne_eq, Bool.not_eq_true', Bool.not_eq_false'] at hx; (try simp only [inK]); omega) | exact id | decide | (intro _; decide) )) : TR P N ty l0 LD W Q ((n, o) :: l) T H :=
  TR.gpick c a b' y va vb v pc p d j g b x dj hg hj hb ho hd hN hc hpc ha hb' hv hp k

theorem qld {t : TypeId} {x : Operand} {ti : TyI} {b off : Nat} {ty0 : TypeId} {u v : AV} {p : Prop} {d : Nat} (k : TR P N ty l0 LD W Q l ((d, v) :: T) H) (hg : o.guard = none := by exact rfl) (ho : o.op = .load t x := by exact rfl)
    (hd : o.dst = some d := by exact rfl) (hN : Nat.ble (d + 1) N = true := by exact rfl) (hx : opvL (tmpsOf o.op) T x = some (.ptr b off) := by exact rfl) (hon : optN True T (tmpsOf o.op) := by (first | exact True.intro | exact ⟨id, True.intro⟩ | exact ⟨id, id, True.intro⟩ | exact ⟨id, id, id, True.intro⟩)) (ht : ty t = some ti := by exact rfl)
    (hm : Ent.box b ty0 u ∈ H := by (first | exact (List.Mem.head _) | exact List.Mem.tail _ ((List.Mem.head _)) | exact List.Mem.tail _ (List.Mem.tail _ ((List.Mem.head _))) | exact List.Mem.tail _ (List.Mem.tail _ (List.Mem.tail _ ((List.Mem.head _)))) | exact List.Mem.tail _ (List.Mem.tail _ (List.Mem.tail _ (List.Mem.tail _ ((List.Mem.head _))))) | exact List.Mem.tail _ (List.Mem.tail _ (List.Mem.tail _ (List.Mem.tail _ (List.Mem.tail _ ((List.Mem.head _)))))) | exact List.Mem.tail _ (List.Mem.tail _ (List.Mem.tail _ (List.Mem.tail _ (List.Mem.tail _ (List.Mem.tail _ ((List.Mem.head _))))))) | exact List.Mem.tail _ (List.Mem.tail _ (List.Mem.tail _ (List.Mem.tail _ (List.Mem.tail _ (List.Mem.tail _ (List.Mem.tail _ ((List.Mem.head _)))))))) | exact List.Mem.tail _ (List.Mem.tail _ (List.Mem.tail _ (List.Mem.tail _ (List.Mem.tail _ (List.Mem.tail _ (List.Mem.tail _ (List.Mem.tail _ ((List.Mem.head _))))))))))) (hv : boxAt ti u off = some (p, v) := by exact rfl) (hl : LD.ld n ty0 = true := by first | exact rfl | decide +kernel) (hp : p := by (first | exact True.intro | assumption | omega | (simp only [List.length_cons, List.length_nil]; omega) | (simp only [inK]; omega) | exact fun _ => True.intro | (intro _; omega) | (intro h1 h2; rw [h1, h2]; rfl) | (intro h1 h2; simp only [h1, h2]; done) | (intro h1 h2; simp [h1, h2]; done) | (intro _; simp only [inK]; omega) | (intro hx; simp only [Bool.and_eq_true, Bool.or_eq_false_iff, Bool.and_eq_false_imp, Bool.or_eq_true, decide_eq_true_eq, decide_eq_false_iff_not, bne_iff_ne, beq_iff_eq, bne_eq_false_iff_eq, beq_eq_false_iff_ne, ne_eq, Bool.not_eq_true', Bool.not_eq_false'] at hx; (try simp only [inK]); omega) | exact id | decide | (intro _; decide) )) : TR P N ty l0 LD W Q ((n, o) :: l) T H :=
  TR.hload t x ti b off ty0 u p v d hg ho hd hN hx hon ht hm hv hp hl k

theorem qpick {c a b : Operand} {x : Bool} {va vb v : AV} {p : Prop} {d : Nat} (k : TR P N ty l0 LD W Q l ((d, v) :: T) H) (hg : o.guard = none := by exact rfl) (ho : o.op = .pick c a b := by exact rfl) (hd : o.dst = some d := by exact rfl)
    (hN : Nat.ble (d + 1) N = true := by exact rfl) (hc : opv T c = some (.bool x) := by exact rfl) (ha : opv T a = some va := by exact rfl) (hb : opv T b = some vb := by exact rfl) (hv : apick x va vb = some (p, v) := by exact rfl)
    (hp : p := by (first | exact True.intro | assumption | omega | (simp only [List.length_cons, List.length_nil]; omega) | (simp only [inK]; omega) | exact fun _ => True.intro | (intro _; omega) | (intro h1 h2; rw [h1, h2]; rfl) | (intro h1 h2; simp only [h1, h2]; done) | (intro h1 h2; simp [h1, h2]; done) | (intro _; simp only [inK]; omega) | (intro hx; simp only [Bool.and_eq_true, Bool.or_eq_false_iff, Bool.and_eq_false_imp, Bool.or_eq_true, decide_eq_true_eq, decide_eq_false_iff_not, bne_iff_ne, beq_iff_eq, bne_eq_false_iff_eq, beq_eq_false_iff_ne, ne_eq, Bool.not_eq_true', Bool.not_eq_false'] at hx; (try simp only [inK]); omega) | exact id | decide | (intro _; decide) )) : TR P N ty l0 LD W Q ((n, o) :: l) T H := TR.pick c a b x va vb v p d hg ho hd hN hc ha hb hv hp k

theorem qal (hty : TyOk P ty) {elem : TypeId} {i : TyI} {d : Nat} (k : ∀ b, TR P N ty l0 LD W Q l ((d, .ptr b 0) :: T) (.box b elem i.zero :: H)) (hg : o.guard = none := by exact rfl) (ho : o.op = .alloc elem := by exact rfl)
    (hd : o.dst = some d := by exact rfl) (hN : dstOk o.dst N = true := by exact rfl) (ht : ty elem = some i := by exact rfl) : TR P N ty l0 LD W Q ((n, o) :: l) T H := TR.alloc hty hg ho hd hN ht k

theorem qbox {elem : TypeId} {x : Operand} {v : AV} {vs : List AV} {d : Nat} (k : ∀ b, TR P N ty l0 LD W Q l ((d, .ptr b 0) :: T) (.box b elem v :: H)) (hg : o.guard = none := by exact rfl) (ho : o.op = .box elem x := by exact rfl)
    (hd : o.dst = some d := by exact rfl) (hN : dstOk o.dst N = true := by exact rfl) (hon : optN True T (tmpsOf o.op) := by exact True.intro) (hx : opvL (tmpsOf o.op) T x = some v := by exact rfl) (hv : cellsOf v = some vs := by exact rfl)
    (h1 : vs.all AV.one = true := by exact rfl) : TR P N ty l0 LD W Q ((n, o) :: l) T H := TR.box hg ho hd hN hon hx hv h1 k

theorem qst (hty : TyOk P ty) {t : TypeId} {x y : Operand} {ti : TyI} {b off : Nat} {ty0 : TypeId} {u u' v : AV} {p : Prop} {F : Ent → AHeap} (k : TR P N ty l0 LD W Q l T (F (.box b ty0 u'))) (hg : o.guard = none := by exact rfl)
    (ho : o.op = .store t x y := by exact rfl) (hd : o.dst = none := by exact rfl) (hon : optN True T (tmpsOf o.op) := by (first | exact True.intro | exact ⟨id, True.intro⟩ | exact ⟨id, id, True.intro⟩ | exact ⟨id, id, id, True.intro⟩)) (hx : opvL (tmpsOf o.op) T x = some (.ptr b off) := by exact rfl) (hy : opvL (tmpsOf o.op) T y = some v := by exact rfl)
    (ht : ty t = some ti := by exact rfl) (hi : EntAt H (.box b ty0 u) F := by (first | exact .here | exact .there (.here) | exact .there (.there (.here)) | exact .there (.there (.there (.here))) | exact .there (.there (.there (.there (.here)))) | exact .there (.there (.there (.there (.there (.here))))) | exact .there (.there (.there (.there (.there (.there (.here)))))) | exact .there (.there (.there (.there (.there (.there (.there (.here))))))) | exact .there (.there (.there (.there (.there (.there (.there (.there (.here)))))))) | exact .there (.there (.there (.there (.there (.there (.there (.there (.there (.here))))))))) | exact .there (.there (.there (.there (.there (.there (.there (.there (.there (.there (.here)))))))))) | exact .there (.there (.there (.there (.there (.there (.there (.there (.there (.there (.there (.here))))))))))) | exact .there (.there (.there (.there (.there (.there (.there (.there (.there (.there (.there (.there (.here)))))))))))) | exact .there (.there (.there (.there (.there (.there (.there (.there (.there (.there (.there (.there (.there (.here))))))))))))) | exact .there (.there (.there (.there (.there (.there (.there (.there (.there (.there (.there (.there (.there (.there (.here)))))))))))))) | exact .there (.there (.there (.there (.there (.there (.there (.there (.there (.there (.there (.there (.there (.there (.there (.here))))))))))))))))) (hs : boxSet ti u off v = some (p, u') := by exact rfl) (hp : p := by (first | exact True.intro | assumption | omega | (simp only [List.length_cons, List.length_nil]; omega) | (simp only [inK]; omega) | exact fun _ => True.intro | (intro _; omega) | (intro h1 h2; rw [h1, h2]; rfl) | (intro h1 h2; simp only [h1, h2]; done) | (intro h1 h2; simp [h1, h2]; done) | (intro _; simp only [inK]; omega) | (intro hx; simp only [Bool.and_eq_true, Bool.or_eq_false_iff, Bool.and_eq_false_imp, Bool.or_eq_true, decide_eq_true_eq, decide_eq_false_iff_not, bne_iff_ne, beq_iff_eq, bne_eq_false_iff_eq, beq_eq_false_iff_ne, ne_eq, Bool.not_eq_true', Bool.not_eq_false'] at hx; (try simp only [inK]); omega) | exact id | decide | (intro _; decide) )) (hkb : LD.kp n ty0 = false := by first | exact rfl | decide +kernel) : TR P N ty l0 LD W Q ((n, o) :: l) T H := by
  obtain ⟨i, h1, h2⟩ := hi.spec
  rw [h2] at k
  exact TR.store hty i hg ho hd hon hx hy ht h1 hs hp k hkb

theorem qbs (hty : TyOk P ty) {t e : TypeId} {len : Nat} {parts : Array (Nat × Operand)} {ti ei : TyI} {vs : List (Nat × AV)} {cells : List AV} {d : Nat} (k : TR P N ty l0 LD W Q l ((d, .slice ei.size len (chunk cells ei.size) .full) :: T) H)
    (hg : o.guard = none := by exact rfl) (ho : o.op = .buildSlice t len parts := by exact rfl) (hd : o.dst = some d := by exact rfl) (hN : dstOk o.dst N = true := by exact rfl) (hon : optN True T (tmpsOf o.op) := by exact True.intro)
    (hti : ty t = some ti := by exact rfl) (hk : ti.k = .slice e := by exact rfl) (hei : ty e = some ei := by exact rfl) (hm : mapP (opvL (tmpsOf o.op) T) parts.toList = some vs := by exact rfl) (hpos : Nat.ble 1 ei.size = true := by exact rfl)
    (hlen : Nat.ble (len * ei.size) 16777216 = true := by exact rfl) (hcells : abuild (partsFs e ei.size 0 len) ty (List.replicate (len * ei.size) junk) vs = some cells := by exact rfl) (hone : cells.all AV.one = true := by exact rfl) :
    TR P N ty l0 LD W Q ((n, o) :: l) T H := TR.bslice hty _ hg ho hd hN hon hti hk hei hm hpos hlen hcells hone (Sub.refl _) k

theorem qc {cf : Operand} {args : Array Operand} {ats : Array TypeId} {f : FuncId} {first captured vs : List AV} {u : AV} {d : Nat} (h : PCalls P f (first ++ vs ++ captured) u) (k : TR P N ty l0 LD W Q l ((d, u) :: T) H)
    (hg : o.guard = none := by exact rfl) (ho : o.op = .call { callee := .value cf, args := args, argTypes := ats } := by exact rfl) (hd : o.dst = some d := by exact rfl) (hN : dstOk o.dst N = true := by exact rfl)
    (hon : optN True T (tmpsOf o.op) := by exact True.intro) (hf : opvL (tmpsOf o.op) T cf = some (.func (.func f) first captured) := by exact rfl) (hm : mapF (opvL (tmpsOf o.op) T) args.toList = some vs := by exact rfl) :
    TR P N ty l0 LD W Q ((n, o) :: l) T H := TR.pcall hg ho hd hN hon hf hm h k

/-- A call that is handed part of the heap, and returns; or panics. -/
theorem qcallR {cf : Operand} {args : Array Operand} {ats : Array TypeId} {f : FuncId} {first captured vs : List AV} {e e' : Ent} {G : AHeap} {u : AV} {d : Nat} (h : ACalls P f (first ++ vs ++ captured) [e] fun r H' => r = .ret u ∧ H' = [e'])
    (k : TR P N ty l0 LD W Q l ((d, u) :: T) (e' :: G)) (hg : o.guard = none := by exact rfl) (ho : o.op = .call { callee := .value cf, args := args, argTypes := ats } := by exact rfl) (hd : o.dst = some d := by exact rfl)
    (hN : dstOk o.dst N = true := by exact rfl) (hon : optN True T (tmpsOf o.op) := by exact True.intro) (hf : opvL (tmpsOf o.op) T cf = some (.func (.func f) first captured) := by exact rfl)
    (hm : mapF (opvL (tmpsOf o.op) T) args.toList = some vs := by exact rfl) (hkb : (∀ t, LD.kp n t = false) ∨ e = e' := by first | exact .inl (fun _ => rfl) | exact .inr rfl) (hsc : LD.sc n = false := by exact rfl) : TR P N ty l0 LD W Q ((n, o) :: l) T (e :: G) := by
  refine TR.hcall (Hc := [e]) (G := G) hg ho hN hon hf hm (List.Perm.refl _) h (fun v H' hK => ?_) (fun v H' hK => ?_) (fun v H' hK => ?_) hsc
  · obtain ⟨e1, rfl⟩ := hK
    cases e1
    rw [hd]
    exact k
  · obtain ⟨e1, rfl⟩ := hK
    cases e1
  · obtain ⟨e1, rfl⟩ := hK
    rcases hkb with hkb | rfl
    · intro b t u h
      rw [hkb t] at h
      cases h
    · exact KeepB.refl _

theorem qcallP {cf : Operand} {args : Array Operand} {ats : Array TypeId} {f : FuncId} {first captured vs : List AV} {e : Ent} {G : AHeap} {u : AV} (h : ACalls P f (first ++ vs ++ captured) [e] fun r _ => r = .panic u)
    (k : ∀ H', Q (.panic u) T H') (hg : o.guard = none := by exact rfl) (ho : o.op = .call { callee := .value cf, args := args, argTypes := ats } := by exact rfl)
    (hN : dstOk o.dst N = true := by exact rfl) (hon : optN True T (tmpsOf o.op) := by exact True.intro) (hf : opvL (tmpsOf o.op) T cf = some (.func (.func f) first captured) := by exact rfl)
    (hm : mapF (opvL (tmpsOf o.op) T) args.toList = some vs := by exact rfl) (hsc : LD.sc n = false := by exact rfl) : TR P N ty l0 LD W Q ((n, o) :: l) T (e :: G) := by
  refine TR.hcall (Hc := [e]) (G := G) hg ho hN hon hf hm (List.Perm.refl _) h (fun v H' hK => ?_) (fun v H' hK => ?_) (fun v H' hK => ?_) hsc
  · cases hK
  · cases hK
    exact k _
  · cases hK

theorem r1 {rs : List ResultVar} {x : AX} {t k : Nat} {v u : AV} (hs : Sub v u) (hx : isRet x = true := by exact rfl) (hr : rs = [.tmp t] := by exact rfl) (hl : lk T t = some v := by exact rfl) (hd : H.drop k = [] := by (first | exact (rfl : List.drop 0 _ = _) | exact (rfl : List.drop 1 _ = _) | exact (rfl : List.drop 2 _ = _) | exact (rfl : List.drop 3 _ = _) | exact (rfl : List.drop 4 _ = _) | exact (rfl : List.drop 5 _ = _) | exact (rfl : List.drop 6 _ = _))) :
    fnQ ty rs (fun r H' => r = .ret u ∧ H' = []) x T H := fnQ_p1 k hx hr hl hd hs
theorem r2 {rs : List ResultVar} {x : AX} {t1 t2 k : Nat} {v1 v2 u1 u2 : AV} (h1 : Sub v1 u1) (h2 : Sub v2 u2) (hx : isRet x = true := by exact rfl) (hr : rs = [.tmp t1, .tmp t2] := by exact rfl) (hl1 : lk T t1 = some v1 := by exact rfl)
    (hl2 : lk T t2 = some v2 := by exact rfl) (hd : H.drop k = [] := by (first | exact (rfl : List.drop 0 _ = _) | exact (rfl : List.drop 1 _ = _) | exact (rfl : List.drop 2 _ = _) | exact (rfl : List.drop 3 _ = _) | exact (rfl : List.drop 4 _ = _) | exact (rfl : List.drop 5 _ = _) | exact (rfl : List.drop 6 _ = _))) : fnQ ty rs (fun r H' => r = .ret (.tuple [u1, u2]) ∧ H' = []) x T H := fnQ_p2 k hx hr hl1 hl2 hd h1 h2
theorem r3 {rs : List ResultVar} {x : AX} {t1 t2 t3 k : Nat} {v1 v2 v3 u1 u2 u3 : AV} (h1 : Sub v1 u1) (h2 : Sub v2 u2) (h3 : Sub v3 u3) (hx : isRet x = true := by exact rfl) (hr : rs = [.tmp t1, .tmp t2, .tmp t3] := by exact rfl)
    (hl1 : lk T t1 = some v1 := by exact rfl) (hl2 : lk T t2 = some v2 := by exact rfl) (hl3 : lk T t3 = some v3 := by exact rfl) (hd : H.drop k = [] := by (first | exact (rfl : List.drop 0 _ = _) | exact (rfl : List.drop 1 _ = _) | exact (rfl : List.drop 2 _ = _) | exact (rfl : List.drop 3 _ = _) | exact (rfl : List.drop 4 _ = _) | exact (rfl : List.drop 5 _ = _) | exact (rfl : List.drop 6 _ = _))) :
    fnQ ty rs (fun r H' => r = .ret (.tuple [u1, u2, u3]) ∧ H' = []) x T H := fnQ_p3 k hx hr hl1 hl2 hl3 hd h1 h2 h3

end
end Go.Ab
