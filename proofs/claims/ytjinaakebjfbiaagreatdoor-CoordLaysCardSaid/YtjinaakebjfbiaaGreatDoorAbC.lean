/-
  Where ways meet again, whatever the order of the heap.
-/
import Derived.Test.YtjinaakebjfbiaaGreatDoorAbB
import Derived.ChangeKeysEq
import Derived.MapKept
import Derived.Lib.AppendStr
import Derived.Lib.UnsafeStr
namespace Go.Ab

theorem awp_permS {P : Program} {N : Nat} {c : Code} {T : Tmps} {H H' : AHeap} {Q : APost} (hp : H'.Perm H) (h : AWP P N c T H Q) : AWP P N c T H' Q := fun E st w a r B hc hf hd =>
  h E st w a r B (hc.perm hp) hf (hd.sub fun _ ⟨e, he, hk⟩ => ⟨e, hp.mem_iff.2 he, hk⟩)
theorem cutKP {P : Program} {N : Nat} {Q : APost} {K : Tmps → AHeap → Prop} {c : Code} {Wk : Tmps} {H0 : AHeap} (hK : ∀ T' H', AWP P N c T' H' Q → K T' H') (hA : AWP P N c Wk H0 Q) : ∀ T' H', Weak T' Wk → H'.Perm H0 → K T' H' :=
  fun _ _ hw hp => hK _ _ (awp_weaken (Weak.spec hw) (awp_permS hp hA))

theorem subAgg {vs vs' : List AV} (h : SubL vs vs') : Sub (.agg vs) (.agg vs') := by
  intro st w c hr
  cases hr with
  | agg _ cs hl hh =>
    exact .agg vs' cs (by rw [hl, h.length]) fun j v' x hv hx => by
      obtain ⟨v, h1, h2⟩ := h.get j v' hv
      exact h2 _ _ _ (hh j v x h1 hx)

/-- e stands in H; G: the others. -/
inductive Pick : AHeap → Ent → AHeap → Prop
  | here {e : Ent} {G : AHeap} : Pick (e :: G) e G
  | there {y e : Ent} {H G : AHeap} (h : Pick H e G) : Pick (y :: H) e (y :: G)

theorem Pick.perm {H G : AHeap} {e : Ent} (h : Pick H e G) : H.Perm (e :: G) := by
  induction h with
  | here => exact List.Perm.refl _
  | there _ ih => exact (ih.cons _).trans (List.Perm.swap _ _ _)

section
variable {P : Program} {N : Nat} {ty : TypeId → Option TyI} {l0 : List Oper} {LD : LDs} {W : Bool} {Q : APost} {n : Nat} {o : Oper} {l : List (Nat × Oper)} {T : Tmps} {H : AHeap}

/-- A call that is handed one box, wherever it stands; it comes to stand first. -/
theorem qcallE {cf : Operand} {args : Array Operand} {ats : Array TypeId} {f : FuncId} {first captured vs : List AV} {b0 : Nat} {t0 : TypeId} {u0 u1 : AV} {G : AHeap} {u : AV} {d : Nat}
    (hp : Pick H (.box b0 t0 u0) G) (h : ACalls P f (first ++ vs ++ captured) [.box b0 t0 u0] fun r H' => r = .ret u ∧ H' = [.box b0 t0 u1])
    (k : TR P N ty l0 LD W Q l ((d, u) :: T) (.box b0 t0 u1 :: G))
    (hg : o.guard = none := by exact rfl) (ho : o.op = .call { callee := .value cf, args := args, argTypes := ats } := by exact rfl) (hd : o.dst = some d := by exact rfl)
    (hN : dstOk o.dst N = true := by exact rfl) (hon : optN True T (tmpsOf o.op) := by exact True.intro) (hf : opvL (tmpsOf o.op) T cf = some (.func (.func f) first captured) := by exact rfl)
    (hm : mapF (opvL (tmpsOf o.op) T) args.toList = some vs := by exact rfl) (hkb : LD.kp n t0 = false := by exact rfl) (hsc : LD.sc n = false := by exact rfl) : TR P N ty l0 LD W Q ((n, o) :: l) T H := by
  refine TR.hcall (Hc := [.box b0 t0 u0]) (G := G) hg ho hN hon hf hm hp.perm h (fun v H' hK => ?_) (fun v H' hK => ?_) (fun v H' hK => ?_) hsc
  · obtain ⟨e1, rfl⟩ := hK
    cases e1
    rw [hd]
    exact k
  · obtain ⟨e1, rfl⟩ := hK
    cases e1
  · obtain ⟨e1, rfl⟩ := hK
    intro b t u ht hm2
    rcases List.mem_cons.1 (hp.perm.mem_iff.1 hm2) with e | e
    · cases e
      rw [ht] at hkb
      cases hkb
    · exact List.mem_cons_of_mem _ e

end
end Go.Ab

/-
  Arrays of two numbers: whether they differ.
-/
namespace Go.Ab
section
variable {P : Program} {N : Nat} {ty : TypeId → Option TyI} {l0 : List Oper} {LD : LDs} {W : Bool} {Q : APost} {n : Nat} {o : Oper} {l : List (Nat × Oper)} {T : Tmps} {H : AHeap}

end
end Go.Ab

/-
  A map whose keys are texts: made, asked, grown by a key that is not there.
-/
namespace Go.Ab
open Go.MapKept

/-- The map's object: the keys as they came; one value (of no cells) for all. -/
def keyEnt (p : List UInt8 × Nat) : MapEntry := { key := .string ⟨p.1.toArray⟩, val := .agg #[], born := p.2 }
def keyObj (ns : List (List UInt8)) : Obj := .map ((ns.zipIdx).map keyEnt).toArray ns.length

theorem keyObj_nil : keyObj [] = .map #[] 0 := rfl

theorem keyObj_append (ns : List (List UInt8)) (s : List UInt8) : keyObj (ns ++ [s]) = .map (((ns.zipIdx).map keyEnt).toArray.push { key := .string ⟨s.toArray⟩, val := .agg #[], born := ns.length }) (ns.length + 1) := by
  simp [keyObj, List.zipIdx_append, keyEnt]

theorem same_key (s x : List UInt8) : Instr.sameNow .string (.string ⟨s.toArray⟩) (.string ⟨x.toArray⟩) = some (s == x) := by
  simp only [Instr.sameNow]
  rw [str_beq]

theorem find_none (s : List UInt8) : ∀ (ns : List (List UInt8)) (i k : Nat), ns.contains s = false → Instr.findNow .string (.string ⟨s.toArray⟩) ((ns.zipIdx k).map keyEnt) i = some none
  | [], i, k, _ => by simp [Instr.findNow]
  | x :: ns, i, k, h => by
    simp only [List.contains_cons, Bool.or_eq_false_iff] at h
    simp only [List.zipIdx_cons, List.map_cons, Instr.findNow, keyEnt, same_key, h.1]
    exact find_none s ns (i + 1) (k + 1) h.2

theorem find_some (s : List UInt8) : ∀ (ns : List (List UInt8)) (i k : Nat), ns.contains s = true → ∃ j, Instr.findNow .string (.string ⟨s.toArray⟩) ((ns.zipIdx k).map keyEnt) i = some (some (j, .agg #[]))
  | [], i, k, h => by simp at h
  | x :: ns, i, k, h => by
    simp only [List.zipIdx_cons, List.map_cons, Instr.findNow, keyEnt, same_key]
    by_cases e : (s == x) = true
    · exact ⟨i, by simp only [e]⟩
    · have e' : (s == x) = false := by simpa using e
      simp only [List.contains_cons, e', Bool.false_or] at h
      obtain ⟨j, hj⟩ := find_some s ns (i + 1) (k + 1) h
      exact ⟨j, by simp only [e']; exact hj⟩

theorem EntAt.perm {H : AHeap} {e : Ent} {F : Ent → AHeap} (h : EntAt H e F) : ∃ G, H.Perm (e :: G) ∧ ∀ x, (F x).Perm (x :: G) := by
  induction h with
  | here => exact ⟨_, .refl _, fun _ => .refl _⟩
  | there _ ih =>
    obtain ⟨G, h1, h2⟩ := ih
    exact ⟨_ :: G, (h1.cons _).trans (.swap _ _ _), fun x => ((h2 x).cons _).trans (.swap _ _ _)⟩

section
variable {P : Program} {N : Nat} {ty : TypeId → Option TyI} {T : Tmps} {H : AHeap} {Q : APost} {o : Oper} {F : Operand → Option AV}

theorem hard_makeMap {t : TypeId} (ho : o.op = .makeMap t none) :
    AHard P o F H fun r H' => ∃ b, r = .ret (.mapv (some b)) ∧ H' = .obj b (keyObj []) :: H := by
  intro E st w a r next Q hc hF _ hr _
  have hrun : (execOp a.eval o).run P w = .ok (.value (.map (some w.heap.size))) (w.alloc (keyObj [])) := by
    simp [execOp, ho, Instr.makeMap, Result.andThen, keyObj_nil]
  obtain ⟨c1, k1⟩ := hc.lay (keyObj [])
  have hno : ¬ AHeap.owns H w.heap.size := fun h => by have := hc.ownlt _ h; omega
  refine upon_value_ok hrun (hr st _ (.mapv (some w.heap.size)) _ _ (c1.take (e := .obj w.heap.size (keyObj [])) (l := w.heap.size) (fun k => ⟨fun e => e.symm, fun e => e.symm⟩) (by simp) (.inr hc.size) hno ⟨fun o ho => ?_, World.alloc_heap_new w _, by simp [keyObj]⟩) k1 (.mapv _) ⟨_, rfl, rfl⟩)
  have := hc.stlt _ _ ho
  omega

theorem hard_lookup (hty : TyOk P ty) {t kt et : TypeId} {x k : Operand} {s : List UInt8} {ns : List (List UInt8)} {b i : Nat} {ti tk te : TyI} (ho : o.op = .lookup t x k true)
    (ht : ty t = some ti) (hk : ti.k = .map kt et) (htk : ty kt = some tk) (hkk : tk.k = .str) (hte : ty et = some te) (hze : te.zero = .agg [])
    (hx : F x = some (.mapv (some b))) (hs : F k = some (.str s)) (hi : H[i]? = some (.obj b (keyObj ns))) :
    AHard P o F H fun r H' => r = .ret (.tuple [.agg [], .bool (ns.contains s)]) ∧ H' = H := by
  intro E st w a r next Q hc hF _ hr _
  have hes := (hF k _ hs).str_eq
  obtain ⟨g1, g2, g3⟩ := hc.ents (.obj b (keyObj ns)) (List.mem_of_getElem? hi)
  obtain ⟨⟨d, hd, hfit⟩, _⟩ := hty t ti ht
  rw [hk] at hfit
  obtain rfl : d = .map kt et := hfit
  obtain ⟨⟨dk, hdk, hfk⟩, _⟩ := hty kt tk htk
  rw [hkk] at hfk
  obtain rfl : dk = .string := hfk
  obtain ⟨-, inf, z, hinf, hsz, -, hz, hzc, hzr, -⟩ := hty et te hte
  have hzr0 := hzr st w
  rw [hze] at hzr0
  obtain rfl : z = .agg #[] := by
    cases hzr0 with
    | agg _ cs hl _ =>
      obtain rfl : cs = [] := List.eq_nil_of_length_eq_zero hl
      rfl
  have hxe : a.eval x = .map (some b) := by
    have hrep := hF x _ hx
    generalize a.eval x = q at hrep
    cases hrep
    rfl
  have hob : w.heap[b]? = some (.map ((ns.zipIdx).map keyEnt).toArray ns.length) := g2
  have hrun : (execOp a.eval o).run P w = .ok (.value (.tuple #[.agg #[], .bool (ns.contains s)])) w := by
    cases hb : ns.contains s with
    | false =>
      have hf := find_none s ns 0 0 hb
      simp [execOp, ho, Instr.lookup, hxe, hes, run_underlying hd, Go.MapKept.run_getObj_map (P := P) hob, run_checkKey hdk (k := .string ⟨s.toArray⟩) trivial, run_findKey hdk hf, run_zeroValue hinf hz, Result.andThen]
    | true =>
      obtain ⟨j, hf⟩ := find_some s ns 0 0 hb
      simp [execOp, ho, Instr.lookup, hxe, hes, run_underlying hd, Go.MapKept.run_getObj_map (P := P) hob, run_checkKey hdk (k := .string ⟨s.toArray⟩) trivial, run_findKey hdk hf, Result.andThen]
  refine upon_value_ok hrun (hr st _ (.tuple [.agg [], .bool (ns.contains s)]) _ H hc (Keeps.refl _ _) ?_ ⟨rfl, rfl⟩)
  exact .tuple _ _ rfl fun j v x hv hx => by
    match j, hv, hx with
    | 0, hv, hx => simp at hv hx; subst hv; subst hx; exact .agg _ _ rfl (by simp)
    | 1, hv, hx => simp only [List.getElem?_cons_succ, List.getElem?_cons_zero, Option.some.injEq] at hv hx; subst hv; subst hx; exact .bool _

theorem hard_update (hty : TyOk P ty) {t kt et : TypeId} {x k y : Operand} {s : List UInt8} {ns : List (List UInt8)} {b : Nat} {G : AHeap} {ti tk : TyI} (ho : o.op = .mapUpdate t x k y)
    (ht : ty t = some ti) (hk : ti.k = .map kt et) (htk : ty kt = some tk) (hkk : tk.k = .str)
    (hx : F x = some (.mapv (some b))) (hs : F k = some (.str s)) (hy : F y = some (.agg [])) (hp : H.Perm (.obj b (keyObj ns) :: G)) (hno : ns.contains s = false) :
    AHard P o F H fun r H' => r = .ret (.tuple []) ∧ H' = .obj b (keyObj (ns ++ [s])) :: G := by
  intro E st w a r next Q hc hF _ hr _
  have hes := (hF k _ hs).str_eq
  have hc1 := hc.perm hp
  obtain ⟨g1, g2, g3⟩ := hc1.ents (.obj b (keyObj ns)) (by simp)
  obtain ⟨⟨d, hd, hfit⟩, _⟩ := hty t ti ht
  rw [hk] at hfit
  obtain rfl : d = .map kt et := hfit
  obtain ⟨⟨dk, hdk, hfk⟩, _⟩ := hty kt tk htk
  rw [hkk] at hfk
  obtain rfl : dk = .string := hfk
  have hxe : a.eval x = .map (some b) := by
    have hrep := hF x _ hx
    generalize a.eval x = q at hrep
    cases hrep
    rfl
  have hye : a.eval y = .agg #[] := by
    have hrep := hF y _ hy
    generalize a.eval y = q at hrep
    cases hrep with
    | agg _ cs hl _ =>
      obtain rfl : cs = [] := List.eq_nil_of_length_eq_zero hl
      rfl
  have hob : w.heap[b]? = some (.map ((ns.zipIdx).map keyEnt).toArray ns.length) := g2
  have hrun : (execOp a.eval o).run P w = .ok .skip (w.putObj b (keyObj (ns ++ [s]))) := by
    have hf := find_none s ns 0 0 hno
    rw [keyObj_append]
    simp [execOp, ho, Instr.mapUpdate, hxe, hes, hye, run_underlying hd, Go.MapKept.run_getObj_map (P := P) hob, run_checkKey hdk (k := .string ⟨s.toArray⟩) trivial, run_findKey hdk hf, run_setObj_map _ hob, Result.andThen, World.putObj]
  obtain ⟨c2, k2⟩ := hc1.obj (y := keyObj (ns ++ [s])) (by simp [keyObj])
  exact upon_skip_ok hrun (hr st _ (.tuple []) undef _ c2 k2 (.tuple [] [] rfl (by simp)) ⟨rfl, rfl⟩)

theorem hard_updateE (hty : TyOk P ty) {t kt et : TypeId} {x k y : Operand} {s : List UInt8} {ns : List (List UInt8)} {b : Nat} {F' : Ent → AHeap} {ti tk : TyI} (ho : o.op = .mapUpdate t x k y)
    (ht : ty t = some ti) (hk : ti.k = .map kt et) (htk : ty kt = some tk) (hkk : tk.k = .str)
    (hx : F x = some (.mapv (some b))) (hs : F k = some (.str s)) (hy : F y = some (.agg [])) (hi : EntAt H (.obj b (keyObj ns)) F') (hno : ns.contains s = false) :
    AHard P o F H fun r H' => r = .ret (.tuple []) ∧ H' = F' (.obj b (keyObj (ns ++ [s]))) := by
  obtain ⟨G, h1, h2⟩ := hi.perm
  intro E st w a r next Q hc hF hout hr hp
  refine hard_update hty ho ht hk htk hkk hx hs hy h1 hno E st w a r next Q hc hF hout ?_ ?_
  · rintro st' w' v c H' k1 k2 k3 ⟨e, rfl⟩
    exact hr st' w' v c _ (k1.perm (h2 _).symm) k2 k3 ⟨e, rfl⟩
  · rintro st' w' v c H' k1 k2 k3 ⟨e, rfl⟩
    exact hp st' w' v c _ (k1.perm (h2 _).symm) k2 k3 ⟨e, rfl⟩

variable {l0 : List Oper} {LD : LDs} {W : Bool} {l : List (Nat × Oper)} {n : Nat}

theorem TR.makeMap {t : TypeId} {d : Nat} (k : ∀ b, TR P N ty l0 LD W Q l ((d, .mapv (some b)) :: T) (.obj b (keyObj []) :: H)) (hg : o.guard = none := by exact rfl)
    (ho : o.op = .makeMap t none := by exact rfl) (hd : o.dst = some d := by exact rfl) (hN : Nat.ble (d + 1) N = true := by exact rfl) (hon : optN True T (tmpsOf o.op) := by exact True.intro) : TR P N ty l0 LD W Q ((n, o) :: l) T H := by
  refine TR.hard (fun r H' => ∃ b, r = .ret (.mapv (some b)) ∧ H' = .obj b (keyObj []) :: H) (.inr (by rw [ho]; rfl)) hg (by rw [hd]; exact hN) hon (hard_makeMap ho) ?_ ?_ (fun h => by rw [ho] at h; cases h) (fun h => by rw [ho] at h; cases h)
  · rintro v H' ⟨b, e, rfl⟩
    cases e
    rw [hd]
    exact k b
  · rintro v H' ⟨b, e, _⟩
    cases e

theorem TR.lookup (hty : TyOk P ty) {t kt et : TypeId} {x y : Operand} {s : List UInt8} {ns : List (List UInt8)} {b d : Nat} {ti tk te : TyI} (i : Nat) (hi : H[i]? = some (.obj b (keyObj ns)))
    (k : TR P N ty l0 LD W Q l ((d, .tuple [.agg [], .bool (ns.contains s)]) :: T) H) (hg : o.guard = none := by exact rfl)
    (ho : o.op = .lookup t x y true := by exact rfl) (hd : o.dst = some d := by exact rfl) (hN : Nat.ble (d + 1) N = true := by exact rfl) (hon : optN True T (tmpsOf o.op) := by exact True.intro)
    (ht : ty t = some ti := by exact rfl) (hk : ti.k = .map kt et := by exact rfl) (htk : ty kt = some tk := by exact rfl) (hkk : tk.k = .str := by exact rfl) (hte : ty et = some te := by exact rfl) (hze : te.zero = .agg [] := by exact rfl)
    (hx : opvL (tmpsOf o.op) T x = some (.mapv (some b)) := by exact rfl) (hs : opvL (tmpsOf o.op) T y = some (.str s) := by exact rfl) : TR P N ty l0 LD W Q ((n, o) :: l) T H := by
  refine TR.hard (fun r H' => r = .ret (.tuple [.agg [], .bool (ns.contains s)]) ∧ H' = H) (.inr (by rw [ho]; rfl)) hg (by rw [hd]; exact hN) hon (hard_lookup (i := i) hty ho ht hk htk hkk hte hze hx hs hi) ?_ ?_ (fun h => by rw [ho] at h; cases h) (fun h => by rw [ho] at h; cases h)
  · rintro v H' ⟨e, rfl⟩
    cases e
    rw [hd]
    exact k
  · rintro v H' ⟨e, _⟩
    cases e

/-- Is it a key? -/
theorem qlkp (hty : TyOk P ty) {t kt et : TypeId} {x y : Operand} {s : List UInt8} {ns : List (List UInt8)} {b d : Nat} {ti tk te : TyI}
    (k : TR P N ty l0 LD W Q l ((d, .tuple [.agg [], .bool (ns.contains s)]) :: T) H) (hm : Ent.obj b (keyObj ns) ∈ H := by (first | exact (List.Mem.head _) | exact List.Mem.tail _ ((List.Mem.head _)) | exact List.Mem.tail _ (List.Mem.tail _ ((List.Mem.head _))) | exact List.Mem.tail _ (List.Mem.tail _ (List.Mem.tail _ ((List.Mem.head _)))) | exact List.Mem.tail _ (List.Mem.tail _ (List.Mem.tail _ (List.Mem.tail _ ((List.Mem.head _))))) | exact List.Mem.tail _ (List.Mem.tail _ (List.Mem.tail _ (List.Mem.tail _ (List.Mem.tail _ ((List.Mem.head _)))))) | exact List.Mem.tail _ (List.Mem.tail _ (List.Mem.tail _ (List.Mem.tail _ (List.Mem.tail _ (List.Mem.tail _ ((List.Mem.head _))))))) | exact List.Mem.tail _ (List.Mem.tail _ (List.Mem.tail _ (List.Mem.tail _ (List.Mem.tail _ (List.Mem.tail _ (List.Mem.tail _ ((List.Mem.head _)))))))) | exact List.Mem.tail _ (List.Mem.tail _ (List.Mem.tail _ (List.Mem.tail _ (List.Mem.tail _ (List.Mem.tail _ (List.Mem.tail _ (List.Mem.tail _ ((List.Mem.head _))))))))))) (hg : o.guard = none := by exact rfl)
    (ho : o.op = .lookup t x y true := by exact rfl) (hd : o.dst = some d := by exact rfl) (hN : Nat.ble (d + 1) N = true := by exact rfl) (hon : optN True T (tmpsOf o.op) := by exact True.intro)
    (ht : ty t = some ti := by exact rfl) (hk : ti.k = .map kt et := by exact rfl) (htk : ty kt = some tk := by exact rfl) (hkk : tk.k = .str := by exact rfl) (hte : ty et = some te := by exact rfl) (hze : te.zero = .agg [] := by exact rfl)
    (hx : opvL (tmpsOf o.op) T x = some (.mapv (some b)) := by exact rfl) (hs : opvL (tmpsOf o.op) T y = some (.str s) := by exact rfl) : TR P N ty l0 LD W Q ((n, o) :: l) T H := by
  obtain ⟨i, hi⟩ := List.getElem?_of_mem hm
  exact TR.lookup hty i hi k hg ho hd hN hon ht hk htk hkk hte hze hx hs

/-- A new key. -/
theorem qupd (hty : TyOk P ty) {t kt et : TypeId} {x y z : Operand} {s : List UInt8} {ns : List (List UInt8)} {b : Nat} {F' : Ent → AHeap} {ti tk : TyI} (hno : ns.contains s = false)
    (k : TR P N ty l0 LD W Q l (putO o.dst (.tuple []) T) (F' (.obj b (keyObj (ns ++ [s]))))) (hi : EntAt H (.obj b (keyObj ns)) F' := by (first | exact .here | exact .there (.here) | exact .there (.there (.here)) | exact .there (.there (.there (.here))) | exact .there (.there (.there (.there (.here)))) | exact .there (.there (.there (.there (.there (.here))))) | exact .there (.there (.there (.there (.there (.there (.here)))))) | exact .there (.there (.there (.there (.there (.there (.there (.here))))))) | exact .there (.there (.there (.there (.there (.there (.there (.there (.here)))))))) | exact .there (.there (.there (.there (.there (.there (.there (.there (.there (.here))))))))) | exact .there (.there (.there (.there (.there (.there (.there (.there (.there (.there (.here)))))))))) | exact .there (.there (.there (.there (.there (.there (.there (.there (.there (.there (.there (.here))))))))))) | exact .there (.there (.there (.there (.there (.there (.there (.there (.there (.there (.there (.there (.here)))))))))))) | exact .there (.there (.there (.there (.there (.there (.there (.there (.there (.there (.there (.there (.there (.here))))))))))))) | exact .there (.there (.there (.there (.there (.there (.there (.there (.there (.there (.there (.there (.there (.there (.here)))))))))))))) | exact .there (.there (.there (.there (.there (.there (.there (.there (.there (.there (.there (.there (.there (.there (.there (.here))))))))))))))))) (hg : o.guard = none := by exact rfl)
    (ho : o.op = .mapUpdate t x y z := by exact rfl) (hN : dstOk o.dst N = true := by exact rfl) (hon : optN True T (tmpsOf o.op) := by exact True.intro)
    (ht : ty t = some ti := by exact rfl) (hk : ti.k = .map kt et := by exact rfl) (htk : ty kt = some tk := by exact rfl) (hkk : tk.k = .str := by exact rfl)
    (hx : opvL (tmpsOf o.op) T x = some (.mapv (some b)) := by exact rfl) (hs : opvL (tmpsOf o.op) T y = some (.str s) := by exact rfl) (hz : opvL (tmpsOf o.op) T z = some (.agg []) := by exact rfl) : TR P N ty l0 LD W Q ((n, o) :: l) T H := by
  refine TR.hard (fun r H' => r = .ret (.tuple []) ∧ H' = F' (.obj b (keyObj (ns ++ [s])))) (.inr (by rw [ho]; rfl)) hg hN hon (hard_updateE hty ho ht hk htk hkk hx hs hz hi hno) ?_ ?_ (fun h => by rw [ho] at h; cases h) (fun h => by rw [ho] at h; cases h)
  · rintro v H' ⟨e, rfl⟩
    cases e
    exact k
  · rintro v H' ⟨e, _⟩
    cases e

/-- A call that is handed the heap behind its first entries. -/
theorem qcallH {cf : Operand} {args : Array Operand} {ats : Array TypeId} {f : FuncId} {first captured vs vs0 : List AV} {G Hc Hc' H2 : AHeap} {u : AV} (h : ACalls P f vs0 Hc fun r H' => r = .ret u ∧ H' = Hc')
    (k : TR P N ty l0 LD W Q l (putO o.dst u T) H2) (hp : AppL G Hc H := by (first | exact .nil | exact .cons (.nil) | exact .cons (.cons (.nil)) | exact .cons (.cons (.cons (.nil))) | exact .cons (.cons (.cons (.cons (.nil)))) | exact .cons (.cons (.cons (.cons (.cons (.nil))))) | exact .cons (.cons (.cons (.cons (.cons (.cons (.nil)))))) | exact .cons (.cons (.cons (.cons (.cons (.cons (.cons (.nil))))))) | exact .cons (.cons (.cons (.cons (.cons (.cons (.cons (.cons (.nil)))))))) | exact .cons (.cons (.cons (.cons (.cons (.cons (.cons (.cons (.cons (.nil))))))))) | exact .cons (.cons (.cons (.cons (.cons (.cons (.cons (.cons (.cons (.cons (.nil)))))))))) | exact .cons (.cons (.cons (.cons (.cons (.cons (.cons (.cons (.cons (.cons (.cons (.nil))))))))))))) (hp2 : AppL G Hc' H2 := by (first | exact .nil | exact .cons (.nil) | exact .cons (.cons (.nil)) | exact .cons (.cons (.cons (.nil))) | exact .cons (.cons (.cons (.cons (.nil)))) | exact .cons (.cons (.cons (.cons (.cons (.nil))))) | exact .cons (.cons (.cons (.cons (.cons (.cons (.nil)))))) | exact .cons (.cons (.cons (.cons (.cons (.cons (.cons (.nil))))))) | exact .cons (.cons (.cons (.cons (.cons (.cons (.cons (.cons (.nil)))))))) | exact .cons (.cons (.cons (.cons (.cons (.cons (.cons (.cons (.cons (.nil))))))))) | exact .cons (.cons (.cons (.cons (.cons (.cons (.cons (.cons (.cons (.cons (.nil)))))))))) | exact .cons (.cons (.cons (.cons (.cons (.cons (.cons (.cons (.cons (.cons (.cons (.nil)))))))))))))
    (hg : o.guard = none := by exact rfl) (ho : o.op = .call { callee := .value cf, args := args, argTypes := ats } := by exact rfl)
    (hN : dstOk o.dst N = true := by exact rfl) (hon : optN True T (tmpsOf o.op) := by exact True.intro) (hf : opvL (tmpsOf o.op) T cf = some (.func (.func f) first captured) := by exact rfl)
    (hm : mapF (opvL (tmpsOf o.op) T) args.toList = some vs := by exact rfl) (he : first ++ vs ++ captured = vs0 := by exact rfl)
    (hkb : (∀ t, LD.kp n t = false) ∨ Hc = Hc' := by first | exact .inl (fun _ => rfl) | exact .inr rfl) (hsc : LD.sc n = false := by exact rfl) : TR P N ty l0 LD W Q ((n, o) :: l) T H := by
  have e1 := hp.eq
  have e2 := hp2.eq
  subst e1
  subst e2
  subst he
  refine TR.hcallT G hg ho hN hon hf hm rfl h (fun v H' hK => ?_) (fun v H' hK => ?_) (fun v H' hK => ?_) hsc
  · obtain ⟨e1, rfl⟩ := hK
    cases e1
    exact k
  · obtain ⟨e1, rfl⟩ := hK
    cases e1
  · obtain ⟨e1, rfl⟩ := hK
    rcases hkb with hkb | rfl
    · intro b t u h
      rw [hkb t] at h
      cases h
    · exact KeepB.refl _

/-- The same, where what lies there behind it is one of many. -/
theorem qcallX {ι : Type} {cf : Operand} {args : Array Operand} {ats : Array TypeId} {f : FuncId} {first captured vs vs0 : List AV} {G Hc : AHeap} {Hc' H2 : ι → AHeap} {u : AV} (h : ACalls P f vs0 Hc fun r H' => r = .ret u ∧ ∃ i, H' = Hc' i)
    (k : ∀ i, TR P N ty l0 LD W Q l (putO o.dst u T) (H2 i)) (hp : AppL G Hc H := by (first | exact .nil | exact .cons (.nil) | exact .cons (.cons (.nil)) | exact .cons (.cons (.cons (.nil))) | exact .cons (.cons (.cons (.cons (.nil)))) | exact .cons (.cons (.cons (.cons (.cons (.nil))))) | exact .cons (.cons (.cons (.cons (.cons (.cons (.nil)))))) | exact .cons (.cons (.cons (.cons (.cons (.cons (.cons (.nil))))))) | exact .cons (.cons (.cons (.cons (.cons (.cons (.cons (.cons (.nil)))))))) | exact .cons (.cons (.cons (.cons (.cons (.cons (.cons (.cons (.cons (.nil))))))))) | exact .cons (.cons (.cons (.cons (.cons (.cons (.cons (.cons (.cons (.cons (.nil)))))))))) | exact .cons (.cons (.cons (.cons (.cons (.cons (.cons (.cons (.cons (.cons (.cons (.nil))))))))))))) (hp2 : ∀ i, AppL G (Hc' i) (H2 i) := by intro i; (first | exact .nil | exact .cons (.nil) | exact .cons (.cons (.nil)) | exact .cons (.cons (.cons (.nil))) | exact .cons (.cons (.cons (.cons (.nil)))) | exact .cons (.cons (.cons (.cons (.cons (.nil))))) | exact .cons (.cons (.cons (.cons (.cons (.cons (.nil)))))) | exact .cons (.cons (.cons (.cons (.cons (.cons (.cons (.nil))))))) | exact .cons (.cons (.cons (.cons (.cons (.cons (.cons (.cons (.nil)))))))) | exact .cons (.cons (.cons (.cons (.cons (.cons (.cons (.cons (.cons (.nil))))))))) | exact .cons (.cons (.cons (.cons (.cons (.cons (.cons (.cons (.cons (.cons (.nil)))))))))) | exact .cons (.cons (.cons (.cons (.cons (.cons (.cons (.cons (.cons (.cons (.cons (.nil)))))))))))))
    (hg : o.guard = none := by exact rfl) (ho : o.op = .call { callee := .value cf, args := args, argTypes := ats } := by exact rfl)
    (hN : dstOk o.dst N = true := by exact rfl) (hon : optN True T (tmpsOf o.op) := by exact True.intro) (hf : opvL (tmpsOf o.op) T cf = some (.func (.func f) first captured) := by exact rfl)
    (hm : mapF (opvL (tmpsOf o.op) T) args.toList = some vs := by exact rfl) (he : first ++ vs ++ captured = vs0 := by exact rfl)
    (hkb : ∀ t, LD.kp n t = false := by exact (fun _ => rfl)) (hsc : LD.sc n = false := by exact rfl) : TR P N ty l0 LD W Q ((n, o) :: l) T H := by
  have e1 := hp.eq
  subst e1
  subst he
  refine TR.hcallT G hg ho hN hon hf hm rfl h (fun v H' hK => ?_) (fun v H' hK => ?_) (fun v H' hK => ?_) hsc
  · obtain ⟨e1, i, rfl⟩ := hK
    cases e1
    have e2 := (hp2 i).eq
    rw [← e2]
    exact k i
  · obtain ⟨e1, _⟩ := hK
    cases e1
  · intro b t u h
    rw [hkb t] at h
    cases h

end
end Go.Ab

/-
  Arrays as values: built of parts, one part taken.
-/
namespace Go.Ab
section
variable {P : Program} {N : Nat} {ty : TypeId → Option TyI} {l0 : List Oper} {LD : LDs} {W : Bool} {Q : APost} {n : Nat} {o : Oper} {l : List (Nat × Oper)} {T : Tmps} {H : AHeap}

theorem run_buildA (hty : TyOk P ty) {st : Stab} {w : World} {t e : TypeId} {i ei : TyI} {m : Nat} {z cells : List AV} (hti : ty t = some i) (hk : i.k = .array m e) (hz : i.zero = .agg z) (hei : ty e = some ei)
    {ps : List (Nat × AV)} {xs : List (Nat × Value)} (hb : abuild (partsFs e ei.size 0 m) ty z ps = some cells)
    (hxl : xs.length = ps.length) (hx : ∀ (j : Nat) p x, ps[j]? = some p → xs[j]? = some x → p.1 = x.1 ∧ Rep st w p.2 x.2) :
    ∃ c, (Instr.build t ⟨xs⟩).run P w = .ok c w ∧ Rep st w (.agg cells) c := by
  obtain ⟨⟨d, hd, hkf⟩, inf, zv, hinf, hsz, hby, hzz, hzs, hzr⟩ := hty t i hti
  obtain ⟨-, inf2, _, hinf2, hsz2, -⟩ := hty e ei hei
  rw [hk] at hkf
  obtain rfl : d = .array m e := hkf
  have hzr' := hzr.1 st w
  rw [hz] at hzr'
  cases hzr' with
  | agg _ zc hzl hzc =>
    obtain ⟨cs', h1, h2, h3⟩ := abuild_sound (st := st) (w := w) (ty := ty) (fs := partsFs e ei.size 0 m) (place := fun i => some (i * ei.size, ei.size))
      (fun f off ft i hf hi => by
        obtain ⟨rfl, rfl⟩ := partsFs_get e ei.size m 0 f off ft hf
        rw [hei] at hi
        simp at hi
        subst hi
        simp) ps xs z cells zc hb hzl hzc hxl hx
    refine ⟨.agg ⟨cs'⟩, ?_, .agg cells cs' h2 h3⟩
    unfold Instr.build
    have hzv : (zeroValue t).run P w = .ok (.agg ⟨zc⟩) w := by rw [run_zeroValue hinf hzz]
    have hso : (sizeOf e).run P w = .ok ei.size w := by rw [run_sizeOf hinf2, hsz2]
    rw [Sem.run_bind, hzv, Result.andThen_ok, Sem.run_bind, run_underlying hd, Result.andThen_ok]
    simp only [Sem.run_bind]
    rw [hso, Result.andThen_ok]
    have h1' : Instr.fill (fun i => some (i * ei.size, ei.size)) (Value.agg ⟨zc⟩).cells xs = some ⟨cs'⟩ := h1
    simp only [h1']
    rfl

/-- An array of parts. -/
theorem qarr (hty : TyOk P ty) {t e : TypeId} {ps : Array (Nat × Operand)} {i ei : TyI} {m : Nat} {z cells : List AV} {vs : List (Nat × AV)} {d : Nat} (k' : TR P N ty l0 LD W Q l ((d, .agg cells) :: T) H)
    (ho : o.op = .build t ps := by exact rfl) (hg : o.guard = none := by exact rfl) (hd : o.dst = some d := by exact rfl) (hN : Nat.ble (d + 1) N = true := by exact rfl)
    (hon : optN True T (tmpsOf o.op) := by exact True.intro) (hti : ty t = some i := by exact rfl) (hk : i.k = .array m e := by exact rfl) (hz : i.zero = .agg z := by exact rfl) (he : ty e = some ei := by exact rfl)
    (hm : mapP (opvL (tmpsOf o.op) T) ps.toList = some vs := by exact rfl) (hb : abuild (partsFs e ei.size 0 m) ty z vs = some cells := by exact rfl) : TR P N ty l0 LD W Q ((n, o) :: l) T H := by
  refine TR.sem (.agg cells) d hg hd hN hon (fun st w ρ hF => ?_) k'
  obtain ⟨hl, hr⟩ := mapP_sound hF _ _ hm
  obtain ⟨c, h1, h2⟩ := run_buildA (st := st) (w := w) hty hti hk hz he hb hl hr
  refine ⟨c, ?_, h2⟩
  obtain ⟨dst, op', type, pos, after, guard⟩ := o
  simp only at ho
  subst ho
  have e' : (ps.map fun (x : Nat × Operand) => (x.1, ρ x.2)) = ⟨ps.toList.map fun p => (p.1, ρ p.2)⟩ := by
    apply Array.ext'
    simp
  show ((do pure (.value (← Instr.build t (ps.map fun (x : Nat × Operand) => (x.1, ρ x.2))))) : Sem Next).run P w = _
  rw [e']
  exact exec_v h1

/-- A part of an array that is a value. -/
theorem qaix (hty : TyOk P ty) {t e : TypeId} {x y : Operand} {i ei : TyI} {m : Nat} {k : IntKind} {j : Int} {cells : List AV} {v : AV} {d : Nat}
    (k' : TR P N ty l0 LD W Q l ((d, v) :: T) H)
    (ho : o.op = .index t x y := by exact rfl) (hg : o.guard = none := by exact rfl) (hd : o.dst = some d := by exact rfl) (hN : Nat.ble (d + 1) N = true := by exact rfl)
    (hon : optN True T (tmpsOf o.op) := by exact True.intro) (hti : ty t = some i := by exact rfl) (hk : i.k = .array m e := by exact rfl) (he : ty e = some ei := by exact rfl)
    (hx : opvL (tmpsOf o.op) T x = some (.agg cells) := by exact rfl) (hy : opvL (tmpsOf o.op) T y = some (.int k j) := by exact rfl)
    (hp : partOf ei (cells.drop (j.toNat * ei.size)) = some v := by exact rfl) (hj : 0 ≤ j ∧ j < (m : Int) := by first | decide | omega) : TR P N ty l0 LD W Q ((n, o) :: l) T H := by
  refine TR.sem v d hg hd hN hon (fun st w ρ hF => ?_) k'
  have h2 := (hF y _ hy).int_eq
  have h1 := hF x _ hx
  generalize hxv : ρ x = xv at h1
  cases h1 with
  | agg _ cs hl hc =>
    obtain ⟨⟨dd, hdd, hkf⟩, -⟩ := hty t i hti
    obtain ⟨-, inf2, _, hinf2, hsz2, -⟩ := hty e ei he
    rw [hk] at hkf
    obtain rfl : dd = .array m e := hkf
    obtain ⟨c, g1, g2⟩ := part_sound (st := st) (w := w) hty he hl hc hp
    refine ⟨c, ?_, g2⟩
    obtain ⟨dst, op', type, pos, after, guard⟩ := o
    simp only at ho
    subst ho
    have hso : (sizeOf e).run P w = .ok ei.size w := by rw [run_sizeOf hinf2, hsz2]
    show ((do pure (.value (← Instr.index t (ρ x) (ρ y)))) : Sem Next).run P w = _
    rw [hxv, h2]
    refine exec_v ?_
    unfold Instr.index
    simp only [asIntOf, Sem.run_bind, Sem.run_pure, Result.andThen_ok, run_underlying hdd, hj.1, hj.2, if_true, and_self, hso, g1]
/-- Where ways meet again, whatever stands ahead of the heap. -/
theorem cutKF {K : Tmps → AHeap → Prop} {c : Code} {Wk : Tmps} {H0 : AHeap} (hK : ∀ T' H', AWP P N c T' H' Q → K T' H') (hA : AWP P N c Wk H0 Q) : ∀ T' F, Weak T' Wk → K T' (F ++ H0) :=
  fun _ _ hw => hK _ _ (awp_weaken (Weak.spec hw) (awp_dropF hA))
end
end Go.Ab

/-
  More of arrays: the address of a part, in stable cells.
-/
namespace Go.Ab
section
variable {P : Program} {N : Nat} {ty : TypeId → Option TyI} {l0 : List Oper} {LD : LDs} {W : Bool} {Q : APost} {n : Nat} {o : Oper} {l : List (Nat × Oper)} {T : Tmps} {H : AHeap}

/-- The address of a part of an array that stands in stable cells. -/
theorem qiaR (hty : TyOk P ty) {t e : TypeId} {x y : Operand} {i ei : TyI} {m : Nat} {k : IntKind} {j : Int} {cells : List AV} {d : Nat}
    (k' : TR P N ty l0 LD W Q l ((d, .rptr (cells.drop (j.toNat * ei.size))) :: T) H)
    (ho : o.op = .indexAddr t x y := by exact rfl) (hg : o.guard = none := by exact rfl) (hd : o.dst = some d := by exact rfl) (hN : Nat.ble (d + 1) N = true := by exact rfl)
    (hon : optN True T (tmpsOf o.op) := by exact True.intro) (hti : ty t = some i := by exact rfl) (hk : i.k = .array m e := by exact rfl) (he : ty e = some ei := by exact rfl)
    (hx : opvL (tmpsOf o.op) T x = some (.rptr cells) := by exact rfl) (hy : opvL (tmpsOf o.op) T y = some (.int k j) := by exact rfl)
    (hj : 0 ≤ j ∧ j < (m : Int) := by first | decide | omega) : TR P N ty l0 LD W Q ((n, o) :: l) T H := by
  refine TR.sem (.rptr (cells.drop (j.toNat * ei.size))) d hg hd hN hon (fun st w ρ hF => ?_) k'
  have h2 := (hF y _ hy).int_eq
  have h1 := hF x _ hx
  generalize hxv : ρ x = xv at h1
  cases h1 with
  | rptr _ b off c hcell hrep =>
    obtain ⟨⟨dd, hdd, hkf⟩, -⟩ := hty t i hti
    obtain ⟨-, inf2, _, hinf2, hsz2, -⟩ := hty e ei he
    rw [hk] at hkf
    obtain rfl : dd = .array m e := hkf
    refine ⟨.pointer (some ⟨b, off + j.toNat * ei.size, none⟩), ?_, .rptr _ b (off + j.toNat * ei.size) (fun z => c (j.toNat * ei.size + z)) (fun z hz => ?_) (fun z v hv => ?_)⟩
    · obtain ⟨dst, op', type, pos, after, guard⟩ := o
      simp only at ho
      subst ho
      show ((do pure (.value (← Instr.indexAt t (ρ x) (ρ y)))) : Sem Next).run P w = _
      rw [hxv, h2]
      refine exec_v ?_
      unfold Instr.indexAt
      simp [asIntOf, run_underlying hdd, run_sizeOf hinf2, hsz2, hj.1, hj.2, addr_add, Instr.sureAddr]
    · have := hcell (j.toNat * ei.size + z) (by simp at hz; omega)
      simpa [Nat.add_assoc] using this
    · exact hrep (j.toNat * ei.size + z) v (by simpa using hv)
end
end Go.Ab

/-
  An append of many elements; a Builder of texts.
-/
namespace Go.Ab
section
variable {P : Program} {N : Nat} {ty : TypeId → Option TyI} {l0 : List Oper} {LD : LDs} {W : Bool} {Q : APost} {n : Nat} {o : Oper} {l : List (Nat × Oper)} {T : Tmps} {H : AHeap}

/-- An append of elements to an owned slice (its room stands in the heap). -/
theorem qappL {α : Type} [Inhabited α] (hty : TyOk P ty) (f : α → List AV) (xs ys : List α) {s y : Operand} {t e : TypeId} {ti ei : TyI} {vx : AV} {sz : Nat} {el2 : Nat → List AV} {ow : Own} {d : Nat} {a : Option Addr} {cap : Nat} {F : Ent → AHeap}
    (hel : ∀ i, i < ys.length → SubL (el2 i) (f (ys.getD i default))) (hb : (xs.length + ys.length) * ei.bytes ≤ 140737488355328 ∧ xs.length + ys.length ≤ 9223372036854775807)
    (k : ∀ a cap, TR P N ty l0 LD W Q l ((d, sl f sz (xs ++ ys) (.own a cap)) :: T) (F (.tok a cap (xs ++ ys).length sz e)))
    (hg : o.guard = none := by exact rfl) (ho : o.op = .call { callee := .builtin .append, args := #[s, y], argTypes := #[t, t] } := by exact rfl) (hd : o.dst = some d := by exact rfl) (hN : Nat.ble (d + 1) N = true := by exact rfl)
    (hon : optN True T (tmpsOf o.op) := by exact True.intro) (hti : ty t = some ti := by exact rfl) (hk : ti.k = .slice e := by exact rfl) (hei : ty e = some ei := by exact rfl) (hsz : ei.size = sz := by exact rfl) (hpos : Nat.ble 1 sz = true := by exact rfl)
    (hs : opvL (tmpsOf o.op) T s = some (sl f sz xs (.own a cap)) := by exact rfl) (hx : opvL (tmpsOf o.op) T y = some vx := by exact rfl) (hvx : asSl sz vx = some (ys.length, el2, ow) := by exact rfl)
    (hi : EntAt H (.tok a cap xs.length sz e) F := by (first | exact .here | exact .there (.here) | exact .there (.there (.here)) | exact .there (.there (.there (.here))) | exact .there (.there (.there (.there (.here)))) | exact .there (.there (.there (.there (.there (.here))))) | exact .there (.there (.there (.there (.there (.there (.here)))))) | exact .there (.there (.there (.there (.there (.there (.there (.here))))))) | exact .there (.there (.there (.there (.there (.there (.there (.there (.here)))))))) | exact .there (.there (.there (.there (.there (.there (.there (.there (.there (.here))))))))) | exact .there (.there (.there (.there (.there (.there (.there (.there (.there (.there (.here)))))))))) | exact .there (.there (.there (.there (.there (.there (.there (.there (.there (.there (.there (.here))))))))))) | exact .there (.there (.there (.there (.there (.there (.there (.there (.there (.there (.there (.there (.here)))))))))))) | exact .there (.there (.there (.there (.there (.there (.there (.there (.there (.there (.there (.there (.there (.here))))))))))))) | exact .there (.there (.there (.there (.there (.there (.there (.there (.there (.there (.there (.there (.there (.there (.here)))))))))))))) | exact .there (.there (.there (.there (.there (.there (.there (.there (.there (.there (.there (.there (.there (.there (.there (.here))))))))))))))))) : TR P N ty l0 LD W Q ((n, o) :: l) T H := by
  obtain ⟨i, g1, g2⟩ := hi.spec
  have hvs : asSl sz (sl f sz xs (.own a cap)) = some (xs.length, fun i => f (xs.getD i default), .own a cap) := by
    simp [asSl, sl]
  refine TR.appendO hty i (fun ad cp => sl f sz (xs ++ ys) (.own ad cp)) hg ho hd (by rw [hd]; exact hN) hon hti hk hei hsz hpos hs hx hvs hvx g1 hb (fun ad cp => glue_slS f sz xs ys el2 hel _) fun ad cp => ?_
  have := k ad cp
  rw [g2] at this
  rw [List.length_append] at this
  exact this
end
end Go.Ab

/-
  An append of a text to bytes.
-/
namespace Go.Ab

def byteE (b : UInt8) : List AV := [.int .u8 b.toNat]
def byteV (s : List UInt8) (j : Nat) : Value := .int .u8 (s.getD j 0).toNat

section
variable {P : Program} {ty : TypeId → Option TyI} {o : Oper} {F : Operand → Option AV} {H : AHeap}

variable {F : Operand → Option AV}
end
section
variable {P : Program} {N : Nat} {ty : TypeId → Option TyI} {l0 : List Oper} {LD : LDs} {W : Bool} {Q : APost} {n : Nat} {o : Oper} {l : List (Nat × Oper)} {T : Tmps} {H : AHeap}

/-- Bytes that the call owns. -/
def bytesA (s : List UInt8) (w : Own) : AV := sl byteE 1 s w

end
end Go.Ab

/-
  Bytes in a block that the call owns (their room too): appends of texts, and their end as a text.
-/
namespace Go.Ab

/-- What the block's cells hold. -/
def byEl (s : List UInt8) (j : Nat) : AV := cond (Nat.blt j s.length) (.int .u8 (s.getD j 0).toNat) .any
def rowB (g : Nat) (e : TypeId) (cap : Nat) (s : List UInt8) : Ent := .box g e (.vec cap (byEl s))

section
variable {P : Program} {ty : TypeId → Option TyI} {o : Oper} {F : Operand → Option AV} {H : AHeap}

end
section
variable {P : Program} {N : Nat} {ty : TypeId → Option TyI} {l0 : List Oper} {LD : LDs} {W : Bool} {Q : APost} {n : Nat} {o : Oper} {l : List (Nat × Oper)} {T : Tmps} {H : AHeap}

end
end Go.Ab
