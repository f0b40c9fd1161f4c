/-
  Operations that act: new boxes, stores, appends, calls. And calls of functions.
-/
import Derived.Test.YtgbmanmcioailaaDoorAb5
namespace Go.Ab

theorem perm_eraseIdx {α : Type} : ∀ (l : List α) (i : Nat) (x : α), l[i]? = some x → l.Perm (x :: l.eraseIdx i)
  | [], i, x, h => by simp at h
  | y :: l, 0, x, h => by simp at h; subst h; exact List.Perm.refl _
  | y :: l, i + 1, x, h => by
    have := perm_eraseIdx l i x (by simpa using h)
    rw [List.eraseIdx_cons_succ]
    exact (this.cons y).trans (List.Perm.swap x y _)

theorem perm_set {α : Type} : ∀ (l : List α) (i : Nat) (x y : α), l[i]? = some x → (y :: l.eraseIdx i).Perm (l.set i y)
  | [], i, x, y, h => by simp at h
  | z :: l, 0, x, y, h => by simp
  | z :: l, i + 1, x, y, h => by
    have := perm_set l i x y (by simpa using h)
    rw [List.eraseIdx_cons_succ, List.set_cons_succ]
    exact (List.Perm.swap z y _).trans (this.cons z)

theorem Conc.draw {E : Env0} {st : Stab} {H : AHeap} {w : World} (h : Conc E st H w) : Conc E st H w.drew :=
  ⟨h.os, h.tape, h.output, h.size, h.old, h.keep, h.stle, h.stnew, h.stlt, h.ownnew, h.ownlt,
   fun e he => Ent.holds_keep (w := w) (w' := w.drew) ⟨fun _ _ h => h, fun _ _ _ => rfl⟩ (h.ents e he) (fun _ _ => rfl) (fun _ _ _ h => h), h.sep⟩

theorem Keeps.draw (st : Stab) (w : World) : Keeps st st w w.drew := ⟨fun _ _ h => h, fun _ _ _ => rfl⟩

/-- New blocks behind the old ones, which stay: new entries over them, new stable cells in them. -/
theorem Conc.grow {E : Env0} {st st' : Stab} {H Hn : AHeap} {w w' : World} (h : Conc E st H w) (hos : w'.os = w.os) (htape : w'.tape = w.tape) (hout : w'.output = w.output)
    (hsz : w.heap.size ≤ w'.heap.size) (hblk : ∀ k, k < w.heap.size → w'.heap[k]? = w.heap[k]?) (hle : ∀ b o, st b o → st' b o)
    (hst : ∀ b o, st' b o → st b o ∨ (w.heap.size ≤ b ∧ b < w'.heap.size))
    (hn : ∀ e ∈ Hn, e.holds st' w') (hno : ∀ k, AHeap.owns Hn k → w.heap.size ≤ k ∧ k < w'.heap.size) (hns : Hn.Pairwise fun e e' => ∀ k, e.owns k → ¬ e'.owns k) :
    Conc E st' (Hn ++ H) w' ∧ Keeps st st' w w' := by
  have kc : ∀ b o, st b o → w'.cell? ⟨b, o, none⟩ = w.cell? ⟨b, o, none⟩ := fun b o hs => World.cell?_of_block (w := w) (hblk b (h.stlt b o hs))
  have k : Keeps st st' w w' := ⟨hle, kc⟩
  refine ⟨⟨hos.trans h.os, htape.trans h.tape, hout.trans h.output, Nat.le_trans h.size hsz, ?_, ?_, fun b o hs => hle b o (h.stle b o hs), ?_, ?_, ?_, ?_, ?_, ?_⟩, k⟩
  · exact fun b hb hO => (hblk b (Nat.lt_of_lt_of_le hb h.size)).trans (h.old b hb hO)
  · exact fun b o hs => (kc b o (h.stle b o hs)).trans (h.keep b o hs)
  · intro b o hs
    rcases hst b o hs with x | x
    · exact h.stnew b o x
    · exact .inr (.inl (Nat.le_trans h.size x.1))
  · intro b o hs
    rcases hst b o hs with x | x
    · exact Nat.lt_of_lt_of_le (h.stlt b o x) hsz
    · exact x.2
  · intro b hb
    rcases (AHeap.owns_append _ _ _).1 hb with x | x
    · exact .inr (Nat.le_trans h.size (hno b x).1)
    · exact h.ownnew b x
  · intro b hb
    rcases (AHeap.owns_append _ _ _).1 hb with x | x
    · exact (hno b x).2
    · exact Nat.lt_of_lt_of_le (h.ownlt b x) hsz
  · intro e he
    rcases List.mem_append.1 he with x | x
    · exact hn e x
    · refine Ent.holds_keep k (h.ents e x) (fun b hb => hblk b (h.ownlt b ⟨e, x, hb⟩)) ?_
      intro b o hb hs
      rcases hst b o hs with y | y
      · exact y
      · exact absurd (h.ownlt b ⟨e, x, hb⟩) (by omega)
  · refine List.pairwise_append.2 ⟨hns, h.sep, fun e he e2 he2 b hb hb2 => ?_⟩
    have := (hno b ⟨e, he, hb⟩).1
    have := h.ownlt b ⟨e2, he2, hb2⟩
    omega

/-- One entry's own block is written. -/
theorem Conc.mod {E : Env0} {st st' : Stab} {F : AHeap} {e e' : Ent} {g : Nat} {w w' : World} (h : Conc E st (e :: F) w) (hg : e.owns g) (hos : w'.os = w.os) (htape : w'.tape = w.tape)
    (hout : w'.output = w.output) (hsz : w'.heap.size = w.heap.size) (hblk : ∀ k, k ≠ g → w'.heap[k]? = w.heap[k]?) (hkeep : ∀ o, st g o → w'.cell? ⟨g, o, none⟩ = w.cell? ⟨g, o, none⟩)
    (hle : ∀ b o, st b o → st' b o) (hst : ∀ b o, st' b o → st b o ∨ b = g) (he' : e'.holds st' w') (hown : ∀ k, e'.owns k → e.owns k) (hone : ∀ k, e.owns k → k = g) :
    Conc E st' (e' :: F) w' ∧ Keeps st st' w w' := by
  have kc : ∀ b o, st b o → w'.cell? ⟨b, o, none⟩ = w.cell? ⟨b, o, none⟩ := by
    intro b o hs
    by_cases e : b = g
    · subst e; exact hkeep o hs
    · exact World.cell?_of_block (w := w) (hblk b e)
  have k : Keeps st st' w w' := ⟨hle, kc⟩
  have hgO : AHeap.owns (e :: F) g := ⟨e, by simp, hg⟩
  have hsep := List.pairwise_cons.1 h.sep
  refine ⟨⟨hos.trans h.os, htape.trans h.tape, hout.trans h.output, by rw [hsz]; exact h.size, ?_, ?_, fun b o hs => hle b o (h.stle b o hs), ?_, ?_, ?_, ?_, ?_, ?_⟩, k⟩
  · intro b hb hO
    have hne : b ≠ g := by
      rintro rfl
      rcases h.ownnew b hgO with x | x
      · exact hO x
      · omega
    exact (hblk b hne).trans (h.old b hb hO)
  · exact fun b o hs => (kc b o (h.stle b o hs)).trans (h.keep b o hs)
  · intro b o hs
    rcases hst b o hs with x | rfl
    · exact h.stnew b o x
    · rcases h.ownnew b hgO with x | x
      · exact .inr (.inr x)
      · exact .inr (.inl x)
  · intro b o hs
    rw [hsz]
    rcases hst b o hs with x | rfl
    · exact h.stlt b o x
    · exact h.ownlt b hgO
  · rintro b ⟨e2, he2, hb⟩
    rcases List.mem_cons.1 he2 with rfl | he2
    · exact h.ownnew b ⟨e, by simp, hown b hb⟩
    · exact h.ownnew b ⟨e2, by simp [he2], hb⟩
  · rintro b ⟨e2, he2, hb⟩
    rw [hsz]
    rcases List.mem_cons.1 he2 with rfl | he2
    · exact h.ownlt b ⟨e, by simp, hown b hb⟩
    · exact h.ownlt b ⟨e2, by simp [he2], hb⟩
  · intro e2 he2
    rcases List.mem_cons.1 he2 with rfl | he2
    · exact he'
    · have hng : ∀ b, e2.owns b → b ≠ g := by
        rintro b hb rfl
        exact hsep.1 e2 he2 b hg hb
      refine Ent.holds_keep k (h.ents e2 (by simp [he2])) (fun b hb => hblk b (hng b hb)) ?_
      intro b o hb hs
      rcases hst b o hs with y | y
      · exact y
      · exact absurd y (hng b hb)
  · refine List.pairwise_cons.2 ⟨fun e2 he2 b hb hb2 => hsep.1 e2 he2 b (hown b hb) hb2, hsep.2⟩

theorem Conc.newBox {E : Env0} {st : Stab} {H : AHeap} {w : World} (h : Conc E st H w) {ty : TypeId} {v : AV} {cv : Value} (hr : Rep st w v cv) (hone : ∀ x ∈ cv.cells.toList, x.oneCell' = true) :
    Conc E st (.box w.heap.size ty v :: H) (w.alloc (.cells cv.cells ty)) ∧ Keeps st st w (w.alloc (.cells cv.cells ty)) := by
  have kc : Keeps st st w (w.alloc (.cells cv.cells ty)) := ⟨fun _ _ h => h, fun b o hs => World.cell?_alloc_lt w _ _ (h.stlt b o hs)⟩
  refine Conc.grow (Hn := [.box w.heap.size ty v]) h rfl rfl rfl (by simp) (fun k hk => heap_alloc_old w _ hk) (fun _ _ h => h) (fun b o hs => .inl hs) ?_ ?_ (by simp)
  · intro e he
    simp at he
    subst he
    exact ⟨cv.cells, cv, heap_alloc_new w _, hr.mono kc, rfl, hone, fun o hs => absurd (h.stlt _ o hs) (by omega)⟩
  · rintro k ⟨e, he, hk⟩
    simp at he
    subst he
    simp only [Ent.owns] at hk
    subst hk
    simp

section
variable {P : Program} {ty : TypeId → Option TyI} {o : Oper} {F : Operand → Option AV} {H : AHeap}

theorem upon_skip_ok {r : Option Nat} {a : Act} {w w' : World} {next : Act → World → Prop} {Q : Exit → Act → World → Prop} (h : (execOp a.eval o).run P w = .ok .skip w') (k : next (a.put o.dst undef) w') : o.wpIn (fen r) 0 P a w next Q := by
  refine ⟨fun _ _ => trivial, ?_⟩
  rw [Oper.semAt_eq _ _ _ (not_defer_of_skip h), h]
  exact k

theorem upon_value_ok {r : Option Nat} {a : Act} {w w' : World} {c : Value} {next : Act → World → Prop} {Q : Exit → Act → World → Prop} (h : (execOp a.eval o).run P w = .ok (.value c) w') (k : next (a.put o.dst c) w') : o.wpIn (fen r) 0 P a w next Q := by
  refine ⟨fun _ _ => trivial, ?_⟩
  rw [Oper.semAt_eq _ _ _ (not_defer_of_value h), h]
  exact k

theorem hard_alloc (hty : TyOk P ty) {elem : TypeId} {i : TyI} (ho : o.op = .alloc elem) (ht : ty elem = some i) :
    AHard P o F H fun r H' => ∃ b, r = .ret (.ptr b 0) ∧ H' = .box b elem i.zero :: H := by
  intro E st w a r next Q hc _ _ hr _
  obtain ⟨⟨d, hd, hk⟩, inf, z, hinf, hsz, hby, hz, hzs, hzr, hzo⟩ := hty elem i ht
  have hnb := hc.newBox (ty := elem) (hzr st w) hzo
  refine upon_value_ok (c := .pointer (some ⟨w.heap.size, 0, none⟩)) (w' := w.alloc (.cells z.cells elem)) ?_ (hr st _ (.ptr w.heap.size 0) _ _ hnb.1 hnb.2 (.ptr _ _) ⟨_, rfl, rfl⟩)
  simp [execOp, ho, Instr.alloc, run_zeroValue hinf hz, newVar, newRow]

theorem hard_box {elem : TypeId} {x : Operand} {v : AV} {vs : List AV} (ho : o.op = .box elem x) (hx : F x = some v) (hv : cellsOf v = some vs) (h1 : vs.all AV.one = true) :
    AHard P o F H fun r H' => ∃ b, r = .ret (.ptr b 0) ∧ H' = .box b elem v :: H := by
  intro E st w a r next Q hc hF _ hr _
  have hrep := hF x v hx
  obtain ⟨hl, hcr⟩ := cellsOf_rep hrep hv
  have hone : ∀ y ∈ (a.eval x).cells.toList, y.oneCell' = true := by
    intro y hy
    obtain ⟨j, hj, rfl⟩ := List.getElem_of_mem hy
    have hj' : j < vs.length := by omega
    exact (one_cells (List.all_eq_true.1 h1 vs[j] (List.getElem_mem hj')) (hcr j vs[j] _ (by simp [hj']) (by rw [List.getElem?_eq_getElem hj]))).2
  have hnb := hc.newBox (ty := elem) hrep hone
  refine upon_value_ok (c := .pointer (some ⟨w.heap.size, 0, none⟩)) (w' := w.alloc (.cells (a.eval x).cells elem)) ?_ (hr st _ (.ptr w.heap.size 0) _ _ hnb.1 hnb.2 (.ptr _ _) ⟨_, rfl, rfl⟩)
  simp [execOp, ho, Instr.box, newVar, newRow]


/-- What a box holds behind a store. -/
def boxSet (i : TyI) (u : AV) (off : Nat) (v : AV) : Option (Prop × AV) :=
  match u with
  | .agg cells => match cellsOf v with
    | some vs => cond (Nat.beq vs.length i.size && Nat.ble (off + vs.length) cells.length && vs.all AV.one) (some (True, .agg (setAt cells off vs))) none
    | none => none
  | .vec n el => match v with
    | .vec m el' => cond (Nat.beq n m && Nat.beq i.size n && Nat.beq off 0) (some (True, .vec n el')) none
    | v => cond (Nat.beq i.size 1 && v.one) (some (off < n, .vec n (fun j => if j = off then v else el j))) none
  | .tuple _ => none
  | .opt _ _ _ => none
  | .any => none
  | .conc _ => none
  | _ => cond (Nat.beq i.size 1 && v.one && Nat.beq off 0) (some (True, v)) none

theorem setAt_toList {cs vs : List Value} {off : Nat} (h : off + vs.length ≤ cs.length) : cs.take off ++ vs ++ cs.drop (off + vs.length) = setAt cs off vs := by
  induction vs generalizing cs off with
  | nil => simp [setAt]
  | cons v vs ih =>
    simp only [List.length_cons] at h
    rw [setAt, ← ih (by simp; omega)]
    have h1 : (cs.set off v).take (off + 1) = cs.take off ++ [v] := by
      rw [List.take_succ_eq_append_getElem (by simp; omega), List.take_set_of_le (Nat.le_refl _)]
      simp
    have h2 : (cs.set off v).drop (off + 1 + vs.length) = cs.drop (off + (vs.length + 1)) := by
      rw [List.drop_set_of_lt (by omega)]
      congr 1
      omega
    rw [h1, h2]
    simp

theorem setRow_keep {w : World} {g : Nat} {cs : Array Value} : (w.setRow g cs).heap.size = w.heap.size := by simp [World.setRow]

/-- A store into a box: the world behind it, and the heap. -/
theorem Conc.store {E : Env0} {st : Stab} {F : AHeap} {b : Nat} {ty0 : TypeId} {u u' : AV} {w : World} {arr arr' : Array Value} {cv' : Value} (h : Conc E st (.box b ty0 u :: F) w)
    (hb : w.heap[b]? = some (.cells arr ty0 (0, 0))) (hr : Rep st w u' cv') (hc : cv'.cells = arr') (hone : ∀ x ∈ arr'.toList, x.oneCell' = true) :
    Conc E st (.box b ty0 u' :: F) (w.setRow b arr') ∧ Keeps st st w (w.setRow b arr') := by
  have hns : ∀ o, ¬ st b o := by
    obtain ⟨_, _, _, _, _, _, h6⟩ := h.ents (.box b ty0 u) (by simp)
    exact h6
  have kc : Keeps st st w (w.setRow b arr') := ⟨fun _ _ h => h, fun b' o hs => cell_setRow_other w b arr' ⟨b', o, none⟩ (by rintro rfl; exact hns o hs)⟩
  refine Conc.mod (g := b) h rfl rfl rfl rfl setRow_keep (fun k hk => setRow_other w b k arr' hk) (fun o hs => absurd hs (hns o)) (fun _ _ h => h) (fun _ _ h => .inl h) ?_ (fun _ h => h) (fun k hk => hk.symm)
  exact ⟨arr', cv', setRow_heap w b arr arr' ty0 (0, 0) hb, hr.mono kc, hc, hone, hns⟩

section
variable {P : Program} {ty : TypeId → Option TyI} {o : Oper} {F : Operand → Option AV} {H : AHeap}

theorem agg_one {st : Stab} {w : World} {cells : List AV} {cs : List Value} (h1 : cells.all AV.one = true) (hl : cs.length = cells.length)
    (h : ∀ (j : Nat) (v : AV) (x : Value), cells[j]? = some v → cs[j]? = some x → Rep st w v x) : ∀ x ∈ cs, x.oneCell' = true := by
  intro y hy
  obtain ⟨j, hj, rfl⟩ := List.getElem_of_mem hy
  have hj' : j < cells.length := by omega
  exact (one_cells (List.all_eq_true.1 h1 cells[j] (List.getElem_mem hj')) (h j cells[j] _ (by simp [hj']) (by rw [List.getElem?_eq_getElem hj]))).2

theorem mem_setAt {α : Type} {vs : List α} : ∀ {l : List α} {off : Nat} {x : α}, x ∈ setAt l off vs → x ∈ l ∨ x ∈ vs := by
  induction vs with
  | nil => intro l off x h; exact .inl h
  | cons v vs ih =>
    intro l off x h
    rw [setAt] at h
    rcases ih h with h | h
    · rcases List.mem_or_eq_of_mem_set h with h | rfl
      · exact .inl h
      · exact .inr (by simp)
    · exact .inr (by simp [h])

theorem run_storeAt {t : TypeId} {inf : TypeInfo} {w : World} {b off : Nat} {ty0 : TypeId} {arr : Array Value} {x : Value} (hinf : P.info? t = some inf) (hs : x.cells.size = inf.size)
    (hb : w.heap[b]? = some (.cells arr ty0 (0, 0))) (hl : off + x.cells.toList.length ≤ arr.size) (h1 : ∀ v ∈ x.cells.toList, v.oneCell' = true) :
    (Instr.storeAt t (.pointer (some ⟨b, off, none⟩)) x).run P w = .ok () (w.setRow b (setAt arr.toList off x.cells.toList).toArray) := by
  have hst := run_storeCells_at P b off ty0 x.cells.toList 0 arr w hb (by simpa using hl) h1
  simp only [Nat.add_zero] at hst
  rw [setAt_toList (by simpa using hl)] at hst
  unfold Instr.storeAt storeVar
  simp [Instr.sureAddr, run_sizeOf hinf, hs, hst]

theorem hard_store (hty : TyOk P ty) {t : TypeId} {x y : Operand} {ti : TyI} {b off : Nat} {ty0 : TypeId} {u u' v : AV} {p : Prop} (i : Nat) (ho : o.op = .store t x y) (hx : F x = some (.ptr b off)) (hy : F y = some v)
    (ht : ty t = some ti) (hi : H[i]? = some (.box b ty0 u)) (hs : boxSet ti u off v = some (p, u')) (hp : p) :
    AHard P o F H fun r H' => r = .ret (.tuple []) ∧ H' = H.set i (.box b ty0 u') := by
  intro E st w a r next Q hc hF _ hr _
  obtain ⟨-, inf, z, hinf, hsz, -⟩ := hty t ti ht
  have hpx := hF x _ hx
  have hpy := hF y _ hy
  have hex : a.eval x = .pointer (some ⟨b, off, none⟩) := by
    generalize a.eval x = q at hpx
    cases hpx
    rfl
  have hc1 := hc.perm (perm_eraseIdx H i _ hi)
  obtain ⟨arr, cv, hblk, hrep, hcells, hone, hns⟩ := hc1.ents (.box b ty0 u) (by simp)
  have fin : ∀ (cv' : Value) (arr' : Array Value), (Instr.storeAt t (.pointer (some ⟨b, off, none⟩)) (a.eval y)).run P w = .ok () (w.setRow b arr') → Rep st w u' cv' → cv'.cells = arr' → (∀ x ∈ arr'.toList, x.oneCell' = true) → o.wpIn (fen r) 0 P a w next Q := by
    intro cv' arr' hrun hr1 hr2 hr3
    have hst := hc1.store hblk hr1 hr2 hr3
    refine upon_skip_ok (w' := w.setRow b arr') ?_ (hr st _ (.tuple []) undef _ (hst.1.perm (perm_set H i _ _ hi)) hst.2 (.tuple [] [] rfl (by simp)) ⟨rfl, rfl⟩)
    simp [execOp, ho, hex, hrun]
  -- a whole of one cell
  have scal : u.one = true → (Nat.beq ti.size 1 && v.one && Nat.beq off 0) = true → u' = v → o.wpIn (fen r) 0 P a w next Q := by
    intro hu hb hv
    subst hv
    simp only [Bool.and_eq_true] at hb
    obtain ⟨⟨hb1, hb2⟩, hb3⟩ := hb
    have hb1 := Nat.eq_of_beq_eq_true hb1
    obtain rfl := Nat.eq_of_beq_eq_true hb3
    obtain ⟨h1, h2⟩ := one_cells hb2 hpy
    obtain ⟨h3, -⟩ := one_cells hu hrep
    rw [h3] at hcells
    subst hcells
    have hrun := run_storeAt (P := P) (w := w) (off := 0) (x := a.eval y) hinf (by rw [h1]; simp; omega) hblk (by rw [h1]; simp) (by rw [h1]; simpa using h2)
    refine fin (a.eval y) _ hrun hpy ?_ ?_
    · rw [h1]; rfl
    · rw [h1]; simpa [setAt] using h2
  cases u with
  | agg cells =>
    cases hrep with
    | agg _ cs hl hcr =>
      obtain rfl : arr = ⟨cs⟩ := hcells.symm
      unfold boxSet at hs
      simp only at hs
      cases hv : cellsOf v with
      | none => simp [hv] at hs
      | some vs =>
        simp only [hv] at hs
        cases hb : (Nat.beq vs.length ti.size && Nat.ble (off + vs.length) cells.length && vs.all AV.one) with
        | false => simp only [hb, cond_false, reduceCtorEq] at hs
        | true =>
          simp only [hb, cond_true, Option.some.injEq, Prod.mk.injEq] at hs
          obtain ⟨-, rfl⟩ := hs
          simp only [Bool.and_eq_true] at hb
          obtain ⟨⟨hb1, hb2⟩, hb3⟩ := hb
          have hb1 := Nat.eq_of_beq_eq_true hb1
          have hb2 := Nat.le_of_ble_eq_true hb2
          obtain ⟨hyl, hyr⟩ := cellsOf_rep hpy hv
          have h1 := agg_one hb3 hyl hyr
          have hrun := run_storeAt (P := P) (w := w) (off := off) (x := a.eval y) hinf (by rw [← Array.length_toList, hyl]; omega) hblk (by rw [List.size_toArray]; omega) h1
          refine fin (.agg ⟨setAt cs off (a.eval y).cells.toList⟩) _ hrun ?_ rfl ?_
          · exact .agg _ _ (by rw [length_setAt, length_setAt, hl]) (setAt_rep vs _ cells cs off hyl hl hyr hcr)
          · intro z hz
            rcases mem_setAt (by simpa using hz) with h | h
            · exact hone z (by simpa using h)
            · exact h1 z h
  | vec n el =>
    cases hrep with
    | vec _ _ cs hl hcr hvo =>
      obtain rfl : arr = ⟨cs⟩ := hcells.symm
      have elem : (Nat.beq ti.size 1 && v.one) = true → (p, u') = (off < n, AV.vec n (fun j => if j = off then v else el j)) → o.wpIn (fen r) 0 P a w next Q := by
        intro hb he
        simp only [Prod.mk.injEq] at he
        obtain ⟨rfl, rfl⟩ := he
        simp only [Bool.and_eq_true] at hb
        have hb1 := Nat.eq_of_beq_eq_true hb.1
        obtain ⟨h1, h2⟩ := one_cells hb.2 hpy
        have hrun := run_storeAt (P := P) (w := w) (off := off) (x := a.eval y) hinf (by rw [h1]; simp; omega) hblk (by rw [h1]; simp; omega) (by rw [h1]; simpa using h2)
        refine fin (.agg ⟨cs.set off (a.eval y)⟩) _ hrun ?_ (by rw [h1]; rfl) ?_
        · refine .vec n _ _ (by simp [hl]) (fun j x hx => ?_) (fun z hz => ?_)
          rotate_left
          · rcases List.mem_or_eq_of_mem_set hz with h | rfl
            · exact hvo z h
            · exact h2
          rw [List.getElem?_set] at hx
          by_cases e : off = j
          · subst e
            rw [if_pos rfl, if_pos (by omega)] at hx
            simp at hx
            subst hx
            simpa using hpy
          · rw [if_neg e] at hx
            simp only [if_neg (fun h => e h.symm : ¬ j = off)]
            exact hcr j x hx
        · intro z hz
          rw [h1] at hz
          rcases mem_setAt (by simpa using hz) with h | h
          · exact hone z (by simpa using h)
          · simp at h; subst h; exact h2
      unfold boxSet at hs
      simp only at hs
      cases v with
      | vec m el' =>
        simp only at hs
        cases hb : (Nat.beq n m && Nat.beq ti.size n && Nat.beq off 0) with
        | false => simp only [hb, cond_false, reduceCtorEq] at hs
        | true =>
          simp only [hb, cond_true, Option.some.injEq, Prod.mk.injEq] at hs
          obtain ⟨-, rfl⟩ := hs
          simp only [Bool.and_eq_true] at hb
          obtain ⟨⟨hb1, hb2⟩, hb3⟩ := hb
          obtain rfl := Nat.eq_of_beq_eq_true hb1
          have hb2 := Nat.eq_of_beq_eq_true hb2
          obtain rfl := Nat.eq_of_beq_eq_true hb3
          generalize hya : a.eval y = ya at hpy
          cases hpy with
          | vec _ _ cs' hl' hcr' hone' =>
            have hrun := run_storeAt (P := P) (w := w) (off := 0) (x := .agg ⟨cs'⟩) hinf (by simp [Value.cells]; omega) hblk (by simp [Value.cells]; omega) (by simpa [Value.cells] using hone')
            have e : setAt cs 0 cs' = cs' := by
              rw [← setAt_toList (by omega)]
              simp [hl, hl']
            refine fin (.agg ⟨cs'⟩) ⟨cs'⟩ ?_ (.vec n el' cs' hl' hcr' hone') rfl (by simpa using hone')
            rw [hya, hrun]
            simp [Value.cells, e]
      | tuple vs => simp [AV.one] at hs
      | agg cs => simp [AV.one] at hs
      | opt x b v => simp [AV.one] at hs
      | any => simp [AV.one] at hs
      | conc v => simp [AV.one] at hs
      | _ =>
        simp only at hs
        cases hb : Nat.beq ti.size 1 with
        | false => simp [hb] at hs
        | true =>
          simp only [hb, AV.one, Bool.and_self, cond_true, Option.some.injEq] at hs
          exact elem (by rw [hb]; rfl) hs.symm
  | tuple vs => simp [boxSet] at hs
  | opt x b v => simp [boxSet] at hs
  | any => simp [boxSet] at hs
  | conc v => simp [boxSet] at hs
  | _ =>
    unfold boxSet at hs
    simp only at hs
    cases hb : (Nat.beq ti.size 1 && v.one && Nat.beq off 0) with
    | false => simp only [hb, cond_false, reduceCtorEq] at hs
    | true =>
      simp only [hb, cond_true, Option.some.injEq, Prod.mk.injEq] at hs
      exact scal rfl hb hs.2.symm

end
end
end Go.Ab
