/-
  More steps: an append of one element to an owned slice, told weaker; parts of the heap told otherwise.
-/
import Derived.Test.YtgbmanmcioailaaDoorAb17
namespace Go.Ab

section
variable {P : Program} {N : Nat} {ty : TypeId → Option TyI} {T : Tmps} {H : AHeap} {Q : APost} {o : Oper} {l0 : List Oper} {LD : LDs} {W : Bool} {l : List (Nat × Oper)} {n : Nat}

theorem SubL.length : ∀ {vs vs' : List AV}, SubL vs vs' → vs.length = vs'.length
  | _, _, .nil => rfl
  | _, _, .cons _ h => by simp [h.length]

theorem SubL.get : ∀ {vs vs' : List AV}, SubL vs vs' → ∀ (j : Nat) (v' : AV), vs'[j]? = some v' → ∃ v, vs[j]? = some v ∧ Sub v v'
  | _, _, .nil, j, v', h => by simp at h
  | _, _, .cons h _, 0, v', e => by simp at e; subst e; exact ⟨_, rfl, h⟩
  | _, _, .cons _ h, j + 1, v', e => by simpa using h.get j v' (by simpa using e)

theorem Sub.els {sz n : Nat} {el el' : Nat → List AV} {o : Own} (h : ∀ i, i < n → SubL (el i) (el' i)) : Sub (.slice sz n el o) (.slice sz n el' o) := by
  intro st w c hr
  cases hr with
  | slice _ _ _ _ a cap b off c hn hbase hlen hcell hrep hown hone =>
    exact .slice sz n el' o a cap b off c hn hbase (fun i hi => by rw [← (h i hi).length]; exact hlen i hi) hcell (fun i j v' hi hv => by
      obtain ⟨v, h1, h2⟩ := (h i hi).get j v' hv
      exact h2 _ _ _ (hrep i j v hi h1)) hown hone

theorem glue_sl1S {α : Type} [Inhabited α] (f : α → List AV) (sz : Nat) (xs : List α) (x : α) (el2 : Nat → List AV) (h : SubL (el2 0) (f x)) (o : Own) :
    Sub (.slice sz (xs.length + 1) (glue xs.length (fun i => f (xs.getD i default)) el2) o) (sl f sz (xs ++ [x]) o) := by
  unfold sl
  rw [List.length_append]
  refine Sub.els fun i hi => ?_
  unfold glue
  by_cases hlt : i < xs.length
  · rw [if_pos hlt]
    have : (xs ++ [x]).getD i default = xs.getD i default := by simp [List.getD, List.getElem?_append_left hlt]
    rw [this]
    exact SubL.refl _
  · have e : i = xs.length := by have h1 : [x].length = 1 := rfl; omega
    subst e
    rw [if_neg hlt, Nat.sub_self]
    have : (xs ++ [x]).getD xs.length default = x := by rw [List.getD_eq_getElem?_getD]; simp
    rw [this]
    exact h

theorem glue_slS {α : Type} [Inhabited α] (f : α → List AV) (sz : Nat) (xs ys : List α) (el2 : Nat → List AV) (h : ∀ i, i < ys.length → SubL (el2 i) (f (ys.getD i default))) (o : Own) :
    Sub (.slice sz (xs.length + ys.length) (glue xs.length (fun i => f (xs.getD i default)) el2) o) (sl f sz (xs ++ ys) o) := by
  unfold sl
  rw [List.length_append]
  refine Sub.els fun i hi => ?_
  unfold glue
  by_cases hlt : i < xs.length
  · rw [if_pos hlt]
    have : (xs ++ ys).getD i default = xs.getD i default := by simp [List.getD, List.getElem?_append_left hlt]
    rw [this]
    exact SubL.refl _
  · rw [if_neg hlt]
    have : (xs ++ ys).getD i default = ys.getD (i - xs.length) default := by simp [List.getD, List.getElem?_append_right (Nat.le_of_not_lt hlt)]
    rw [this]
    exact h _ (by omega)

theorem Sub.sl_nil {α : Type} [Inhabited α] (f : α → List AV) (sz : Nat) : Sub .nils (sl f sz [] (.own none 0)) := Sub.nilso _ _

/-- An append of one element: to an owned slice (its room stands in the heap at i). -/
theorem qapp {α : Type} [Inhabited α] (hty : TyOk P ty) (f : α → List AV) (xs : List α) (x : α) {s y : Operand} {t e : TypeId} {ti ei : TyI} {vx : AV} {sz : Nat} {el2 : Nat → List AV} {ow : Own} {d : Nat} {a : Option Addr} {cap : Nat} {F : Ent → AHeap}
    (hel : SubL (el2 0) (f x)) (hb : (xs.length + 1) * ei.bytes ≤ 140737488355328 ∧ xs.length + 1 ≤ 9223372036854775807)
    (k : ∀ a cap, TR P N ty l0 LD W Q l ((d, sl f sz (xs ++ [x]) (.own a cap)) :: T) (F (.tok a cap (xs ++ [x]).length sz e)))
    (hg : o.guard = none := by exact rfl) (ho : o.op = .call { callee := .builtin .append, args := #[s, y], argTypes := #[t, t] } := by exact rfl) (hd : o.dst = some d := by exact rfl) (hN : Nat.ble (d + 1) N = true := by exact rfl)
    (hon : optN True T (tmpsOf o.op) := by exact True.intro) (hti : ty t = some ti := by exact rfl) (hk : ti.k = .slice e := by exact rfl) (hei : ty e = some ei := by exact rfl) (hsz : ei.size = sz := by exact rfl) (hpos : Nat.ble 1 sz = true := by exact rfl)
    (hs : opvL (tmpsOf o.op) T s = some (sl f sz xs (.own a cap)) := by exact rfl) (hx : opvL (tmpsOf o.op) T y = some vx := by exact rfl) (hvx : asSl sz vx = some (1, el2, ow) := by exact rfl)
    (hi : EntAt H (.tok a cap xs.length sz e) F := by (first | exact .here | exact .there (.here) | exact .there (.there (.here)) | exact .there (.there (.there (.here))) | exact .there (.there (.there (.there (.here)))) | exact .there (.there (.there (.there (.there (.here))))) | exact .there (.there (.there (.there (.there (.there (.here)))))) | exact .there (.there (.there (.there (.there (.there (.there (.here))))))) | exact .there (.there (.there (.there (.there (.there (.there (.there (.here)))))))) | exact .there (.there (.there (.there (.there (.there (.there (.there (.there (.here))))))))) | exact .there (.there (.there (.there (.there (.there (.there (.there (.there (.there (.here)))))))))) | exact .there (.there (.there (.there (.there (.there (.there (.there (.there (.there (.there (.here))))))))))) | exact .there (.there (.there (.there (.there (.there (.there (.there (.there (.there (.there (.there (.here)))))))))))) | exact .there (.there (.there (.there (.there (.there (.there (.there (.there (.there (.there (.there (.there (.here))))))))))))) | exact .there (.there (.there (.there (.there (.there (.there (.there (.there (.there (.there (.there (.there (.there (.here)))))))))))))) | exact .there (.there (.there (.there (.there (.there (.there (.there (.there (.there (.there (.there (.there (.there (.there (.here))))))))))))))))) : TR P N ty l0 LD W Q ((n, o) :: l) T H := by
  obtain ⟨i, g1, g2⟩ := hi.spec
  have hvs : asSl sz (sl f sz xs (.own a cap)) = some (xs.length, fun i => f (xs.getD i default), .own a cap) := by
    simp [asSl, sl]
  refine TR.appendO hty i (fun ad cp => sl f sz (xs ++ [x]) (.own ad cp)) hg ho hd (by rw [hd]; exact hN) hon hti hk hei hsz hpos hs hx hvs hvx g1 hb (fun ad cp => glue_sl1S f sz xs x el2 hel _) fun ad cp => ?_
  have := k ad cp
  rw [g2] at this
  rw [List.length_append] at this
  exact this

theorem awp_dropF {c : Code} {G : AHeap} (h : AWP P N c T H Q) : AWP P N c T (G ++ H) Q := awp_perm List.perm_append_comm (awp_drop h)

theorem Conc.boxSub {E : Env0} {st : Stab} {w : World} {G1 G2 : AHeap} {b : Nat} {t : TypeId} {v v' : AV} (h : Conc E st (G1 ++ .box b t v :: G2) w) (hs : Sub v v') : Conc E st (G1 ++ .box b t v' :: G2) w := by
  have ho : ∀ k, AHeap.owns (G1 ++ .box b t v' :: G2) k → AHeap.owns (G1 ++ .box b t v :: G2) k := by
    rintro k ⟨e, he, hk⟩
    rcases List.mem_append.1 he with he | he
    · exact ⟨e, List.mem_append.2 (.inl he), hk⟩
    · rcases List.mem_cons.1 he with rfl | he
      · exact ⟨.box b t v, by simp, hk⟩
      · exact ⟨e, by simp [he], hk⟩
  refine ⟨h.os, h.tape, h.output, h.size, h.old, h.keep, h.stle, h.stnew, h.stlt, fun k hk => h.ownnew k (ho k hk), fun k hk => h.ownlt k (ho k hk), ?_, ?_⟩
  · intro e he
    rcases List.mem_append.1 he with he | he
    · exact h.ents e (List.mem_append.2 (.inl he))
    · rcases List.mem_cons.1 he with rfl | he
      · obtain ⟨arr, cv, h1, h2, h3⟩ := h.ents (.box b t v) (by simp)
        exact ⟨arr, cv, h1, hs _ _ _ h2, h3⟩
      · exact h.ents e (by simp [he])
  · have hp := h.sep
    rw [List.pairwise_append, List.pairwise_cons] at hp ⊢
    obtain ⟨h1, ⟨h2, h3⟩, h4⟩ := hp
    refine ⟨h1, ⟨fun e he => h2 e he, h3⟩, fun e he e' he' => ?_⟩
    rcases List.mem_cons.1 he' with rfl | he'
    · exact fun k hk hk' => h4 e he (.box b t v) (by simp) k hk hk'
    · exact h4 e he e' (by simp [he'])

theorem owns_boxSub {G1 G2 : AHeap} {b : Nat} {t : TypeId} {v v' : AV} {k : Nat} (h : AHeap.owns (G1 ++ .box b t v' :: G2) k) : AHeap.owns (G1 ++ .box b t v :: G2) k := by
  obtain ⟨e, he, hk⟩ := h
  rcases List.mem_append.1 he with he | he
  · exact ⟨e, List.mem_append.2 (.inl he), hk⟩
  · rcases List.mem_cons.1 he with rfl | he
    · exact ⟨.box b t v, by simp, hk⟩
    · exact ⟨e, by simp [he], hk⟩

/-- What a box holds is told weaker. -/
theorem awp_boxSub {c : Code} (G1 : AHeap) {G2 H2 : AHeap} {b : Nat} {t : TypeId} {v v' : AV} (hs : Sub v v') (h : AWP P N c T H2 Q) (happ : AppL G1 (.box b t v' :: G2) H2 := by (first | exact .nil | exact .cons (.nil) | exact .cons (.cons (.nil)) | exact .cons (.cons (.cons (.nil))) | exact .cons (.cons (.cons (.cons (.nil)))) | exact .cons (.cons (.cons (.cons (.cons (.nil))))) | exact .cons (.cons (.cons (.cons (.cons (.cons (.nil)))))) | exact .cons (.cons (.cons (.cons (.cons (.cons (.cons (.nil))))))) | exact .cons (.cons (.cons (.cons (.cons (.cons (.cons (.cons (.nil)))))))) | exact .cons (.cons (.cons (.cons (.cons (.cons (.cons (.cons (.cons (.nil))))))))) | exact .cons (.cons (.cons (.cons (.cons (.cons (.cons (.cons (.cons (.cons (.nil)))))))))) | exact .cons (.cons (.cons (.cons (.cons (.cons (.cons (.cons (.cons (.cons (.cons (.nil))))))))))))) : AWP P N c T (G1 ++ .box b t v :: G2) Q :=
  fun E st w a r B h1 h2 h3 => (happ.eq ▸ h : AWP P N c T (G1 ++ .box b t v' :: G2) Q) E st w a r B (h1.boxSub hs) h2 (h3.sub fun _ hk => owns_boxSub hk)

/-- A box that is written no more: its cells are stable from now on. -/
theorem Conc.freeze {E : Env0} {st : Stab} {w : World} {G1 G2 : AHeap} {b : Nat} {t : TypeId} {v : AV} {cells : List AV} (h : Conc E st (G1 ++ .box b t v :: G2) w) (hv : cellsOf v = some cells) :
    ∃ st', Conc E st' (G1 ++ G2) w ∧ Keeps st st' w w ∧ Rep st' w (.rptr cells) (.pointer (some ⟨b, 0, none⟩)) := by
  obtain ⟨arr, cv, h1, h2, h3, h4, h5⟩ := h.ents (.box b t v) (by simp)
  have hown : AHeap.owns (G1 ++ .box b t v :: G2) b := ⟨.box b t v, by simp, rfl⟩
  have hp := h.perm (List.perm_middle (l₁ := G1) (l₂ := G2) (a := Ent.box b t v))
  have hno := not_owns_of_sep hp rfl
  obtain ⟨hl, hr⟩ := cellsOf_rep h2 hv
  rw [h3] at hl hr
  refine ⟨fun b' o => st b' o ∨ b' = b, ?_, ⟨fun _ _ h => .inl h, fun _ _ _ => rfl⟩, ?_⟩
  · have ho : ∀ k, AHeap.owns (G1 ++ G2) k → AHeap.owns (G1 ++ .box b t v :: G2) k := by
      rintro k ⟨e, he, hk⟩
      rcases List.mem_append.1 he with he | he
      · exact ⟨e, by simp [he], hk⟩
      · exact ⟨e, by simp [he], hk⟩
    refine ⟨h.os, h.tape, h.output, h.size, h.old, h.keep, fun b' o hs => .inl (h.stle b' o hs), ?_, ?_, fun k hk => h.ownnew k (ho k hk), fun k hk => h.ownlt k (ho k hk), ?_, hp.tail.sep⟩
    · rintro b' o (hs | rfl)
      · exact h.stnew b' o hs
      · rcases h.ownnew _ hown with x | x
        · exact .inr (.inr x)
        · exact .inr (.inl x)
    · rintro b' o (hs | rfl)
      · exact h.stlt b' o hs
      · exact h.ownlt _ hown
    · intro e he
      refine Ent.holds_keep (w := w) ⟨fun _ _ h => .inl h, fun _ _ _ => rfl⟩ (hp.tail.ents e he) (fun _ _ => rfl) ?_
      rintro b' o hb (hs | rfl)
      · exact hs
      · exact absurd ⟨e, he, hb⟩ hno
  · refine .rptr cells b 0 (fun j => arr.toList.getD j undef) (fun j hj => ⟨.inr rfl, ?_⟩) fun j v' hv' => ?_
    · rw [Nat.zero_add]
      unfold World.cell?
      rw [h1]
      have : j < arr.size := by rw [← Array.length_toList]; omega
      simp [this]
    · have hj : j < cells.length := (List.getElem?_eq_some_iff.1 hv').1
      have e1 : arr.toList[j]? = some (arr.toList.getD j undef) := by
        have : j < arr.toList.length := by omega
        rw [List.getD_eq_getElem?_getD, List.getElem?_eq_getElem this]
        rfl
      exact (hr j v' _ hv' e1).mono ⟨fun _ _ h => .inl h, fun _ _ _ => rfl⟩

theorem awp_freeze {c : Code} (G1 : AHeap) {G2 : AHeap} {b : Nat} {t : TypeId} {v : AV} {cells : List AV} {s : Nat} (hl : lk T s = some (.ptr b 0)) (hv : cellsOf v = some cells) (h : AWP P N c ((s, .rptr cells) :: T) (G1 ++ G2) Q) :
    AWP P N c T (G1 ++ .box b t v :: G2) Q := by
  refine awp_turn (S := fun T' H' => T' = (s, .rptr cells) :: T ∧ H' = G1 ++ G2) ?_ (fun T' H' e => by obtain ⟨rfl, rfl⟩ := e; exact h)
  intro E st w a h1 h2
  obtain ⟨st', c1, k1, r1⟩ := h1.freeze hv
  refine ⟨st', _, _, c1, ⟨h2.size, fun t' v' ht' => ?_⟩, rfl, rfl⟩
  by_cases e : s = t'
  · subst e
    simp [lk] at ht'
    subst ht'
    obtain ⟨c, e1, e2⟩ := h2.val s _ hl
    cases e2
    exact ⟨_, e1, r1⟩
  · have hb : Nat.beq s t' = false := beq_ne e
    simp [lk, hb] at ht'
    obtain ⟨c, e1, e2⟩ := h2.val t' v' ht'
    exact ⟨c, e1, e2.mono k1⟩

/-- Where ways meet again: what follows is walked once, from the frame Wk. -/
theorem cutK {K : Tmps → AHeap → Prop} {c : Code} {Wk : Tmps} {H0 : AHeap} (hK : ∀ T' H', AWP P N c T' H' Q → K T' H') (hA : AWP P N c Wk H0 Q) : ∀ T', Weak T' Wk → K T' H0 :=
  fun _ hw => hK _ _ (awp_weaken hw.spec hA)

end
end Go.Ab
