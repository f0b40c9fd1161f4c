/-
  An array that a call owns is lent to a call that only reads it, and tells plain data.
-/
import Derived.Test.YthfglhjdnpoepaaGreatDoorAb30
namespace Go.Ab

/-- Plain data: it speaks of no memory. -/
def Flat (u : AV) : Prop := ∀ st w st' w' c, Rep st w u c → Rep st' w' u c
theorem Flat.bool (b : Bool) : Flat (.bool b) := fun st w st' w' c h => by cases h; exact .bool b
theorem Flat.int (k : IntKind) (n : Int) : Flat (.int k n) := fun st w st' w' c h => by cases h; exact .int k n
theorem Flat.str (s : List UInt8) : Flat (.str s) := fun st w st' w' c h => by cases h; exact .str s
theorem Flat.tuple {vs : List AV} (h : ∀ v ∈ vs, Flat v) : Flat (.tuple vs) := fun st w st' w' c hc => by
  cases hc with
  | tuple _ xs hl hr => exact .tuple _ xs hl fun j v x hv hx => h v (List.mem_of_getElem? hv) _ _ _ _ _ (hr j v x hv hx)

/-- Arguments read as others where the block stands still. -/
structure SubHL (g m : Nat) (el : Nat → AV) (vs vs' : List AV) : Prop where
  len : vs'.length = vs.length
  at' : ∀ (j : Nat) (v v' : AV), vs[j]? = some v → vs'[j]? = some v' → SubH g m el v v'

theorem SubHL.nil {g m : Nat} {el : Nat → AV} : SubHL g m el [] [] := ⟨rfl, fun j v v' h => by cases h⟩
theorem SubHL.cons {g m : Nat} {el : Nat → AV} {v v' : AV} {vs vs' : List AV} (h : SubH g m el v v') (k : SubHL g m el vs vs') : SubHL g m el (v :: vs) (v' :: vs') :=
  ⟨by simp [k.len], fun j a b ha hb => by
    cases j with
    | zero => simp at ha hb; subst ha; subst hb; exact h
    | succ j => exact k.at' j a b (by simpa using ha) (by simpa using hb)⟩
theorem SubHL.same {g m : Nat} {el : Nat → AV} {v : AV} {vs vs' : List AV} (k : SubHL g m el vs vs') : SubHL g m el (v :: vs) (v :: vs') := .cons (SubH.rfl' _) k

theorem PCalls.lend {P : Program} {f : FuncId} {vs vs' : List AV} {u : AV} {g m : Nat} {t : TypeId} {el : Nat → AV} (hu : Flat u) (h : PCalls P f vs' u) (hs : SubHL g m el vs vs') :
    ACalls P f vs [rowM g t m el] fun r H' => r = .ret u ∧ H' = [rowM g t m el] := by
  refine ⟨h.1, fun st w xs hc hx hg => ?_⟩
  obtain ⟨st', c1, k1, hh⟩ := Conc.freezeM (G1 := []) (G2 := []) hc
  have hx' : RepL st' w vs' xs := ⟨by rw [hx.1, hs.len], fun j v' x hv' hxx => by
    have hj : j < vs.length := by rw [← hs.len]; exact (List.getElem?_eq_some_iff.1 hv').1
    exact hs.at' j _ v' (List.getElem?_eq_getElem hj) hv' st' w hh x ((hx.2 j _ x (List.getElem?_eq_getElem hj) hxx).mono k1)⟩
  refine (h.2 st' w xs c1.start hx' (hg.sub fun _ ⟨e, he, _⟩ => absurd he List.not_mem_nil)).mono fun e w' hp => ?_
  cases e with
  | outgrown => exact hp.elim
  | returned v =>
    obtain ⟨st2, r, H2, d1, d2, rfl, rfl⟩ := hp
    have hno : ∀ k, ¬ (Env0.of w st' []).O k := fun k ⟨e, he, _⟩ => absurd he List.not_mem_nil
    refine ⟨st, .ret u, [rowM g t m el], ⟨d1.os, d1.tape, d1.output, d1.size, fun k hk _ => d1.old k hk (hno k), fun b o hb => d1.keep b o (k1.sub b o hb), fun _ _ h => h, fun _ _ h => .inl h, fun b o hb => Nat.lt_of_lt_of_le (hc.stlt b o hb) d1.size, fun k hk => .inl hk, fun k hk => Nat.lt_of_lt_of_le (hc.ownlt k hk) d1.size, fun e he => ?_, hc.sep⟩, hu _ _ _ _ _ d2, rfl, rfl⟩
    refine Ent.holds_keep (w := w) ⟨fun _ _ h => h, fun b o hb => d1.keep b o (k1.sub b o hb)⟩ (hc.ents e he) (fun b hb => d1.old b (hc.ownlt b ⟨e, he, hb⟩) (hno b)) fun _ _ _ h => h
  | panicked v =>
    obtain ⟨st2, r, H2, d1, d2, rfl, rfl⟩ := hp
    exact d2.elim

/-! A heap that holds more, in another order. -/

theorem pickNil {H : AHeap} : ∃ F, H.Perm (F ++ []) := ⟨H, by rw [List.append_nil]⟩
theorem pickD {H G J : AHeap} {e : Ent} (h : Pick H e G) (k : ∃ F, G.Perm (F ++ J)) : ∃ F, H.Perm (F ++ e :: J) := by
  obtain ⟨F, hF⟩ := k
  exact ⟨F, h.perm.trans ((hF.cons e).trans List.perm_middle.symm)⟩

section
variable {P : Program} {N : Nat} {ty : TypeId → Option TyI} {l0 : List Oper} {LD : LDs} {W : Bool} {Q : APost} {n : Nat} {o : Oper} {l : List (Nat × Oper)} {T : Tmps} {H : AHeap}

end

end Go.Ab
