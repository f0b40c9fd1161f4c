/-
  strings.ContainsAny(s, " \n") over any bytes.
-/
import Derived.Test.YtjinaakebjfbiaaGreatDoorLb
import Derived.Test.YtjinaakebjfbiaaGreatDoorAbB
import Derived.Test.YtjinaakebjfbiaaGreatDoorRn
import Derived.Lib.TrimUEq
import Derived.Lib.SpaceUEq
import Derived.Lib.MapLaws
import Derived.Shelf.Strings.IndexAnyAll
namespace Go.Proofs.YtjinaakebjfbiaaGreatDoor
open Go.Ab Go.RowKit

theorem encode_high (c : Int) (h : 128 ≤ c) : 2 ≤ (Utf8.encode c).data.toList.length ∧ ∀ b ∈ (Utf8.encode c).data.toList, 128 ≤ b.toNat := by
  have hb : ∀ n : Nat, n < 256 → (UInt8.ofNat n).toNat = n := fun n hn => by simp [Nat.mod_eq_of_lt hn]
  unfold Utf8.encode
  simp only
  have hc : 128 ≤ (if Utf8.valid c then c.toNat else Utf8.runeError) ∧ (if Utf8.valid c then c.toNat else Utf8.runeError) ≤ 1114111 := by
    split
    · rename_i hv
      simp only [Utf8.valid, Bool.or_eq_true, Bool.and_eq_true, decide_eq_true_eq] at hv
      omega
    · simp [Utf8.runeError]
  generalize (if Utf8.valid c then c.toNat else Utf8.runeError) = k at hc
  rw [if_neg (by omega)]
  split
  · refine ⟨by simp, fun b hm => ?_⟩
    simp only [List.mem_cons, List.mem_nil_iff, or_false] at hm
    rcases hm with rfl | rfl
    all_goals (rw [hb _ (by omega)]; omega)
  · split
    · refine ⟨by simp, fun b hm => ?_⟩
      simp only [List.mem_cons, List.mem_nil_iff, or_false] at hm
      rcases hm with rfl | rfl | rfl
      all_goals (rw [hb _ (by omega)]; omega)
    · refine ⟨by simp, fun b hm => ?_⟩
      simp only [List.mem_cons, List.mem_nil_iff, or_false] at hm
      rcases hm with rfl | rfl | rfl | rfl
      all_goals (rw [hb _ (by omega)]; omega)

theorem encode_len (c : Int) : (Utf8.encode c).data.toList.length ≤ 4 := by
  unfold Utf8.encode
  simp only
  generalize (if Utf8.valid c then c.toNat else Utf8.runeError) = k
  split
  · simp
  · split
    · simp
    · split <;> simp

theorem dec_low {l : List UInt8} {i : Nat} (h : (l.getD i 0).toNat < 128) : Utf8.decode ⟨l.toArray⟩ i = ((l.getD i 0).toNat, 1) := by
  rw [Lib.decode_N]
  show Lib.decodeN _ (l.getD i 0).toNat _ _ _ = _
  unfold Lib.decodeN
  rw [if_pos h]

theorem dec_high {l : List UInt8} {i : Nat} (hi : i < l.length) (h : ¬ (l.getD i 0).toNat < 128) :
    128 ≤ (Utf8.decode ⟨l.toArray⟩ i).1 ∧ (Utf8.decode ⟨l.toArray⟩ i).1 ≤ 1114111 ∧ 1 ≤ (Utf8.decode ⟨l.toArray⟩ i).2 ∧ i + (Utf8.decode ⟨l.toArray⟩ i).2 ≤ l.length ∧ ∀ j, i ≤ j → j < i + (Utf8.decode ⟨l.toArray⟩ i).2 → 128 ≤ (l.getD j 0).toNat := by
  have hle := Lib.rune_le ⟨l.toArray⟩ i
  have hw := Lib.width_pos ⟨l.toArray⟩ i
  rw [Lib.decode_N] at hle hw ⊢
  change (Lib.decodeN (l.length - i) (l.getD i 0).toNat (l.getD (i + 1) 0).toNat (l.getD (i + 2) 0).toNat (l.getD (i + 3) 0).toNat).1 ≤ _ at hle
  change 1 ≤ (Lib.decodeN (l.length - i) (l.getD i 0).toNat (l.getD (i + 1) 0).toNat (l.getD (i + 2) 0).toNat (l.getD (i + 3) 0).toNat).2 at hw
  show 128 ≤ (Lib.decodeN (l.length - i) (l.getD i 0).toNat (l.getD (i + 1) 0).toNat (l.getD (i + 2) 0).toNat (l.getD (i + 3) 0).toNat).1 ∧ (Lib.decodeN (l.length - i) (l.getD i 0).toNat (l.getD (i + 1) 0).toNat (l.getD (i + 2) 0).toNat (l.getD (i + 3) 0).toNat).1 ≤ _ ∧ _ ≤ (Lib.decodeN (l.length - i) (l.getD i 0).toNat (l.getD (i + 1) 0).toNat (l.getD (i + 2) 0).toNat (l.getD (i + 3) 0).toNat).2 ∧ i + (Lib.decodeN (l.length - i) (l.getD i 0).toNat (l.getD (i + 1) 0).toNat (l.getD (i + 2) 0).toNat (l.getD (i + 3) 0).toNat).2 ≤ _ ∧ ∀ j, i ≤ j → j < i + (Lib.decodeN (l.length - i) (l.getD i 0).toNat (l.getD (i + 1) 0).toNat (l.getD (i + 2) 0).toNat (l.getD (i + 3) 0).toNat).2 → _
  have hs := Lib.decodeN_shape (l.length - i) (l.getD i 0).toNat (l.getD (i + 1) 0).toNat (l.getD (i + 2) 0).toNat (l.getD (i + 3) 0).toNat
  have hj : ∀ (w : Nat), (2 ≤ w → (l.getD (i + 1) 0).toNat / 64 = 2) → (3 ≤ w → (l.getD (i + 2) 0).toNat / 64 = 2) → (4 ≤ w → (l.getD (i + 3) 0).toNat / 64 = 2) → w ≤ 4 → ∀ j, i ≤ j → j < i + w → 128 ≤ (l.getD j 0).toNat := by
    intro w a1 a2 a3 a4 j j1 j2
    rcases (by omega : j = i ∨ j = i + 1 ∨ j = i + 2 ∨ j = i + 3) with rfl | rfl | rfl | rfl
    · omega
    · have := a1 (by omega); omega
    · have := a2 (by omega); omega
    · have := a3 (by omega); omega
  obtain ⟨c1, c2, c3, c4⟩ := Lib.decodeN_conts (l.length - i) (l.getD i 0).toNat (l.getD (i + 1) 0).toNat (l.getD (i + 2) 0).toNat (l.getD (i + 3) 0).toNat
  refine ⟨?_, hle, hw, ?_, hj _ (fun h => (c1 h).1) (fun h => (c2 h).1) (fun h => (c3 h).1) c4⟩
  · rcases hs with ⟨x, _⟩ | ⟨_, _, _, x, e⟩ | ⟨_, _, _, _, x, _, e⟩ | ⟨_, _, _, _, _, x, _, e⟩ | e
    · exact absurd x h
    · rw [e]; exact x
    · rw [e]; simp only; omega
    · rw [e]; simp only; omega
    · rw [e]; simp
  · rcases hs with ⟨x, _⟩ | ⟨_, _, _, x, e⟩ | ⟨_, _, _, _, x, _, e⟩ | ⟨_, _, _, _, _, x, _, e⟩ | e
    · exact absurd x h
    · rw [e]; simp only; omega
    · rw [e]; simp only; omega
    · rw [e]; simp only; omega
    · rw [e]; simp only; omega

section
variable {P : Program} {ty : TypeId → Option TyI} {N : Nat} {l0 : List Oper} {LD : LDs} {W : Bool} {l : List (Nat × Oper)} {n : Nat} {T : Tmps} {H : AHeap} {Q : APost} {o : Oper}

/-- A longer string, of two. -/
theorem qcat {p : Prop} {v : AV} {d : Nat} (k : TR P N ty l0 LD W Q l ((d, v) :: T) H) (hg : o.guard = none := by exact rfl) (hd : o.dst = some d := by exact rfl) (hN : Nat.ble (d + 1) N = true := by exact rfl)
    (hv : aeval ty (opvL (tmpsOf o.op) T) o.op = some (p, v) := by exact rfl) (ho : optN True T (tmpsOf o.op) := by (first | exact True.intro | exact ⟨id, True.intro⟩ | exact ⟨id, id, True.intro⟩ | exact ⟨id, id, id, True.intro⟩)) (hp : p := by first | (simp; done) | (simp; omega)) : TR P N ty l0 LD W Q ((n, o) :: l) T H :=
  TR.pure p v d hg hd hN hv ho hp k

theorem qself {p : Prop} {α : Type} [BEq α] [ReflBEq α] {a : α} {d : Nat} (k : TR P N ty l0 LD W Q l ((d, .bool true) :: T) H) (hg : o.guard = none := by exact rfl) (hd : o.dst = some d := by exact rfl) (hN : Nat.ble (d + 1) N = true := by exact rfl)
    (hv : aeval ty (opvL (tmpsOf o.op) T) o.op = some (p, .bool (a == a)) := by exact rfl) (ho : optN True T (tmpsOf o.op) := by (first | exact True.intro | exact ⟨id, True.intro⟩ | exact ⟨id, id, True.intro⟩ | exact ⟨id, id, id, True.intro⟩)) (hp : p := by (first | exact True.intro | assumption | omega | (simp only [List.length_cons, List.length_nil]; omega) | (simp only [inK]; omega) | exact fun _ => True.intro | (intro _; omega) | (intro h1 h2; rw [h1, h2]; rfl) | (intro h1 h2; simp only [h1, h2]; done) | (intro h1 h2; simp [h1, h2]; done) | (intro _; simp only [inK]; omega) | (intro hx; simp only [Bool.and_eq_true, Bool.or_eq_false_iff, Bool.and_eq_false_imp, Bool.or_eq_true, decide_eq_true_eq, decide_eq_false_iff_not, bne_iff_ne, beq_iff_eq, bne_eq_false_iff_eq, beq_eq_false_iff_ne, ne_eq, Bool.not_eq_true', Bool.not_eq_false'] at hx; (try simp only [inK]); omega) | exact id | decide | (intro _; decide) )) : TR P N ty l0 LD W Q ((n, o) :: l) T H :=
  TR.pureB true hg hd hN hv ho (beq_self_eq_true a) hp k

theorem qnself {p : Prop} {α : Type} [BEq α] [ReflBEq α] {a : α} {d : Nat} (k : TR P N ty l0 LD W Q l ((d, .bool false) :: T) H) (hg : o.guard = none := by exact rfl) (hd : o.dst = some d := by exact rfl) (hN : Nat.ble (d + 1) N = true := by exact rfl)
    (hv : aeval ty (opvL (tmpsOf o.op) T) o.op = some (p, .bool (!(a == a))) := by exact rfl) (ho : optN True T (tmpsOf o.op) := by (first | exact True.intro | exact ⟨id, True.intro⟩ | exact ⟨id, id, True.intro⟩ | exact ⟨id, id, id, True.intro⟩)) (hp : p := by (first | exact True.intro | assumption | omega | (simp only [List.length_cons, List.length_nil]; omega) | (simp only [inK]; omega) | exact fun _ => True.intro | (intro _; omega) | (intro h1 h2; rw [h1, h2]; rfl) | (intro h1 h2; simp only [h1, h2]; done) | (intro h1 h2; simp [h1, h2]; done) | (intro _; simp only [inK]; omega) | (intro hx; simp only [Bool.and_eq_true, Bool.or_eq_false_iff, Bool.and_eq_false_imp, Bool.or_eq_true, decide_eq_true_eq, decide_eq_false_iff_not, bne_iff_ne, beq_iff_eq, bne_eq_false_iff_eq, beq_eq_false_iff_ne, ne_eq, Bool.not_eq_true', Bool.not_eq_false'] at hx; (try simp only [inK]); omega) | exact id | decide | (intro _; decide) )) : TR P N ty l0 LD W Q ((n, o) :: l) T H :=
  TR.pureB false hg hd hN hv ho (by rw [beq_self_eq_true]; rfl) hp k

/-- string(r) of a rune. -/
theorem qrstr (hty : TyOk P ty) {ts td : TypeId} {x : Operand} {is id : TyI} {k : IntKind} {kx : IntKind} {m : Int} {d : Nat} (hk : TR P N ty l0 LD W Q l ((d, .str (Utf8.encode m).data.toList) :: T) H) (hg : o.guard = none := by exact rfl)
    (ho : o.op = .convert ts td x := by exact rfl) (hd : o.dst = some d := by exact rfl) (hN : Nat.ble (d + 1) N = true := by exact rfl) (hon : optN True T (tmpsOf o.op) := by (first | exact True.intro | exact ⟨id, True.intro⟩ | exact ⟨id, id, True.intro⟩ | exact ⟨id, id, id, True.intro⟩))
    (hs : ty ts = some is := by exact rfl) (hsk : is.k = .int k := by exact rfl) (ht : ty td = some id := by exact rfl) (htk : id.k = .str := by exact rfl)
    (hx : opvL (tmpsOf o.op) T x = some (.int kx m) := by exact rfl) : TR P N ty l0 LD W Q ((n, o) :: l) T H := by
  refine TR.sem _ _ hg hd hN hon (fun st w ρ hF => ?_) hk
  obtain ⟨⟨ds, hds, hks⟩, -⟩ := hty ts is hs
  obtain ⟨⟨dd, hdd, hkd⟩, -⟩ := hty td id ht
  rw [hsk] at hks
  rw [htk] at hkd
  obtain rfl : ds = .int k := hks
  obtain rfl : dd = .string := hkd
  have hr := hF x _ hx
  refine ⟨.string (Utf8.encode m), ?_, .str _⟩
  obtain ⟨dst, op', type, pos, after, guard⟩ := o
  simp only at ho
  subst ho
  have hxv := hr.int_eq
  simp only [execOp, hxv]
  have : (convert ts td (.int kx m)).run P w = .ok (.string (Utf8.encode m)) w := by
    unfold convert
    rw [Sem.run_bind, run_underlying hds, Result.andThen_ok, Sem.run_bind, run_underlying hdd, Result.andThen_ok]
    rfl
  simp only [Sem.run_bind, this, Result.andThen_ok]
  rfl
end

section
variable {P : Program} {b : Frame} {a : Act} {k : List Item} {cs : List Frame} {w : World} {F : Fence} {n : Nat} {Q : Exit → Act → World → Prop}

theorem stepR_scope {c : Code} : step P (lone (b.atR a (.code (.scope c) :: k)) cs w) = .next (lone (b.atR a (.code c :: .inScope c :: k)) cs w) :=
  step_lone_go (by simp [stepG, stepG.exec, Frame.atR])
theorem stepR_inScope {c : Code} : step P (lone (b.atR a (.inScope c :: k)) cs w) = .next (lone (b.atR a k) cs w) :=
  step_lone_go (by simp [stepG, stepG.exec, Frame.atR])

/-- A part with labels of its own, in which no jump is made. -/
theorem wpIn_scope {c : Code} (h : c.wpIn F n P (fun e a w => (∀ l, e ≠ .goto l) ∧ Q e a w) a w) : (Code.scope c).wpIn F n P Q a w := by
  intro b k cs hro hb hr
  have h0 : (lone (b.atR a (.code (.scope c) :: k)) cs w).fenced P F := fenced_calm hb hr rfl
  obtain ⟨e, a₁, w₁, ⟨hg, hq⟩, harr⟩ := h b (.inScope c :: k) cs hro hb hr
  cases e with
  | normal => exact ⟨.normal, a₁, w₁, hq, .head h0 stepR_scope (StepsIn.trans harr (.one (fenced_calm hb hr rfl) stepR_inScope))⟩
  | exit id =>
    have hx : exitTo id (.inScope c :: k) = exitTo id k := by simp [exitTo]
    exact ⟨.exit id, a₁, w₁, hq, fun k' hk => .head h0 stepR_scope (harr.1 k' (by rw [hx]; exact hk)),
        fun hr' hk => let ⟨k₁, h1, h2⟩ := harr.2 hr' (by rw [hx]; exact hk); ⟨k₁, h1, .head h0 stepR_scope h2⟩⟩
  | goto l => exact absurd rfl (hg l)
  | ret => exact ⟨_, a₁, w₁, hq, .of_steps (.one h0 stepR_scope) harr⟩
  | panic ch => exact ⟨_, a₁, w₁, hq, .of_steps (.one h0 stepR_scope) harr⟩
  | outgrown => exact ⟨_, a₁, w₁, hq, .of_steps (.one h0 stepR_scope) harr⟩
end

def retQ (Q : APost) : APost
  | .ret, T, H => Q .ret T H
  | _, _, _ => False

theorem retQ_ret {Q : APost} {T : Tmps} {H : AHeap} (h : Q .ret T H) : retQ Q .ret T H := h

/-- A part with labels of its own that always returns. -/
theorem awp_scopeR {P : Program} {N : Nat} {T : Tmps} {H : AHeap} {Q : APost} {c : Code} (h : AWP P N c T H (retQ Q)) : AWP P N (.scope c) T H Q := by
  intro E st w a r B hc hf hd
  refine wpIn_scope (wpIn_mono (h E st w a r B hc hf hd) ?_)
  intro e a' w' hp
  cases e with
  | outgrown => exact hp.elim
  | _ =>
    obtain ⟨st', T', H', x, h1, h2, h3, h4, h5⟩ := hp
    cases x <;> first | exact h4.elim | exact h5.elim | exact ⟨fun l e => (by cases e), st', T', H', _, h1, h2, h3, h4, h5⟩

theorem dec2 (i : Nat) (h : i < 2) : Utf8.decode ⟨([32, 10] : List UInt8).toArray⟩ i = ((([32, 10] : List UInt8).getD i 0).toNat, 1) := by
  refine dec_low ?_
  rcases (by omega : i = 0 ∨ i = 1) with rfl | rfl <;> decide

/-- The first place of a blank or a line end. -/
def anyF (s : List UInt8) : Bool := s.any fun b => b == 32 || b == 10

theorem anyF_none {s : List UInt8} (h : ∀ j, j < s.length → ¬ (s.getD j 0 = 32 ∨ s.getD j 0 = 10)) : anyF s = false := by
  unfold anyF
  rw [List.any_eq_false]
  intro b hb
  obtain ⟨j, hj, rfl⟩ := List.getElem_of_mem hb
  have := h j hj
  simp only [List.getD, List.getElem?_eq_getElem hj, Option.getD_some] at this
  simpa using this

theorem anyF_some {s : List UInt8} {j : Nat} (hj : j < s.length) (h : s.getD j 0 = 32 ∨ s.getD j 0 = 10) : anyF s = true := by
  unfold anyF
  rw [List.any_eq_true]
  refine ⟨s[j], by simp, ?_⟩
  simp only [List.getD, List.getElem?_eq_getElem hj, Option.getD_some] at h
  simpa using h

theorem ib2 (b : UInt8) : (decide (Lib.indexByte [32, 10] b ≥ 0)) = (b == 32 || b == 10) := by
  by_cases h1 : b = 32
  · subst h1; decide
  · by_cases h2 : b = 10
    · subst h2; decide
    · rw [show (b == 32 || b == 10) = false by simp [h1, h2]]
      have := Lib.contains_iff_indexByte [32, 10] b
      have h3 : List.contains [32, 10] b = false := by simp [h1, h2]
      rw [h3] at this
      exact this.symm

def idxA (s : List UInt8) : Int := if anyF s then s.findIdx (fun b => b == 32 || b == 10) else -1

theorem idxA_none {s : List UInt8} (h : ∀ j, j < s.length → ¬ (s.getD j 0 = 32 ∨ s.getD j 0 = 10)) : idxA s = -1 := by
  unfold idxA
  rw [anyF_none h]
  rfl

theorem idxA_hit {s : List UInt8} {i : Nat} (hi : i < s.length) (h : s.getD i 0 = 32 ∨ s.getD i 0 = 10) (hno : ∀ j, j < i → ¬ (s.getD j 0 = 32 ∨ s.getD j 0 = 10)) : idxA s = i := by
  unfold idxA
  rw [anyF_some hi h, if_pos rfl]
  congr 1
  rw [List.findIdx_eq hi]
  constructor
  · simp only [List.getD, List.getElem?_eq_getElem hi, Option.getD_some] at h
    simpa using h
  · intro j hj
    have := hno j hj
    simp only [List.getD, List.getElem?_eq_getElem (show j < s.length by omega), Option.getD_some] at this
    simpa using this

theorem idxA_pos (s : List UInt8) : decide (idxA s ≥ 0) = anyF s := by
  unfold idxA
  split
  · rename_i h
    rw [h]
    exact decide_eq_true (by omega)
  · rename_i h
    rw [Bool.not_eq_true] at h
    rw [h]
    decide

theorem indexAny_iff : ∀ s : List UInt8, 0 ≤ Lib.indexAny s [32, 10] ↔ anyF s = true
  | [] => by decide
  | b :: l => by
    have ih := indexAny_iff l
    have hge := Lib.indexAny_ge [32, 10] l
    have e1 : Lib.indexAny (b :: l) [32, 10] = if List.contains [32, 10] b then 0 else if Lib.indexAny l [32, 10] == -1 then -1 else Lib.indexAny l [32, 10] + 1 := rfl
    have e2 : anyF (b :: l) = ((b == 32 || b == 10) || anyF l) := rfl
    have e3 : List.contains [32, 10] b = (b == 32 || b == 10) := by simp only [List.contains, List.elem]; cases b == 32 <;> cases b == 10 <;> rfl
    rw [e1, e2, e3]
    cases hb : (b == 32 || b == 10)
    · rw [if_neg (by simp), Bool.false_or, ← ih]
      by_cases hm : Lib.indexAny l [32, 10] = -1
      · rw [hm]; decide
      · rw [if_neg (by simpa using hm)]
        omega
    · simp

theorem indexAny_any (s : List UInt8) : decide (Lib.indexAny s [32, 10] ≥ 0) = anyF s := by
  have := indexAny_iff s
  cases h : anyF s
  · rw [h] at this
    exact decide_eq_false (fun x => absurd (this.1 x) (by simp))
  · exact decide_eq_true (this.2 h)

end Go.Proofs.YtjinaakebjfbiaaGreatDoor
