/-
  The model's operations do as the abstract ones say (those that only reckon).
-/
import Derived.Test.YtgbmanmcioailaaDoorAb3
namespace Go.Ab

section
variable {P : Program} {st : Stab} {w : World} {ty : TypeId → Option TyI}

theorem exec_v {s : Sem Value} {c : Value} (h : s.run P w = .ok c w) : ((do pure (.value (← s))) : Sem Next).run P w = .ok (.value c) w := by
  simp [h]

def plainPair : Value → Value → Bool
  | .nilIface, .nilIface => false
  | .agg _, .agg _ => false
  | _, _ => true

theorem run_eqGuard_plain {op : BinOp} {t : TypeId} {x y : Operand} {a b : Value}
    (h : plainPair a b = true) : (eqGuard op t x y a b).run P w = .ok () w := by
  unfold eqGuard
  cases op <;> simp
  all_goals (split <;> first | (simp [plainPair] at h; done) | rfl)

theorem run_int {op : BinOp} {k : IntKind} {a b : Int} {p : Prop} {v : AV} {t : TypeId} (h : aint op k a b = some (p, v)) (hp : p) :
    ∃ c, (binOp op t (.int k a) (.int k b)).run P w = .ok c w ∧ Rep st w v c := by
  have ar : ∀ n : Int, arith k n = some (p, v) → (∃ c, Result.ok (Value.int k (k.wrap n)) w = .ok c w ∧ Rep st w v c) := by
    intro n hn
    unfold arith at hn
    split at hn
    · simp only [Option.some.injEq, Prod.mk.injEq] at hn
      obtain ⟨rfl, rfl⟩ := hn
      rw [wrap_inK hp]
      exact ⟨_, rfl, .int _ _⟩
    · simp only [Option.some.injEq, Prod.mk.injEq] at hn
      obtain ⟨_, rfl⟩ := hn
      exact ⟨_, rfl, .int _ _⟩
  cases op <;> simp only [aint, Option.some.injEq, Prod.mk.injEq, reduceCtorEq] at h
  case add => simpa [binOp, Op.intArith] using ar _ h
  case sub => simpa [binOp, Op.intArith] using ar _ h
  case mul => simpa [binOp, Op.intArith] using ar _ h
  case quo =>
    obtain ⟨rfl, rfl⟩ := h
    obtain ⟨h0, h1, h2⟩ := hp
    have e : a.tdiv b = a / b := Int.tdiv_eq_ediv_of_nonneg h0
    have hne : b ≠ 0 := by omega
    have hin : inK k (a / b) := by
      have h3 : 0 ≤ a / b := Int.ediv_nonneg h0 (by omega)
      have h4 : a / b ≤ a := Int.ediv_le_self _ h0
      cases k <;> simp only [inK] at h2 ⊢ <;> omega
    refine ⟨.int k (a / b), ?_, .int _ _⟩
    simp [binOp, Op.intDiv, hne, e, wrap_inK hin]
  case rem =>
    obtain ⟨rfl, rfl⟩ := h
    obtain ⟨h0, h1⟩ := hp
    have e : a.tmod b = a % b := Int.tmod_eq_emod_of_nonneg h0
    have hne : b ≠ 0 := by omega
    exact ⟨.int k (a % b), by simp [binOp, Op.intDiv, hne, e], .int _ _⟩
  case and | or | xor | andNot =>
    obtain ⟨_, rfl⟩ := h
    refine ⟨.int k (bits _ k a b), ?_, .int _ _⟩
    simp [binOp, Op.intBits, bits]
  all_goals
    obtain ⟨_, rfl⟩ := h
    refine ⟨.bool _, ?_, .bool _⟩
    simp [binOp, Op.intCmp]

theorem run_str {op : BinOp} {a b : List UInt8} {p : Prop} {v : AV} {t : TypeId} (h : astr op a b = some (p, v)) (hp : p) :
    ∃ c, (binOp op t (.string ⟨a.toArray⟩) (.string ⟨b.toArray⟩)).run P w = .ok c w ∧ Rep st w v c := by
  have ha : (ByteArray.mk a.toArray).toList = a := by rw [Lib.toList_data]
  have hb : (ByteArray.mk b.toArray).toList = b := by rw [Lib.toList_data]
  cases op <;> simp only [astr, Option.some.injEq, Prod.mk.injEq, reduceCtorEq] at h
  all_goals
    obtain ⟨hpp, rfl⟩ := h
  case add =>
    subst hpp
    refine ⟨.string ⟨(a ++ b).toArray⟩, ?_, .str _⟩
    have e : (ByteArray.mk a.toArray ++ ByteArray.mk b.toArray) = ⟨(a ++ b).toArray⟩ := by
      apply ByteArray.ext
      simp [ByteArray.data_append]
    have hs : (ByteArray.mk a.toArray).size = a.length := by simp [ByteArray.size]
    have hs2 : (ByteArray.mk b.toArray).size = b.length := by simp [ByteArray.size]
    have hm : IntKind.i64.max = 9223372036854775807 := by decide
    have hn : ¬ ((((ByteArray.mk a.toArray).size + (ByteArray.mk b.toArray).size : Nat) : Int) > IntKind.i64.max) := by
      rw [hs, hs2, hm]; omega
    simp only [binOp, Op.stringOp, if_neg hn, e]
    rfl
  all_goals
    exact ⟨_, by simp only [binOp, Op.stringOp, ha, hb]; rfl, .bool _⟩

theorem abin_sound {op : BinOp} {vx vy v : AV} {x y : Value} {p : Prop} {t : TypeId} (hx : Rep st w vx x) (hy : Rep st w vy y) (h : abin op vx vy = some (p, v)) (hp : p) :
    (∃ c, (binOp op t x y).run P w = .ok c w ∧ Rep st w v c) ∧ plainPair x y = true := by
  unfold abin at h
  split at h
  · rename_i k a
    obtain rfl := hx.int_eq
    split at h
    · rename_i k' b
      obtain rfl := hy.int_eq
      refine ⟨?_, rfl⟩
      split at h
      · simp only [Option.some.injEq, Prod.mk.injEq] at h
        obtain ⟨rfl, rfl⟩ := h
        have : ¬ b < 0 := by omega
        exact ⟨_, by simp [binOp, Op.shift, this], .int _ _⟩
      · simp only [Option.some.injEq, Prod.mk.injEq] at h
        obtain ⟨rfl, rfl⟩ := h
        have : ¬ b < 0 := by omega
        exact ⟨_, by simp [binOp, Op.shift, this], .int _ _⟩
      · split at h
        · rename_i e
          subst e
          exact run_int h hp
        · cases h
    · cases h
  · rename_i a
    obtain rfl := hx.str_eq
    split at h
    · rename_i b
      obtain rfl := hy.str_eq
      exact ⟨run_str h hp, rfl⟩
    · cases h
  · cases h

theorem abool_sound {op : BinOp} {vx vy v : AV} {x y : Value} {p : Prop} {t : TypeId} (ht : P.underlying t = some .bool) (hx : Rep st w vx x) (hy : Rep st w vy y) (h : abool op vx vy = some (p, v)) :
    (∃ c, (binOp op t x y).run P w = .ok c w ∧ Rep st w v c) ∧ plainPair x y = true := by
  unfold abool at h
  split at h
  · rename_i a
    obtain rfl := hx.bool_eq
    split at h
    · rename_i b
      obtain rfl := hy.bool_eq
      refine ⟨?_, rfl⟩
      have he : (Op.equal t (.bool a) (.bool b)).run P w = .ok (a == b) w := by
        unfold Op.equal Op.maxDepth
        rw [Op.equalIn, Sem.run_bind, run_underlying ht]
        rfl
      split at h
      · simp only [Option.some.injEq, Prod.mk.injEq] at h
        obtain ⟨_, rfl⟩ := h
        refine ⟨.bool (a == b), ?_, .bool _⟩
        show Sem.run P (do pure (Value.bool (← Op.equal t _ _))) w = _
        rw [Sem.run_bind, he]
        rfl
      · simp only [Option.some.injEq, Prod.mk.injEq] at h
        obtain ⟨_, rfl⟩ := h
        refine ⟨.bool (!(a == b)), ?_, .bool _⟩
        show Sem.run P (do pure (Value.bool (!(← Op.equal t _ _)))) w = _
        rw [Sem.run_bind, he]
        rfl
      · cases h
    · cases h
  · cases h

theorem aun_sound {op : UnOp} {vx v : AV} {x : Value} {p : Prop} (hx : Rep st w vx x) (h : aun op vx = some (p, v)) (hp : p) :
    ∃ c, (Op.unary op x).run P w = .ok c w ∧ Rep st w v c := by
  unfold aun at h
  split at h
  · split at h
    · rename_i b
      obtain rfl := hx.bool_eq
      simp only [Option.some.injEq, Prod.mk.injEq] at h
      obtain ⟨_, rfl⟩ := h
      exact ⟨.bool !b, rfl, .bool _⟩
    · cases h
  · split at h
    · rename_i k n
      obtain rfl := hx.int_eq
      unfold arith at h
      split at h
      · simp only [Option.some.injEq, Prod.mk.injEq] at h
        obtain ⟨rfl, rfl⟩ := h
        refine ⟨.int .i64 (0 - n), ?_, .int _ _⟩
        simp only [Op.unary, Op.intArith, wrap_inK hp]
        rfl
      · simp only [Option.some.injEq, Prod.mk.injEq] at h
        obtain ⟨_, rfl⟩ := h
        exact ⟨_, rfl, .int _ _⟩
    · cases h
  · cases h

theorem list_take_rep {cells : List AV} {cs : List Value} {n : Nat} (hl : cs.length = cells.length)
    (h : ∀ (j : Nat) (v : AV) (x : Value), cells[j]? = some v → cs[j]? = some x → Rep st w v x) :
    Rep st w (.agg (cells.take n)) (.agg ⟨cs.take n⟩) := by
  refine .agg _ _ (by simp [hl]) fun j v x hv hx => ?_
  rw [List.getElem?_take] at hv hx
  split at hv
  · rename_i hj; rw [if_pos hj] at hx; exact h j v x hv hx
  · cases hv

theorem run_isAgg {t : TypeId} {d : TypeDesc} {k : TyK} (hd : P.underlying t = some d) (hk : k.fits d) (ho : ∀ (_ : k = .other), False) :
    (isAgg t).run P w = .ok k.isAgg w := by
  unfold isAgg
  rw [Sem.run_bind, run_underlying hd w]
  cases k <;> simp only [TyK.fits, TyK.isAgg] at hk ⊢
  case other => exact absurd rfl ho
  case iface => obtain ⟨m, rfl⟩ := hk; rfl
  case func => obtain ⟨x, y, z, rfl⟩ := hk; rfl
  case struct => obtain ⟨x, rfl, _⟩ := hk; rfl
  all_goals (subst hk; rfl)

theorem run_sizeOf {t : TypeId} {inf : TypeInfo} (h : P.info? t = some inf) : (sizeOf t).run P w = .ok inf.size w := by
  simp [sizeOf, typeInfo, h]

theorem run_zeroValue {t : TypeId} {inf : TypeInfo} {z : Value} (h : P.info? t = some inf) (hz : inf.zero = some z) : (zeroValue t).run P w = .ok z w := by
  simp [zeroValue, typeInfo, h, hz]

/-- Cells that lie from a place on, as values: 'part' of an aggregate, 'loadVar' of memory. -/
theorem part_sound (hty : TyOk P ty) {t : TypeId} {i : TyI} (hi : ty t = some i) {cells : List AV} {cs : List Value} (hl : cs.length = cells.length)
    (h : ∀ (j : Nat) (v : AV) (x : Value), cells[j]? = some v → cs[j]? = some x → Rep st w v x) {off : Nat} {v : AV} (hp : partOf i (cells.drop off) = some v) :
    ∃ c, (part t ⟨cs⟩ off).run P w = .ok c w ∧ Rep st w v c := by
  obtain ⟨⟨d, hd, hk⟩, inf, z, hinf, hsz, hby, hz, hzs, hzr⟩ := hty t i hi
  obtain ⟨ho, hp⟩ := partOf_not hp
  have ha := run_isAgg (w := w) hd hk ho
  unfold part
  rw [Sem.run_bind, ha]
  unfold partOf' at hp
  have hd' : ∀ (j : Nat) (v : AV) (x : Value), (cells.drop off)[j]? = some v → (cs.drop off)[j]? = some x → Rep st w v x := fun j v x hv hx => h (off + j) v x (by simpa using hv) (by simpa using hx)
  cases hag : i.k.isAgg with
  | true =>
    rw [hag] at hp
    cases hle : Nat.ble i.size (cells.drop off).length with
    | false => simp only [hle, cond_false, reduceCtorEq] at hp
    | true =>
      simp only [hle, cond_true, Option.some.injEq] at hp
      subst hp
      have hle' : i.size ≤ cells.length - off := by simpa using Nat.le_of_ble_eq_true hle
      refine ⟨.agg ⟨(cs.drop off).take i.size⟩, ?_, list_take_rep (by simp [hl]) hd'⟩
      have e : (Array.mk cs).extract off (off + i.size) = ⟨(cs.drop off).take i.size⟩ := by
        apply Array.ext'
        simp
      simp [Result.andThen, run_sizeOf hinf, hsz]
  | false =>
    rw [hag] at hp
    simp only at hp
    rw [List.head?_drop] at hp
    have hlt : off < cs.length := by
      have := (List.getElem?_eq_some_iff.1 hp).1
      omega
    have hx : cs[off]? = some cs[off] := by simp [hlt]
    refine ⟨cs[off], ?_, h off v cs[off] hp hx⟩
    simp [Result.andThen, hx]

theorem addr_add (b off n : Nat) : (⟨b, off, none⟩ : Addr).add n = ⟨b, off + n, none⟩ := by
  unfold Addr.add
  split
  · rename_i h; subst h; rfl
  · rfl

theorem rptr_load_sound (hty : TyOk P ty) {t : TypeId} {i : TyI} (hi : ty t = some i) {cells : List AV} {x : Value} (hx : Rep st w (.rptr cells) x)
    {v : AV} (hp : partOf i cells = some v) : ∃ c, (Instr.loadAt t x).run P w = .ok c w ∧ Rep st w v c := by
  obtain ⟨⟨d, hd, hk⟩, inf, z, hinf, hsz, hby, hz, hzs, hzr⟩ := hty t i hi
  obtain ⟨ho, hp⟩ := partOf_not hp
  have ha := run_isAgg (w := w) hd hk ho
  cases hx with
  | rptr _ b off c hcell hrep =>
    unfold Instr.loadAt
    simp only [Instr.sureAddr, Sem.run_bind, Sem.run_pure, Result.andThen_ok]
    unfold loadVar
    rw [Sem.run_bind, ha]
    unfold partOf' at hp
    cases hag : i.k.isAgg with
    | true =>
      rw [hag] at hp
      cases hle : Nat.ble i.size cells.length with
      | false => simp [hle] at hp
      | true =>
        simp [hle] at hp
        subst hp
        have hle' := Nat.le_of_ble_eq_true hle
        have hl := run_loadCells (P := P) w ⟨b, off, none⟩ i.size c (fun j hj => by rw [addr_add]; exact (hcell j (by omega)).2)
        refine ⟨.agg ⟨(List.range i.size).map c⟩, ?_, ?_⟩
        · simp [Result.andThen, run_sizeOf hinf, hsz, hl]
        · refine .agg _ _ (by simp; omega) fun j v x hv hx => ?_
          have hj : j < i.size := by
            have := (List.getElem?_eq_some_iff.1 hx).1
            simpa using this
          simp [hj] at hx
          subst hx
          rw [List.getElem?_take, if_pos hj] at hv
          exact hrep j v hv
    | false =>
      rw [hag] at hp
      simp only at hp
      have hne : 0 < cells.length := by cases cells <;> simp at hp ⊢
      have h0 := (hcell 0 hne).2
      refine ⟨c 0, ?_, hrep 0 v (by rw [← List.head?_eq_getElem?]; exact hp)⟩
      simp only [Nat.add_zero] at h0
      simp [Result.andThen, h0]


theorem afaddr_sound (hty : TyOk P ty) {s : TypeId} {i : TyI} {fs : List (Nat × TypeId)} (hi : ty s = some i) (hk : i.k = .struct fs) {vx v : AV} {x : Value} {f : Nat} {p : Prop}
    (hx : Rep st w vx x) (h : afaddr fs (fun t => (ty t).map (·.size)) vx f = some (p, v)) : ∃ c, (Instr.fieldAt s x f).run P w = .ok c w ∧ Rep st w v c := by
  obtain ⟨⟨d, hd, hkf⟩, -⟩ := hty s i hi
  rw [hk] at hkf
  obtain ⟨a, rfl, ha⟩ := hkf
  unfold afaddr at h
  cases hf : fs[f]? with
  | none => simp [hf] at h
  | some q =>
    obtain ⟨off, ft⟩ := q
    simp only [hf] at h
    cases hft : ty ft with
    | none => simp [hft] at h
    | some fi =>
      obtain ⟨-, inf, z, hinf, hsz, -⟩ := hty ft fi hft
      simp only [hft, Option.map_some] at h
      have hfa : ∃ fl, a[f]? = some fl ∧ fl.offset = off ∧ fl.type = ft := by
        rw [← ha] at hf
        simp only [List.getElem?_map, Array.getElem?_toList] at hf
        cases hq : a[f]? with
        | none => simp [hq] at hf
        | some fl =>
          simp [hq] at hf
          exact ⟨fl, rfl, hf.1, hf.2⟩
      obtain ⟨fl, hfl, rfl, rfl⟩ := hfa
      cases hn : fi.size with
      | zero => simp [hn] at h
      | succ n =>
        simp only [hn] at h
        have hne : ¬ inf.size = 0 := by omega
        have hplace : ∀ ad : Addr, (fieldPlace ad fl).run P w = .ok (ad.add fl.offset) w := by
          intro ad
          simp [fieldPlace, sizeOf, typeInfo, hinf, hne]
        cases hx with
        | ptr b o =>
          simp only [Option.some.injEq, Prod.mk.injEq] at h
          obtain ⟨-, rfl⟩ := h
          refine ⟨.pointer (some ⟨b, o + fl.offset, none⟩), ?_, .ptr _ _⟩
          unfold Instr.fieldAt
          simp [run_underlying hd, hfl, Instr.sureAddr, hplace, addr_add]
        | rptr cells b o c hcell hrep =>
          simp only [Option.some.injEq, Prod.mk.injEq] at h
          obtain ⟨-, rfl⟩ := h
          refine ⟨.pointer (some ⟨b, o + fl.offset, none⟩), ?_, ?_⟩
          · unfold Instr.fieldAt
            simp [run_underlying hd, hfl, Instr.sureAddr, hplace, addr_add]
          · refine .rptr _ b (o + fl.offset) (fun j => c (fl.offset + j)) (fun j hj => ?_) (fun j v hv => ?_)
            · have := hcell (fl.offset + j) (by simp at hj; omega)
              simpa [Nat.add_assoc] using this
            · exact hrep (fl.offset + j) v (by simpa using hv)
        | _ => simp at h

theorem afield_sound (hty : TyOk P ty) {s : TypeId} {i : TyI} {fs : List (Nat × TypeId)} (hi : ty s = some i) (hk : i.k = .struct fs) {vx v : AV} {x : Value} {f : Nat} {p : Prop}
    (hx : Rep st w vx x) (h : afield fs ty vx f = some (p, v)) : ∃ c, (Instr.field s x f).run P w = .ok c w ∧ Rep st w v c := by
  obtain ⟨⟨d, hd, hkf⟩, -⟩ := hty s i hi
  rw [hk] at hkf
  obtain ⟨a, rfl, ha⟩ := hkf
  unfold afield at h
  cases hf : fs[f]? with
  | none => simp [hf] at h
  | some q =>
    obtain ⟨off, ft⟩ := q
    simp only [hf] at h
    cases hft : ty ft with
    | none => simp [hft] at h
    | some fi =>
      simp only [hft] at h
      have hfa : ∃ fl, a[f]? = some fl ∧ fl.offset = off ∧ fl.type = ft := by
        rw [← ha] at hf
        simp only [List.getElem?_map, Array.getElem?_toList] at hf
        cases hq : a[f]? with
        | none => simp [hq] at hf
        | some fl =>
          simp [hq] at hf
          exact ⟨fl, rfl, hf.1, hf.2⟩
      obtain ⟨fl, hfl, rfl, rfl⟩ := hfa
      cases hx with
      | agg cells cs hl hr =>
        simp only at h
        cases hp : partOf fi (cells.drop fl.offset) with
        | none => simp [hp] at h
        | some u =>
          simp [hp] at h
          obtain ⟨-, rfl⟩ := h
          obtain ⟨c, h1, h2⟩ := part_sound (P := P) hty hft hl hr hp
          refine ⟨c, ?_, h2⟩
          unfold Instr.field
          simp [run_underlying hd, hfl, asAgg, h1]
      | _ => simp at h


theorem aidxaddr_sound (hty : TyOk P ty) {t : TypeId} {i : TyI} (hi : ty t = some i) {vx vi v : AV} {x ix : Value} {p : Prop}
    (hx : Rep st w vx x) (hix : Rep st w vi ix) (h : aidxaddr i.k ty vx vi = some (p, v)) (hp : p) : ∃ c, (Instr.indexAt t x ix).run P w = .ok c w ∧ Rep st w v c := by
  obtain ⟨⟨d, hd, hkf⟩, -⟩ := hty t i hi
  unfold aidxaddr at h
  split at h
  · rename_i k n
    obtain rfl := hix.int_eq
    split at h
    · rename_i e hk
      rw [hk] at hkf
      obtain rfl : d = .slice e := hkf
      cases he : ty e with
      | none => simp [he] at h
      | some ei =>
        obtain ⟨-, inf, z, hinf, hsz, -⟩ := hty e ei he
        simp only [he] at h
        cases hx with
        | slice sz m el o a cap b off c hn hbase hlen hcell hrep hown hone =>
          simp only at h
          cases hb : Nat.beq sz ei.size with
          | false => simp [hb] at h
          | true =>
            simp only [hb, cond_true, Option.some.injEq, Prod.mk.injEq] at h
            obtain ⟨rfl, rfl⟩ := h
            obtain rfl := Nat.eq_of_beq_eq_true hb
            have hm : n.toNat < m := by omega
            rcases hbase with hz | rfl
            · omega
            · refine ⟨.pointer (some ⟨b, off + n.toNat * ei.size, none⟩), ?_, ?_⟩
              · unfold Instr.indexAt
                simp [asIntOf, run_underlying hd, run_sizeOf hinf, hsz, hp.1, hp.2, addr_add]
              · refine .rptr _ b _ (fun j => c n.toNat j) (fun j hj => ?_) (fun j v hv => hrep _ j v hm hv)
                rw [hlen _ hm] at hj
                have := hcell n.toNat j hm hj
                simpa [Nat.add_assoc] using this
        | mslice b off len cap =>
          simp only at h
          cases hb : Nat.beq ei.size 1 with
          | false => simp [hb] at h
          | true =>
            simp only [hb, cond_true, Option.some.injEq, Prod.mk.injEq] at h
            obtain ⟨rfl, rfl⟩ := h
            have h1 : ei.size = 1 := Nat.eq_of_beq_eq_true hb
            refine ⟨.pointer (some ⟨b, off + n.toNat, none⟩), ?_, .ptr _ _⟩
            unfold Instr.indexAt
            simp [asIntOf, run_underlying hd, run_sizeOf hinf, hsz, h1, hp.1, hp.2, addr_add]
        | _ => simp at h
    · rename_i m e hk
      rw [hk] at hkf
      obtain rfl : d = .array m e := hkf
      cases he : ty e with
      | none => simp [he] at h
      | some ei =>
        obtain ⟨-, inf, z, hinf, hsz, -⟩ := hty e ei he
        simp only [he] at h
        cases hx with
        | ptr b off =>
          simp only at h
          cases hb : Nat.beq ei.size 1 with
          | false => simp [hb] at h
          | true =>
            simp only [hb, cond_true, Option.some.injEq, Prod.mk.injEq] at h
            obtain ⟨rfl, rfl⟩ := h
            have h1 : ei.size = 1 := Nat.eq_of_beq_eq_true hb
            refine ⟨.pointer (some ⟨b, off + n.toNat, none⟩), ?_, .ptr _ _⟩
            unfold Instr.indexAt
            simp [asIntOf, run_underlying hd, run_sizeOf hinf, hsz, h1, hp.1, hp.2, addr_add, Instr.sureAddr]
        | _ => simp at h
    · cases h
  · cases h

theorem getD_toArray (s : List UInt8) (n : Nat) (h : n < s.length) : (ByteArray.mk s.toArray)[n]? = some (s.getD n 0) := by
  have hs : n < (ByteArray.mk s.toArray).size := by simp [ByteArray.size, h]
  rw [getElem?_pos (ByteArray.mk s.toArray) n hs]
  congr 1
  simp [ByteArray.getElem_eq_getElem_data, List.getD, h]

theorem aindex_sound (hty : TyOk P ty) {t : TypeId} {i : TyI} (hi : ty t = some i) {vx vi v : AV} {x ix : Value} {p : Prop}
    (hx : Rep st w vx x) (hix : Rep st w vi ix) (h : aindex i.k ty vx vi = some (p, v)) (hp : p) : ∃ c, (Instr.index t x ix).run P w = .ok c w ∧ Rep st w v c := by
  obtain ⟨⟨d, hd, hkf⟩, -⟩ := hty t i hi
  unfold aindex at h
  split at h
  · rename_i k n
    obtain rfl := hix.int_eq
    split at h
    · rename_i hk
      rw [hk] at hkf
      obtain rfl : d = .string := hkf
      split at h
      · rename_i s
        obtain rfl := hx.str_eq
        simp only [Option.some.injEq, Prod.mk.injEq] at h
        obtain ⟨rfl, rfl⟩ := h
        have hm : n.toNat < s.length := by omega
        refine ⟨_, ?_, .int _ _⟩
        unfold Instr.index
        simp only [asIntOf, Sem.run_bind, Sem.run_pure, Result.andThen_ok, run_underlying hd, hp.1, if_true, getD_toArray s _ hm]
      · cases h
    · rename_i m e hk
      rw [hk] at hkf
      obtain rfl : d = .array m e := hkf
      cases he : ty e with
      | none => simp [he] at h
      | some ei =>
        obtain ⟨⟨de, hde, hke⟩, inf, z, hinf, hsz, -⟩ := hty e ei he
        simp only [he] at h
        cases hx with
        | vec m' el cs hl hr _ =>
          simp only at h
          cases hb : (Nat.beq m m' && !ei.k.isAgg && !ei.k.isOther && Nat.beq ei.size 1) with
          | false => simp [hb] at h
          | true =>
            simp only [hb, cond_true, Option.some.injEq, Prod.mk.injEq] at h
            obtain ⟨rfl, rfl⟩ := h
            simp only [Bool.and_eq_true, Bool.not_eq_true'] at hb
            obtain ⟨⟨⟨hmm, hna⟩, hno⟩, hs1⟩ := hb
            have hs1 : ei.size = 1 := Nat.eq_of_beq_eq_true hs1
            obtain rfl := Nat.eq_of_beq_eq_true hmm
            have hm : n.toNat < cs.length := by omega
            have hx : cs[n.toNat]? = some cs[n.toNat] := by simp [hm]
            refine ⟨cs[n.toNat], ?_, hr _ _ hx⟩
            have ho : ei.k = .other → False := by
              intro e'
              rw [e'] at hno
              cases hno
            unfold Instr.index
            have hpart : (part e ⟨cs⟩ n.toNat).run P w = .ok cs[n.toNat] w := by
              unfold part
              rw [Sem.run_bind, run_isAgg hde hke ho, hna]
              simp [Result.andThen, hx]
            simp only [asIntOf, Sem.run_bind, Sem.run_pure, Result.andThen_ok, run_underlying hd, hp.1, hp.2, if_true, and_self, run_sizeOf hinf, hsz, hs1, Nat.mul_one, hpart]
        | _ => simp at h
    · cases h
  · cases h


theorem slice_rep {sz n : Nat} {el : Nat → List AV} {o : Own} {a : Option Addr} {cap l h : Nat} (hx : Rep st w (.slice sz n el o) (.slice a n cap)) (hl : l ≤ h) (hh : h ≤ n) :
    Rep st w (.slice sz (h - l) (fun i => el (l + i)) .view) (.slice (if cap = l then a else a.map (·.add (l * sz))) (h - l) (cap - l)) := by
  cases hx with
  | slice _ _ _ _ _ _ b off c hn hbase hlen hcell hrep hown hone =>
    refine .slice sz (h - l) _ .view _ _ b (off + l * sz) (fun i j => c (l + i) j) (by omega) ?_ (fun i hi => hlen _ (by omega)) (fun i j hi hj => ?_) (fun i j v hi hv => hrep _ j v (by omega) hv) trivial (fun i j hi hj => hone _ j (by omega) hj)
    · by_cases e : h - l = 0
      · exact .inl e
      · refine .inr ?_
        rw [if_neg (by omega)]
        rcases hbase with hz | rfl
        · omega
        · simp [addr_add]
    · have := hcell (l + i) j (by omega) hj
      rw [Nat.add_mul] at this
      simpa [Nat.add_assoc] using this

theorem slice_len {sz n : Nat} {el : Nat → List AV} {o : Own} {x : Value} (hx : Rep st w (.slice sz n el o) x) : ∃ a cap, x = .slice a n cap ∧ n ≤ cap := by
  cases hx with
  | slice _ _ _ _ a cap b off c hn => exact ⟨a, cap, rfl, hn⟩

theorem str_extract (s : List UInt8) (l h : Nat) : (ByteArray.mk s.toArray).extract l h = ⟨((s.take h).drop l).toArray⟩ := by
  rw [Lib.extract_eq]
  congr 2
  rw [List.drop_take]

def optRep (st : Stab) (w : World) : Option AV → Option Value → Prop
  | none, none => True
  | some v, some x => Rep st w v x
  | _, _ => False

theorem aslice_sound (hty : TyOk P ty) {t : TypeId} {i : TyI} (hti : ty t = some i) {vx v : AV} {vlo vhi : Option AV} {x : Value} {lo hi : Option Value} {p : Prop}
    (hx : Rep st w vx x) (hlo : optRep st w vlo lo) (hhi : optRep st w vhi hi) (h : aslice i.k ty vx vlo vhi = some (p, v)) (hp : p) :
    ∃ c, (Instr.sliceAt t x lo hi none).run P w = .ok c w ∧ Rep st w v c := by
  obtain ⟨⟨d, hd, hkf⟩, -⟩ := hty t i hti
  unfold aslice at h
  split at h
  · rename_i hk
    rw [hk] at hkf
    obtain rfl : d = .string := hkf
    split at h
    · rename_i s
      obtain rfl := hx.str_eq
      have hsz : (ByteArray.mk s.toArray).size = s.length := by simp [ByteArray.size]
      split at h
      · split at h
        · simp only [Option.some.injEq, Prod.mk.injEq] at h
          obtain ⟨rfl, rfl⟩ := h
          cases lo <;> cases hi <;> simp only [optRep] at hlo hhi
          refine ⟨.string ⟨s.toArray⟩, ?_, .str _⟩
          simp [Instr.sliceAt, Instr.slice, run_underlying hd, Instr.sliceBounds]
        · rename_i kh hh
          simp only [Option.some.injEq, Prod.mk.injEq] at h
          obtain ⟨rfl, rfl⟩ := h
          cases lo <;> cases hi <;> simp only [optRep] at hlo hhi
          obtain rfl := hhi.int_eq
          refine ⟨.string ⟨(s.take hh.toNat).toArray⟩, ?_, .str _⟩
          simp [Instr.sliceAt, Instr.slice, run_underlying hd, Instr.sliceBounds, Instr.sliceBound, asIntOf, hsz, hp.1, hp.2, str_extract]
        · cases h
      · rename_i kl ll
        split at h
        · simp only [Option.some.injEq, Prod.mk.injEq] at h
          obtain ⟨rfl, rfl⟩ := h
          cases lo <;> cases hi <;> simp only [optRep] at hlo hhi
          obtain rfl := hlo.int_eq
          refine ⟨.string ⟨(s.drop ll.toNat).toArray⟩, ?_, .str _⟩
          simp [Instr.sliceAt, Instr.slice, run_underlying hd, Instr.sliceBounds, Instr.sliceBound, asIntOf, hsz, hp.1, hp.2, str_extract]
        · rename_i kh hh
          simp only [Option.some.injEq, Prod.mk.injEq] at h
          obtain ⟨rfl, rfl⟩ := h
          cases lo <;> cases hi <;> simp only [optRep] at hlo hhi
          obtain rfl := hlo.int_eq
          obtain rfl := hhi.int_eq
          have h0 : 0 ≤ hh := by omega
          have h1 : ll ≤ max hh 0 := by omega
          refine ⟨.string ⟨((s.take hh.toNat).drop ll.toNat).toArray⟩, ?_, .str _⟩
          simp [Instr.sliceAt, Instr.slice, run_underlying hd, Instr.sliceBounds, Instr.sliceBound, asIntOf, hsz, hp.1, hp.2.2, h0, h1, str_extract]
        · cases h
      · cases h
    · cases h
  · rename_i e hk
    rw [hk] at hkf
    obtain rfl : d = .slice e := hkf
    cases he : ty e with
    | none => simp [he] at h
    | some ei =>
      obtain ⟨-, inf, z, hinf, hsz, -⟩ := hty e ei he
      simp only [he] at h
      split at h
      · rename_i sz n el o
        obtain ⟨a, cap, rfl, hcap⟩ := slice_len hx
        cases hb : Nat.beq sz ei.size with
        | false => simp [hb] at h
        | true =>
          simp only [hb, cond_true] at h
          obtain rfl := Nat.eq_of_beq_eq_true hb
          split at h
          · split at h
            · simp only [Option.some.injEq, Prod.mk.injEq] at h
              obtain ⟨rfl, rfl⟩ := h
              cases lo <;> cases hi <;> simp only [optRep] at hlo hhi
              have := slice_rep hx (Nat.zero_le n) (Nat.le_refl n)
              simp only [Nat.zero_add, Nat.sub_zero] at this
              refine ⟨_, ?_, this⟩
              simp [Instr.sliceAt, Instr.slice, run_underlying hd, Instr.sliceBounds, run_sizeOf hinf, hsz]
            · rename_i kh hh
              simp only [Option.some.injEq, Prod.mk.injEq] at h
              obtain ⟨rfl, rfl⟩ := h
              cases lo <;> cases hi <;> simp only [optRep] at hlo hhi
              obtain rfl := hhi.int_eq
              have := slice_rep hx (Nat.zero_le hh.toNat) (by omega)
              simp only [Nat.zero_add, Nat.sub_zero] at this
              refine ⟨_, ?_, this⟩
              have h1 : hh ≤ (cap : Int) := by omega
              simp [Instr.sliceAt, Instr.slice, run_underlying hd, Instr.sliceBounds, Instr.sliceBound, asIntOf, run_sizeOf hinf, hsz, hp.1, h1]
            · cases h
          · rename_i kl ll
            split at h
            · simp only [Option.some.injEq, Prod.mk.injEq] at h
              obtain ⟨rfl, rfl⟩ := h
              cases lo <;> cases hi <;> simp only [optRep] at hlo hhi
              obtain rfl := hlo.int_eq
              have := slice_rep hx (l := ll.toNat) (h := n) (by omega) (Nat.le_refl n)
              refine ⟨_, ?_, this⟩
              simp [Instr.sliceAt, Instr.slice, run_underlying hd, Instr.sliceBounds, Instr.sliceBound, asIntOf, run_sizeOf hinf, hsz, hp.1, hp.2]
            · rename_i kh hh
              simp only [Option.some.injEq, Prod.mk.injEq] at h
              obtain ⟨rfl, rfl⟩ := h
              cases lo <;> cases hi <;> simp only [optRep] at hlo hhi
              obtain rfl := hlo.int_eq
              obtain rfl := hhi.int_eq
              have := slice_rep hx (l := ll.toNat) (h := hh.toNat) (by omega) (by omega)
              refine ⟨_, ?_, this⟩
              have h0 : 0 ≤ hh := by omega
              have h1 : hh ≤ (cap : Int) := by omega
              have h2 : ll ≤ max hh 0 := by omega
              simp [Instr.sliceAt, Instr.slice, run_underlying hd, Instr.sliceBounds, Instr.sliceBound, asIntOf, run_sizeOf hinf, hsz, hp.1, h0, h1, h2]
            · cases h
          · cases h
      · cases h
  · cases h

theorem alen_sound (hty : TyOk P ty) {t tt : TypeId} {i : TyI} {e : TypeId} (hti : ty t = some i) (hk : i.k = .slice e) {vx v : AV} {x : Value} {p : Prop}
    (hx : Rep st w vx x) (h : alen vx = some (p, v)) : ∃ c, (Builtin.len_ #[t] tt #[x]).run P w = .ok c w ∧ Rep st w v c := by
  obtain ⟨⟨d, hd, hkf⟩, -⟩ := hty t i hti
  rw [hk] at hkf
  obtain rfl : d = .slice e := hkf
  unfold alen at h
  split at h <;> simp only [Option.some.injEq, Prod.mk.injEq, reduceCtorEq] at h
  · obtain ⟨-, rfl⟩ := h
    obtain ⟨a, cap, rfl, -⟩ := slice_len hx
    exact ⟨_, by simp [Builtin.len_, run_underlying hd, goInt], .int _ _⟩
  · obtain ⟨-, rfl⟩ := h
    cases hx
    exact ⟨_, by simp [Builtin.len_, run_underlying hd, goInt], .int _ _⟩
  · obtain ⟨-, rfl⟩ := h
    cases hx
    exact ⟨_, by simp [Builtin.len_, run_underlying hd, goInt], .int _ _⟩

theorem alenS_sound (hty : TyOk P ty) {t tt : TypeId} {i : TyI} (hti : ty t = some i) (hk : i.k = .str) {vx v : AV} {x : Value} {p : Prop}
    (hx : Rep st w vx x) (h : alenS vx = some (p, v)) : ∃ c, (Builtin.len_ #[t] tt #[x]).run P w = .ok c w ∧ Rep st w v c := by
  obtain ⟨⟨d, hd, hkf⟩, -⟩ := hty t i hti
  rw [hk] at hkf
  obtain rfl : d = .string := hkf
  unfold alenS at h
  split at h <;> simp only [Option.some.injEq, Prod.mk.injEq, reduceCtorEq] at h
  rename_i s
  obtain ⟨-, rfl⟩ := h
  obtain rfl := hx.str_eq
  have hsz : (ByteArray.mk s.toArray).size = s.length := by simp [ByteArray.size]
  refine ⟨_, ?_, .int _ _⟩
  simp [Builtin.len_, run_underlying hd, goInt, hsz]

theorem aconv_sound (hty : TyOk P ty) {ts td : TypeId} {is id : TyI} (hs : ty ts = some is) (hd : ty td = some id) {vx v : AV} {x : Value} {p : Prop}
    (hx : Rep st w vx x) (h : aconv is.k id.k vx = some (p, v)) : ∃ c, (convert ts td x).run P w = .ok c w ∧ Rep st w v c := by
  obtain ⟨⟨ds, hds, hks⟩, -⟩ := hty ts is hs
  obtain ⟨⟨dd, hdd, hkd⟩, -⟩ := hty td id hd
  unfold aconv at h
  split at h
  · rename_i k hk
    rw [hk] at hkd
    obtain rfl : dd = .int k := hkd
    split at h <;> simp only [Option.some.injEq, Prod.mk.injEq, reduceCtorEq] at h
    rename_i kx n
    obtain ⟨-, rfl⟩ := h
    obtain rfl := hx.int_eq
    refine ⟨_, ?_, .int _ _⟩
    unfold convert
    rw [Sem.run_bind, run_underlying hds, Result.andThen_ok, Sem.run_bind, run_underlying hdd, Result.andThen_ok]
    cases ds <;> rfl
  · rename_i hk
    rw [hk] at hkd
    obtain rfl : dd = .string := hkd
    split at h
    · rename_i hk2
      rw [hk2] at hks
      obtain rfl : ds = .string := hks
      split at h <;> simp only [Option.some.injEq, Prod.mk.injEq, reduceCtorEq] at h
      obtain ⟨-, rfl⟩ := h
      obtain rfl := hx.str_eq
      refine ⟨_, ?_, .str _⟩
      unfold convert
      rw [Sem.run_bind, run_underlying hds, Result.andThen_ok, Sem.run_bind, run_underlying hdd, Result.andThen_ok]
      rfl
    · cases h
  · cases h

theorem mapF_sound {F : Operand → Option AV} {ρ : Operand → Value} (hF : ∀ x v, F x = some v → Rep st w v (ρ x)) : ∀ (xs : List Operand) (vs : List AV), mapF F xs = some vs →
    (xs.map ρ).length = vs.length ∧ ∀ (j : Nat) (v : AV) (x : Value), vs[j]? = some v → (xs.map ρ)[j]? = some x → Rep st w v x
  | [], vs, h => by simp [mapF] at h; subst h; simp
  | x :: xs, vs, h => by
    simp only [mapF] at h
    cases h1 : F x with
    | none => simp [h1] at h
    | some v =>
      cases h2 : mapF F xs with
      | none => simp [h1, h2] at h
      | some us =>
        simp [h1, h2] at h
        subst h
        obtain ⟨hl, hr⟩ := mapF_sound hF xs us h2
        refine ⟨by simp at hl; simp [hl], fun j u y hu hy => ?_⟩
        match j, hu, hy with
        | 0, hu, hy => simp at hu hy; subst hu; subst hy; exact hF x v h1
        | j + 1, hu, hy => exact hr j u y (by simpa using hu) (by simpa using hy)

theorem amm_sound {b : Builtin} {vx vy v : AV} {x y : Value} {p : Prop} {ts : Array TypeId} {tt : TypeId} (hx : Rep st w vx x) (hy : Rep st w vy y) (h : amm b vx vy = some (p, v)) :
    (b = .min → ∃ c, (Builtin.min_ ts tt #[x, y]).run P w = .ok c w ∧ Rep st w v c) ∧ (b = .max → ∃ c, (Builtin.max_ ts tt #[x, y]).run P w = .ok c w ∧ Rep st w v c) := by
  unfold amm at h
  split at h
  · rename_i k a
    obtain rfl := hx.int_eq
    split at h
    · rename_i k' c
      obtain rfl := hy.int_eq
      split at h <;> simp only [Option.some.injEq, Prod.mk.injEq, reduceCtorEq] at h
      · obtain ⟨-, rfl⟩ := h
        refine ⟨fun _ => ⟨_, ?_, .int _ _⟩, fun e => (by cases e)⟩
        simp [Builtin.min_, Builtin.min2]
      · obtain ⟨-, rfl⟩ := h
        refine ⟨fun e => (by cases e), fun _ => ⟨_, ?_, .int _ _⟩⟩
        simp [Builtin.max_, Builtin.max2]
    · cases h
  · cases h


theorem cellsOf_rep {v : AV} {x : Value} {vs : List AV} (h : Rep st w v x) (hc : cellsOf v = some vs) :
    x.cells.toList.length = vs.length ∧ ∀ (j : Nat) (u : AV) (y : Value), vs[j]? = some u → x.cells.toList[j]? = some y → Rep st w u y := by
  have one : ∀ (v : AV) (x : Value), Rep st w v x → x.cells = #[x] → x.cells.toList.length = [v].length ∧ ∀ (j : Nat) (u : AV) (y : Value), [v][j]? = some u → x.cells.toList[j]? = some y → Rep st w u y := by
    intro v x h hx
    rw [hx]
    refine ⟨rfl, fun j u y hu hy => ?_⟩
    match j, hu, hy with
    | 0, hu, hy => simp at hu hy; subst hu; subst hy; exact h
    | j + 1, hu, hy => simp at hu
  cases h with
  | agg cells cs hl hr =>
    simp [cellsOf] at hc
    subst hc
    exact ⟨hl, hr⟩
  | vec n el cs hl hr _ => simp [cellsOf] at hc
  | tuple vs xs hl hr => simp [cellsOf] at hc
  | opt => simp [cellsOf] at hc
  | any => simp [cellsOf] at hc
  | conc => simp [cellsOf] at hc
  | bool b => simp [cellsOf] at hc; subst hc; exact one _ _ (.bool b) rfl
  | int k n => simp [cellsOf] at hc; subst hc; exact one _ _ (.int k n) rfl
  | str s => simp [cellsOf] at hc; subst hc; exact one _ _ (.str s) rfl
  | nilptr => simp [cellsOf] at hc; subst hc; exact one _ _ .nilptr rfl
  | ptr b o => simp [cellsOf] at hc; subst hc; exact one _ _ (.ptr b o) rfl
  | rptr cells b o c h1 h2 => simp [cellsOf] at hc; subst hc; exact one _ _ (.rptr cells b o c h1 h2) rfl
  | nils => simp [cellsOf] at hc; subst hc; exact one _ _ .nils rfl
  | slice sz n el o a cap b off c h1 h2 h3 h4 h5 h6 h7 => simp [cellsOf] at hc; subst hc; exact one _ _ (.slice sz n el o a cap b off c h1 h2 h3 h4 h5 h6 h7) rfl
  | mslice b o l c => simp [cellsOf] at hc; subst hc; exact one _ _ (.mslice b o l c) rfl
  | nilFunc => simp [cellsOf] at hc; subst hc; exact one _ _ .nilFunc rfl
  | func fn f c f' c' h1 h2 h3 h4 => simp [cellsOf] at hc; subst hc; exact one _ _ (.func fn f c f' c' h1 h2 h3 h4) rfl
  | nilIface => simp [cellsOf] at hc; subst hc; exact one _ _ .nilIface rfl
  | iface t v x h => simp [cellsOf] at hc; subst hc; exact one _ _ (.iface t v x h) rfl
  | mapv r => simp [cellsOf] at hc; subst hc; exact one _ _ (.mapv r) rfl

theorem length_setAt {α : Type} : ∀ (l : List α) (off : Nat) (vs : List α), (setAt l off vs).length = l.length
  | l, off, [] => rfl
  | l, off, v :: vs => by rw [setAt, length_setAt]; simp

theorem setAt_rep : ∀ (vs : List AV) (xs : List Value) (cells : List AV) (cs : List Value) (off : Nat), xs.length = vs.length → cs.length = cells.length →
    (∀ (j : Nat) (v : AV) (x : Value), vs[j]? = some v → xs[j]? = some x → Rep st w v x) →
    (∀ (j : Nat) (v : AV) (x : Value), cells[j]? = some v → cs[j]? = some x → Rep st w v x) →
    ∀ (j : Nat) (v : AV) (x : Value), (setAt cells off vs)[j]? = some v → (setAt cs off xs)[j]? = some x → Rep st w v x
  | [], xs, cells, cs, off, hl, _, _, hc => by
    have : xs = [] := List.eq_nil_of_length_eq_zero (by simpa using hl)
    subst this
    exact hc
  | v :: vs, x :: xs, cells, cs, off, hl, hl2, hv, hc => by
    refine setAt_rep vs xs (cells.set off v) (cs.set off x) (off + 1) (by simpa using hl) (by simp [hl2]) (fun j u y hu hy => hv (j + 1) u y (by simpa using hu) (by simpa using hy)) ?_
    intro j u y hu hy
    rw [List.getElem?_set] at hu hy
    by_cases e : off = j
    · subst e
      by_cases hlt : off < cells.length
      · rw [if_pos rfl, if_pos hlt] at hu
        rw [if_pos rfl, if_pos (by omega)] at hy
        simp at hu hy
        subst hu; subst hy
        exact hv 0 v x (by simp) (by simp)
      · rw [if_pos rfl, if_neg hlt] at hu
        cases hu
    · rw [if_neg e] at hu hy
      exact hc j u y hu hy
  | v :: vs, [], cells, cs, off, hl, _, _, _ => by simp at hl

theorem foldl_setAt : ∀ (l : List Value) (k off : Nat) (cs : List Value), (l.zipIdx k).foldl (fun (cs : Array Value) (p : Value × Nat) => cs.setIfInBounds (off + p.2) p.1) ⟨cs⟩ = ⟨setAt cs (off + k) l⟩
  | [], k, off, cs => by simp [setAt]
  | x :: l, k, off, cs => by
    simp only [List.zipIdx_cons, List.foldl_cons, setAt]
    have : (Array.mk cs).setIfInBounds (off + k) x = ⟨cs.set (off + k) x⟩ := by simp
    rw [this, foldl_setAt l (k + 1) off]
    rfl

theorem abuild_sound {fs : List (Nat × TypeId)} {place : Nat → Option (Nat × Nat)} (hpl : ∀ f off ft i, fs[f]? = some (off, ft) → ty ft = some i → place f = some (off, i.size)) :
    ∀ (ps : List (Nat × AV)) (xs : List (Nat × Value)) (cells cells' : List AV) (cs : List Value), abuild fs ty cells ps = some cells' → cs.length = cells.length →
    (∀ (j : Nat) (v : AV) (x : Value), cells[j]? = some v → cs[j]? = some x → Rep st w v x) →
    xs.length = ps.length → (∀ (j : Nat) p x, ps[j]? = some p → xs[j]? = some x → p.1 = x.1 ∧ Rep st w p.2 x.2) →
    ∃ cs', Instr.fill place ⟨cs⟩ xs = some ⟨cs'⟩ ∧ cs'.length = cells'.length ∧ ∀ (j : Nat) (v : AV) (x : Value), cells'[j]? = some v → cs'[j]? = some x → Rep st w v x
  | [], xs, cells, cells', cs, h, hl, hc, hxl, _ => by
    have : xs = [] := List.eq_nil_of_length_eq_zero (by simpa using hxl)
    subst this
    simp [abuild] at h
    subst h
    exact ⟨cs, rfl, hl, hc⟩
  | (f, v) :: ps, [], cells, cells', cs, h, hl, hc, hxl, _ => by simp at hxl
  | (f, v) :: ps, (f', x) :: xs, cells, cells', cs, h, hl, hc, hxl, hx => by
    obtain ⟨hff, hvx⟩ := hx 0 (f, v) (f', x) (by simp) (by simp)
    simp only at hff hvx
    subst hff
    simp only [abuild] at h
    cases hf : fs[f]? with
    | none => simp [hf] at h
    | some q =>
      obtain ⟨off, ft⟩ := q
      simp only [hf] at h
      cases hft : ty ft with
      | none => simp [hft] at h
      | some i =>
        simp only [hft] at h
        cases hcv : cellsOf v with
        | none => simp [hcv] at h
        | some vs =>
          simp only [hcv] at h
          cases hb : (Nat.beq vs.length i.size && Nat.ble (off + vs.length) cells.length) with
          | false => simp [hb] at h
          | true =>
            simp only [hb, cond_true] at h
            simp only [Bool.and_eq_true] at hb
            have hb1 : vs.length = i.size := Nat.eq_of_beq_eq_true hb.1
            have hb2 := Nat.le_of_ble_eq_true hb.2
            obtain ⟨hcl, hcr⟩ := cellsOf_rep hvx hcv
            have hsz : x.cells.size = i.size := by rw [← hb1, ← hcl]; simp
            obtain ⟨cs', h1, h2, h3⟩ := abuild_sound hpl ps xs (setAt cells off vs) cells' (setAt cs off x.cells.toList) h (by rw [length_setAt, length_setAt, hl])
              (setAt_rep vs x.cells.toList cells cs off hcl hl hcr hc) (by simpa using hxl) (fun j p y hp hy => hx (j + 1) p y (by simpa using hp) (by simpa using hy))
            refine ⟨cs', ?_, h2, h3⟩
            rw [Instr.fill, hpl f off ft i hf hft]
            have hn1 : ¬ (x.cells.size ≠ i.size) := by simpa using hsz
            have hn2 : ¬ (off + x.cells.size > (Array.mk cs).size) := by
              simp only [List.size_toArray, hl, hsz]; omega
            simp only [hn1, hn2, decide_false, Bool.or_self, Bool.false_eq_true, if_false]
            have e : x.cells.zipIdx.foldl (fun (cs : Array Value) (p : Value × Nat) => cs.setIfInBounds (off + p.2) p.1) (Array.mk cs) = ⟨setAt cs off x.cells.toList⟩ := by
              rw [← Array.foldl_toList, Array.toList_zipIdx]
              exact foldl_setAt _ 0 off cs
            have e2 : x.cells.zipIdx.foldl (fun (cs : Array Value) (x : Value × Nat) => match x with | (c, j) => cs.setIfInBounds (off + j) c) (Array.mk cs) = ⟨setAt cs off x.cells.toList⟩ := e
            rw [e2]
            exact h1

theorem mapP_sound {F : Operand → Option AV} {ρ : Operand → Value} (hF : ∀ x v, F x = some v → Rep st w v (ρ x)) : ∀ (xs : List (Nat × Operand)) (vs : List (Nat × AV)), mapP F xs = some vs →
    (xs.map fun p => (p.1, ρ p.2)).length = vs.length ∧ ∀ (j : Nat) v x, vs[j]? = some v → (xs.map fun p => (p.1, ρ p.2))[j]? = some x → v.1 = x.1 ∧ Rep st w v.2 x.2
  | [], vs, h => by simp [mapP] at h; subst h; simp
  | (i, x) :: xs, vs, h => by
    simp only [mapP] at h
    cases h1 : F x with
    | none => simp [h1] at h
    | some v =>
      cases h2 : mapP F xs with
      | none => simp [h1, h2] at h
      | some us =>
        simp [h1, h2] at h
        subst h
        obtain ⟨hl, hr⟩ := mapP_sound hF xs us h2
        refine ⟨by simp at hl; simp [hl], fun j u y hu hy => ?_⟩
        match j, hu, hy with
        | 0, hu, hy => simp at hu hy; subst hu; subst hy; exact ⟨rfl, hF x v h1⟩
        | j + 1, hu, hy => exact hr j u y (by simpa using hu) (by simpa using hy)

theorem run_mapM_list {α β : Type} {f : α → Sem β} {g : α → β} : ∀ (l : List α), (∀ x ∈ l, (f x).run P w = .ok (g x) w) → (l.mapM f).run P w = .ok (l.map g) w
  | [], _ => by simp
  | x :: l, h => by
    simp only [List.mapM_cons, Sem.run_bind, h x (by simp), Result.andThen_ok, run_mapM_list l (fun y hy => h y (by simp [hy])), Sem.run_pure, List.map_cons]

theorem run_build (hty : TyOk P ty) {t : TypeId} {i : TyI} {fs : List (Nat × TypeId)} {z cells : List AV} (hti : ty t = some i) (hk : i.k = .struct fs) (hz : i.zero = .agg z)
    {ps : List (Nat × AV)} {xs : List (Nat × Value)} (hall : (fs.all fun q => (ty q.2).isSome) = true) (hb : abuild fs ty z ps = some cells)
    (hxl : xs.length = ps.length) (hx : ∀ (j : Nat) p x, ps[j]? = some p → xs[j]? = some x → p.1 = x.1 ∧ Rep st w p.2 x.2) :
    ∃ c, (Instr.build t ⟨xs⟩).run P w = .ok c w ∧ Rep st w (.agg cells) c := by
  obtain ⟨⟨d, hd, hkf⟩, inf, zv, hinf, hsz, hby, hzz, hzs, hzr⟩ := hty t i hti
  rw [hk] at hkf
  obtain ⟨a, rfl, ha⟩ := hkf
  have hzr' := hzr.1 st w
  rw [hz] at hzr'
  cases hzr' with
  | agg _ zc hzl hzc =>
    have hinfo : ∀ f ∈ a.toList, ∃ fi finf, ty f.type = some fi ∧ P.info? f.type = some finf ∧ finf.size = fi.size := by
      intro f hf
      have hm : (f.offset, f.type) ∈ fs := by rw [← ha]; exact List.mem_map.2 ⟨f, hf, rfl⟩
      have := List.all_eq_true.1 hall _ hm
      cases hq : ty f.type with
      | none => simp [hq] at this
      | some fi =>
        obtain ⟨-, finf, _, h1, h2, -⟩ := hty _ _ hq
        exact ⟨fi, finf, rfl, h1, h2⟩
    have hmap : (a.toList.mapM fun f => (do pure (f.offset, ← sizeOf f.type) : Sem (Nat × Nat))).run P w = .ok (a.toList.map fun f => (f.offset, P.cellsOf f.type)) w := by
      refine run_mapM_list _ fun f hf => ?_
      obtain ⟨fi, finf, _, h1, h2⟩ := hinfo f hf
      simp [run_sizeOf h1, Program.cellsOf, h1]
    have hmapA : (a.mapM fun f => (do pure (f.offset, ← sizeOf f.type) : Sem (Nat × Nat))).run P w = .ok (a.toList.map fun f => (f.offset, P.cellsOf f.type)).toArray w := by
      rw [Array.mapM_eq_mapM_toList, Sem.run_map, hmap]
      rfl
    have hpl : ∀ (f off : Nat) (ft : TypeId) (i : TyI), fs[f]? = some (off, ft) → ty ft = some i → ((a.toList.map fun f => (f.offset, P.cellsOf f.type)).toArray)[f]? = some (off, i.size) := by
      intro f off ft i hf hi
      rw [← ha] at hf
      simp only [List.getElem?_map, Array.getElem?_toList] at hf
      cases hq : a[f]? with
      | none => simp [hq] at hf
      | some fl =>
        simp [hq] at hf
        obtain ⟨rfl, rfl⟩ := hf
        obtain ⟨-, finf, _, h1, h2, -⟩ := hty _ _ hi
        simp [hq, Program.cellsOf, h1, h2]
    obtain ⟨cs', h1, h2, h3⟩ := abuild_sound (place := fun k => ((a.toList.map fun f => (f.offset, P.cellsOf f.type)).toArray)[k]?) hpl ps xs z cells zc hb hzl hzc hxl hx
    refine ⟨.agg ⟨cs'⟩, ?_, .agg cells cs' h2 h3⟩
    unfold Instr.build
    have hzv : (zeroValue t).run P w = .ok (.agg ⟨zc⟩) w := by rw [run_zeroValue hinf hzz]
    rw [Sem.run_bind, hzv, Result.andThen_ok, Sem.run_bind, run_underlying hd, Result.andThen_ok]
    simp only [Sem.run_bind]
    rw [hmapA, Result.andThen_ok]
    have h1' : Instr.fill (fun k => ((a.toList.map fun f => (f.offset, P.cellsOf f.type)).toArray)[k]?) (Value.agg ⟨zc⟩).cells xs = some ⟨cs'⟩ := h1
    simp only [h1']
    rfl


theorem just_some {x : Option AV} {p : Prop} {v : AV} (h : just x = some (p, v)) : x = some v := by
  unfold just at h
  split at h
  · simp at h; rw [h.2]
  · cases h

theorem optF_sound {F : Operand → Option AV} {ρ : Operand → Value} (hF : ∀ x v, F x = some v → Rep st w v (ρ x)) {x : Option Operand} {v : Option AV} (h : optF F x = some v) : optRep st w v (x.map ρ) := by
  cases x with
  | none => simp [optF] at h; subst h; trivial
  | some x =>
    simp only [optF] at h
    cases h1 : F x with
    | none => simp [h1] at h
    | some u => simp [h1] at h; subst h; exact hF x u h1

theorem aeval_sound (hty : TyOk P ty) {F : Operand → Option AV} {ρ : Operand → Value} (hF : ∀ x v, F x = some v → Rep st w v (ρ x)) {o : Oper} {p : Prop} {v : AV}
    (h : aeval ty F o.op = some (p, v)) (hp : p) : ∃ c, (execOp ρ o).run P w = .ok (.value c) w ∧ Rep st w v c := by
  obtain ⟨dst, op, type, pos, after, guard⟩ := o
  simp only at h
  unfold aeval at h
  split at h
  -- move, assign
  · exact ⟨_, rfl, hF _ _ (just_some h)⟩
  · exact ⟨_, rfl, hF _ _ (just_some h)⟩
  -- pick
  · rename_i c a b
    split at h
    · rename_i hc
      have := (hF _ _ hc).bool_eq
      refine ⟨ρ a, ?_, hF _ _ (just_some h)⟩
      simp [execOp, this, asBool]
    · rename_i hc
      have := (hF _ _ hc).bool_eq
      refine ⟨ρ b, ?_, hF _ _ (just_some h)⟩
      simp [execOp, this, asBool]
    · cases h
  -- binOp
  · rename_i op t x y yt
    cases hx : F x with
    | none => simp [hx] at h
    | some vx =>
      cases hy : F y with
      | none => simp [hx, hy] at h
      | some vy =>
        simp only [hx, hy] at h
        cases ht : ty t with
        | none => simp [ht] at h
        | some i =>
          simp only [ht] at h
          have fin : (∃ c, (binOp op t (ρ x) (ρ y)).run P w = .ok c w ∧ Rep st w v c) ∧ plainPair (ρ x) (ρ y) = true := by
            obtain ⟨⟨d, hd, hk⟩, -⟩ := hty t i ht
            split at h
            · rename_i hik
              rw [hik] at hk
              obtain rfl : d = .bool := hk
              exact abool_sound hd (hF _ _ hx) (hF _ _ hy) h
            · exact abin_sound (hF _ _ hx) (hF _ _ hy) h hp
            · exact abin_sound (hF _ _ hx) (hF _ _ hy) h hp
            · cases h
          obtain ⟨⟨c, h1, h2⟩, h3⟩ := fin
          refine ⟨c, ?_, h2⟩
          simp only [execOp, Sem.run_bind, run_eqGuard_plain h3, Result.andThen_ok, h1]
          rfl
  -- unOp
  · rename_i op t x
    cases hx : F x with
    | none => simp [hx] at h
    | some vx =>
      simp only [hx] at h
      obtain ⟨c, h1, h2⟩ := aun_sound (P := P) (hF _ _ hx) h hp
      exact ⟨c, exec_v h1, h2⟩
  -- convert
  · rename_i s d x
    cases hx : F x with
    | none => simp [hx] at h
    | some vx =>
      simp only [hx] at h
      cases hs : ty s with
      | none => simp [hs] at h
      | some is =>
        cases hd : ty d with
        | none => simp [hs, hd] at h
        | some id =>
          simp only [hs, hd] at h
          obtain ⟨c, h1, h2⟩ := aconv_sound hty hs hd (hF _ _ hx) h
          exact ⟨c, exec_v h1, h2⟩
  -- fieldAddr
  · rename_i s x f
    cases hx : F x with
    | none => simp [hx] at h
    | some vx =>
      simp only [hx] at h
      cases hs : ty s with
      | none => simp [hs] at h
      | some i =>
        simp only [hs] at h
        split at h
        · rename_i hk
          obtain ⟨c, h1, h2⟩ := afaddr_sound hty hs hk (hF _ _ hx) h
          exact ⟨c, exec_v h1, h2⟩
        · cases h
  -- field
  · rename_i s x f
    cases hx : F x with
    | none => simp [hx] at h
    | some vx =>
      simp only [hx] at h
      cases hs : ty s with
      | none => simp [hs] at h
      | some i =>
        simp only [hs] at h
        split at h
        · rename_i hk
          obtain ⟨c, h1, h2⟩ := afield_sound hty hs hk (hF _ _ hx) h
          exact ⟨c, exec_v h1, h2⟩
        · cases h
  -- indexAddr
  · rename_i t x ix
    cases hx : F x with
    | none => simp [hx] at h
    | some vx =>
      cases hix : F ix with
      | none => simp [hx, hix] at h
      | some vi =>
        simp only [hx, hix] at h
        cases ht : ty t with
        | none => simp [ht] at h
        | some i =>
          simp only [ht] at h
          obtain ⟨c, h1, h2⟩ := aidxaddr_sound hty ht (hF _ _ hx) (hF _ _ hix) h hp
          exact ⟨c, exec_v h1, h2⟩
  -- index
  · rename_i t x ix
    cases hx : F x with
    | none => simp [hx] at h
    | some vx =>
      cases hix : F ix with
      | none => simp [hx, hix] at h
      | some vi =>
        simp only [hx, hix] at h
        cases ht : ty t with
        | none => simp [ht] at h
        | some i =>
          simp only [ht] at h
          obtain ⟨c, h1, h2⟩ := aindex_sound hty ht (hF _ _ hx) (hF _ _ hix) h hp
          exact ⟨c, exec_v h1, h2⟩
  -- load
  · rename_i t a
    split at h
    · rename_i cells hx
      cases ht : ty t with
      | none => simp [ht] at h
      | some i =>
        simp only [ht] at h
        obtain ⟨c, h1, h2⟩ := rptr_load_sound (P := P) hty ht (hF _ _ hx) (just_some h)
        exact ⟨c, exec_v h1, h2⟩
    · cases h
  -- slice
  · rename_i t x lo hi
    cases hx : F x with
    | none => simp [hx] at h
    | some vx =>
      simp only [hx] at h
      cases hlo : optF F lo with
      | none => simp [hlo] at h
      | some vlo =>
        simp only [hlo] at h
        cases hhi : optF F hi with
        | none => simp [hhi] at h
        | some vhi =>
          simp only [hhi] at h
          cases ht : ty t with
          | none => simp [ht] at h
          | some i =>
            simp only [ht] at h
            obtain ⟨c, h1, h2⟩ := aslice_sound hty ht (hF _ _ hx) (optF_sound hF hlo) (optF_sound hF hhi) h hp
            exact ⟨c, exec_v h1, h2⟩
  -- build
  · rename_i t ps
    cases ht : ty t with
    | none => simp [ht] at h
    | some i =>
      simp only [ht] at h
      split at h
      · rename_i fs hk
        split at h
        · rename_i z hz
          cases hm : mapP F ps.toList with
          | none => simp [hm] at h
          | some vs =>
            simp only [hm] at h
            cases hb : abuild fs ty z vs with
            | none => simp [hb] at h
            | some cells =>
              simp only [hb] at h
              cases hall : (fs.all fun q => (ty q.2).isSome) with
              | false => simp [hall] at h
              | true =>
                simp [hall] at h
                obtain ⟨-, rfl⟩ := h
                obtain ⟨hl, hr⟩ := mapP_sound hF _ _ hm
                obtain ⟨c, h1, h2⟩ := run_build hty ht hk hz hall hb hl hr
                refine ⟨c, ?_, h2⟩
                have e : (ps.map fun (x : Nat × Operand) => (x.1, ρ x.2)) = ⟨ps.toList.map fun p => (p.1, ρ p.2)⟩ := by
                  apply Array.ext'
                  simp
                show ((do pure (.value (← Instr.build t (ps.map fun (x : Nat × Operand) => (x.1, ρ x.2))))) : Sem Next).run P w = _
                rw [e]
                exact exec_v h1
        · cases h
      · cases h
  -- makeFunc
  · rename_i fn first captured
    cases hm : mapF F first.toList with
    | none => simp [hm] at h
    | some f =>
      simp only [hm] at h
      cases hm2 : mapF F captured.toList with
      | none => simp [hm2] at h
      | some c =>
        simp [hm2] at h
        obtain ⟨-, rfl⟩ := h
        obtain ⟨hl, hr⟩ := mapF_sound hF _ _ hm
        obtain ⟨hl2, hr2⟩ := mapF_sound hF _ _ hm2
        refine ⟨.func fn (first.map ρ) (captured.map ρ), rfl, ?_⟩
        have := Rep.func (st := st) (w := w) fn f c _ _ hl hl2 hr hr2
        have e1 : first.map ρ = ⟨first.toList.map ρ⟩ := by apply Array.ext'; simp
        have e2 : captured.map ρ = ⟨captured.toList.map ρ⟩ := by apply Array.ext'; simp
        rw [e1, e2]
        exact this
  -- makeInterface
  · rename_i t x
    cases hx : F x with
    | none => simp [hx] at h
    | some vx =>
      simp only [hx] at h
      cases ht : ty t with
      | none => simp [ht] at h
      | some i =>
        simp only [ht] at h
        obtain ⟨⟨d, hd, hk⟩, -⟩ := hty t i ht
        have hfin : v = .iface t vx ∧ P.concrete t = true := by
          unfold Program.concrete
          rw [hd]
          cases hik : i.k <;> rw [hik] at h hk <;> simp only [Option.some.injEq, Prod.mk.injEq, reduceCtorEq] at h <;> simp only [TyK.fits] at hk
          case func => obtain ⟨a, b, c, rfl⟩ := hk; exact ⟨h.2.symm, rfl⟩
          case struct => obtain ⟨a, rfl, _⟩ := hk; exact ⟨h.2.symm, rfl⟩
          all_goals (subst hk; exact ⟨h.2.symm, rfl⟩)
        obtain ⟨rfl, hcon⟩ := hfin
        exact ⟨.iface t (ρ x), exec_v (run_makeInterface w t (ρ x) hcon), .iface _ _ _ (hF _ _ hx)⟩
  -- extract
  · rename_i x ix
    split at h
    · rename_i vs hx
      have hr := hF _ _ hx
      generalize hρ : ρ x = c at hr
      cases hr with
      | tuple _ xs hl hr =>
        have hv := just_some h
        have hlt : ix < xs.length := by
          have := (List.getElem?_eq_some_iff.1 hv).1
          omega
        have hxs : xs[ix]? = some xs[ix] := by simp [hlt]
        refine ⟨xs[ix], ?_, hr _ _ _ hv hxs⟩
        apply exec_v
        simp [Instr.extract, hρ, hlt]
    · cases h
  -- nilCheck
  · rename_i x
    split at h
    · rename_i b o hx
      simp at h
      obtain ⟨-, rfl⟩ := h
      have hr := hF _ _ hx
      generalize hρ : ρ x = c at hr
      cases hr
      exact ⟨_, by simp [execOp, hρ], .ptr _ _⟩
    · rename_i cs hx
      simp at h
      obtain ⟨-, rfl⟩ := h
      have hr := hF _ _ hx
      generalize hρ : ρ x = c at hr
      have hr' := hr
      cases hr with
      | rptr _ b o c h1 h2 => exact ⟨_, by simp [execOp, hρ], hr'⟩
    · rename_i f a cc hx
      simp at h
      obtain ⟨-, rfl⟩ := h
      have hr := hF _ _ hx
      generalize hρ : ρ x = c at hr
      have hr' := hr
      cases hr with
      | func _ _ _ f' c' h1 h2 h3 h4 => exact ⟨_, by simp [execOp, hρ], hr'⟩
    · cases h
  -- builtins
  · rename_i b args ats
    split at h
    · split at h
      · rename_i x hargs
        cases hx : F x with
        | none => simp [hx] at h
        | some vx =>
          simp only [hx] at h
          split at h
          · rename_i t hats
            cases ht : ty t with
            | none => simp [ht] at h
            | some i =>
              simp only [ht] at h
              have hA : args = #[x] := by apply Array.ext'; simpa using hargs
              have hB : ats = #[t] := by apply Array.ext'; simpa using hats
              subst hA
              subst hB
              split at h
              · rename_i hk
                obtain ⟨c, h1, h2⟩ := alenS_sound (tt := type) hty ht hk (hF _ _ hx) h
                refine ⟨c, ?_, h2⟩
                simp [execOp, resolve, invoke, builtin, h1]
              · rename_i e hk
                obtain ⟨c, h1, h2⟩ := alen_sound (tt := type) hty ht hk (hF _ _ hx) h
                refine ⟨c, ?_, h2⟩
                simp [execOp, resolve, invoke, builtin, h1]
              · cases h
          · cases h
      · cases h
    · split at h
      · rename_i x y hargs
        cases hx : F x with
        | none => simp [hx] at h
        | some vx =>
          cases hy : F y with
          | none => simp [hx, hy] at h
          | some vy =>
            simp only [hx, hy] at h
            have hA : args = #[x, y] := by apply Array.ext'; simpa using hargs
            subst hA
            obtain ⟨c, h1, h2⟩ := (amm_sound (P := P) (ts := ats) (tt := type) (hF _ _ hx) (hF _ _ hy) h).1 rfl
            refine ⟨c, ?_, h2⟩
            simp [execOp, resolve, invoke, builtin, h1]
      · cases h
    · split at h
      · rename_i x y hargs
        cases hx : F x with
        | none => simp [hx] at h
        | some vx =>
          cases hy : F y with
          | none => simp [hx, hy] at h
          | some vy =>
            simp only [hx, hy] at h
            have hA : args = #[x, y] := by apply Array.ext'; simpa using hargs
            subst hA
            obtain ⟨c, h1, h2⟩ := (amm_sound (P := P) (ts := ats) (tt := type) (hF _ _ hx) (hF _ _ hy) h).2 rfl
            refine ⟨c, ?_, h2⟩
            simp [execOp, resolve, invoke, builtin, h1]
      · cases h
    · cases h
  · cases h

end
end Go.Ab
