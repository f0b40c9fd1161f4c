/-
  Calls of a function value under a name (YCall), their frame; iterators by a contract (SeqC) and the range over one; a string's iterator; contracts of the library taken over.
-/
import Derived.Test.YtgbmanmcioailaaDoorAb15
import Derived.Test.YtgbmanmcioailaaDoorAb14
import Derived.Below
namespace Go.Ab
open Go.RowKit

section
variable {P : Program} {N : Nat} {ty : TypeId → Option TyI} {T : Tmps} {H : AHeap} {Q : APost} {o : Oper} {F : Operand → Option AV}

theorem AHard.frame {Hc G : AHeap} {K : ARes → AHeap → Prop} (h : AHard P o F Hc K) (hp : H.Perm (Hc ++ G)) : AHard P o F H fun r H' => ∃ Hc', H' = Hc' ++ G ∧ K r Hc' := by
  intro E st w a r next Q hc hF ht hr hpn
  have hc1 := hc.perm hp
  refine h (Env0.of w st Hc) st w a r next Q hc1.drop.start hF (ht.sub fun _ ⟨e, he, hk⟩ => ⟨e, hp.mem_iff.2 (List.mem_append.2 (.inl he)), hk⟩) ?_ ?_
  · intro st' w' v c H' h1 h2 h3 h4
    obtain ⟨k1, _⟩ := hc1.call h1
    exact hr st' w' v c _ k1 h2 h3 ⟨H', rfl, h4⟩
  · intro st' w' v c H' h1 h2 h3 h4
    obtain ⟨k1, _⟩ := hc1.call h1
    exact hpn st' w' v c _ k1 h2 h3 ⟨H', rfl, h4⟩

/-- What a call of the function value Y does. -/
def YCall (P : Program) (Y : AV) (vs : List AV) (H : AHeap) (K : ARes → AHeap → Prop) : Prop :=
  ∀ (o : Oper) (F : Operand → Option AV) (cf : Operand) (args : Array Operand) (ats : Array TypeId), o.op = .call { callee := .value cf, args := args, argTypes := ats } → F cf = some Y → mapF F args.toList = some vs → AHard P o F H K

theorem YCall.mono {Y : AV} {vs : List AV} {K K' : ARes → AHeap → Prop} (h : YCall P Y vs H K) (hk : ∀ r H', K r H' → K' r H') : YCall P Y vs H K' :=
  fun o F cf args ats h1 h2 h3 => (h o F cf args ats h1 h2 h3).mono hk

theorem YCall.frame {Y : AV} {vs : List AV} {Hc G : AHeap} {K : ARes → AHeap → Prop} (h : YCall P Y vs Hc K) (hp : H.Perm (Hc ++ G)) : YCall P Y vs H fun r H' => ∃ Hc', H' = Hc' ++ G ∧ K r Hc' :=
  fun o F cf args ats h1 h2 h3 => (h o F cf args ats h1 h2 h3).frame hp

theorem ycall_func {f : FuncId} {first captured vs : List AV} {K : ARes → AHeap → Prop} (h : ACalls P f (first ++ vs ++ captured) H K) : YCall P (.func (.func f) first captured) vs H K :=
  fun _ _ _ _ _ h1 h2 h3 => (hard_call (G := []) h1 h2 h3 (by simp) h).mono fun r H' ⟨Hc', e, hk⟩ => by
    rw [List.append_nil] at e
    exact e ▸ hk

theorem ACalls.perm {f : FuncId} {vs : List AV} {H' : AHeap} {K : ARes → AHeap → Prop} (h : ACalls P f vs H' K) (p : H.Perm H') : ACalls P f vs H K := by
  refine ⟨h.1, fun st w xs hc hx hg => ?_⟩
  have hc1 : Conc (Env0.of w st H) st H' w := hc.perm p
  refine (h.2 st w xs hc1.start hx (hg.sub fun _ ⟨e, he, hk⟩ => ⟨e, p.mem_iff.2 he, hk⟩)).mono fun e w' hp => ?_
  cases e with
  | outgrown => exact hp.elim
  | returned v => obtain ⟨st', r, H2, h1, h2, h3⟩ := hp; exact ⟨st', r, H2, hc1.trans h1, h2, h3⟩
  | panicked v => obtain ⟨st', r, H2, h1, h2, h3⟩ := hp; exact ⟨st', r, H2, hc1.trans h1, h2, h3⟩

/-- An iterator: whatever yield does with what comes, round by round. -/
def SeqC (P : Program) (f : FuncId) (first captured : List AV) (H0 : AHeap) (xs : List (List AV)) (H1 : AHeap → Prop) : Prop :=
  ∀ (yf : Fn) (y1 y2 : List AV) (I : Nat → AHeap → Prop) (Z : AHeap → Prop) (Hs : AHeap), I 0 Hs →
    (∀ k Hk vs, xs[k]? = some vs → I k Hk → YCall P (.func yf y1 y2) vs Hk (fun r H' => (r = .ret (.bool true) ∧ I (k + 1) H') ∨ (r = .ret (.bool false) ∧ Z H'))) →
    ACalls P f (first ++ [.func yf y1 y2] ++ captured) (H0 ++ Hs) (fun r H' => r = .ret (.tuple []) ∧ ∃ Hend Hs', H' = Hend ++ Hs' ∧ H1 Hend ∧ (I xs.length Hs' ∨ Z Hs'))

/-- What a round's body must achieve, the k-th: it goes on; or it leaves, and what follows holds behind whatever the iterator leaves. -/
def roundQ (H1 : AHeap → Prop) (T : Tmps) (Q : APost) (J : AHeap → Prop) : APost
  | .normal, _, H => J H
  | .ret, _, H => ∀ He, H1 He → Q .ret T (He ++ H)
  | .exit id, _, H => ∀ He, H1 He → Q (.exit id) T (He ++ H)
  | .goto t, _, H => ∀ He, H1 He → Q (.goto t) T (He ++ H)
  | .panic _, _, _ => False

theorem awp_rangeSeq {g : Operand} {ps : Array Tmp} {assign body : Code} {f : FuncId} {first captured : List AV} {H0 Hb : AHeap} {xs : List (List AV)} {H1 : AHeap → Prop} (hseq : SeqC P f first captured H0 xs H1)
    (hg : opv T g = some (.func (.func f) first captured)) (hN : ∀ p ∈ ps, p < N) (hlen : ∀ vs ∈ xs, vs.length = ps.size) (hp : H.Perm (H0 ++ Hb)) (I : Nat → AHeap → Prop) (hI : I 0 Hb)
    (hbody : ∀ k Hk vs, xs[k]? = some vs → I k Hk → AWP P N assign (putPs ps.toList vs T) Hk (fun x T1 H2 => x = .normal ∧ AWP P N body T1 H2 (roundQ H1 T Q (I (k + 1)))))
    (hfin : ∀ He H', H1 He → I xs.length H' → Q .normal T (He ++ H')) : AWP P N (.rangeFunc g ps assign body) T H Q := by
  refine awp_rangeFunc (Hc := H0 ++ Hb) (G := []) hg (by simpa using hp) fun l => ?_
  have := hseq (.yield l) [] [] (fun k H => ∃ Hd, H = .loop l N T ps assign body :: Hd ∧ I k Hd) (fun H => ∃ c Hd, H = .done l c :: Hd ∧ ∀ He, H1 He → AWP P N c T (He ++ Hd) Q) (.loop l N T ps assign body :: Hb) ⟨Hb, rfl, hI⟩ ?_
  · refine (this.perm ?_).mono ?_
    · exact (List.perm_middle (l₁ := H0) (l₂ := Hb) (a := Ent.loop l N T ps assign body)).symm
    · rintro r H' ⟨rfl, He, Hs', rfl, h1, ⟨Hd, rfl, h2⟩ | ⟨c, Hd, rfl, h2⟩⟩
      · exact .inl ⟨He ++ Hd, List.perm_middle, by simpa using hfin He Hd h1 h2⟩
      · exact .inr ⟨c, He ++ Hd, List.perm_middle, by simpa using h2 He h1⟩
  · rintro k Hk vs hx ⟨Hd, rfl, hI'⟩
    intro o F cf args ats ho hf hm
    refine hard_yield ho hf hm (hlen vs (List.mem_of_getElem? hx)) hN (List.Perm.refl _) (awp_mono (hbody k Hd vs hx hI') ?_)
    rintro x T1 H2 ⟨rfl, hb⟩
    refine ⟨rfl, awp_mono hb ?_⟩
    intro x T3 H3 hq
    cases x with
    | normal => exact .inl ⟨rfl, H3, rfl, hq⟩
    | ret => exact .inr ⟨rfl, .ret, H3, rfl, fun He h1 => awp_ret (hq He h1)⟩
    | exit id => exact .inr ⟨rfl, .exit id, H3, rfl, fun He h1 => awp_exit (hq He h1)⟩
    | goto t => exact .inr ⟨rfl, .goto t, H3, rfl, fun He h1 => awp_goto (hq He h1)⟩
    | panic v => exact hq.elim

/-! The step that calls a function value. -/
variable {l0 : List Oper} {LD : LDs} {W : Bool} {l : List (Nat × Oper)} {n : Nat}

theorem TR.ycall {cf : Operand} {args : Array Operand} {ats : Array TypeId} {vs : List AV} {Y : AV} (G : AHeap) {Hc : AHeap} {K : ARes → AHeap → Prop} (h : YCall P Y vs Hc K) (hp : H = G ++ Hc)
    (k : ∀ v H', K (.ret v) H' → TR P N ty l0 LD W Q l (putO o.dst v T) (G ++ H')) (kp : ∀ v H', K (.panic v) H' → Q (.panic v) T (G ++ H')) (hkb : ∀ v H', K (.ret v) H' → KeepB LD n H (G ++ H') := by intro _ _ _ _ _ _ h _; cases h) (hsc : LD.sc n = false := by exact rfl) (hg : o.guard = none := by exact rfl)
    (ho : o.op = .call { callee := .value cf, args := args, argTypes := ats } := by exact rfl) (hN : dstOk o.dst N = true := by exact rfl) (hon : optN True T (tmpsOf o.op) := by exact True.intro)
    (hf : opvL (tmpsOf o.op) T cf = some Y := by exact rfl) (hm : mapF (opvL (tmpsOf o.op) T) args.toList = some vs := by exact rfl) : TR P N ty l0 LD W Q ((n, o) :: l) T H := by
  refine TR.hard (fun r H' => ∃ Hc', H' = G ++ Hc' ∧ K r Hc') (.inr (by rw [ho]; rfl)) hg hN hon ?_ ?_ ?_ (fun _ v H' ⟨Hc', e, hK⟩ => e ▸ hkb v Hc' hK) (fun _ => hsc)
  · intro E st w a r next Q hc hF hout hr hpn
    refine (h o _ cf args ats ho hf hm).frame (G := G) (by rw [hp]; exact List.perm_append_comm) E st w a r next Q hc hF hout ?_ ?_
    · rintro st' w' u c H' h1 h2 h3 ⟨Hc', rfl, h4⟩
      exact hr st' w' u c _ (h1.perm List.perm_append_comm) h2 h3 ⟨Hc', rfl, h4⟩
    · rintro st' w' u c H' h1 h2 h3 ⟨Hc', rfl, h4⟩
      exact hpn st' w' u c _ (h1.perm List.perm_append_comm) h2 h3 ⟨Hc', rfl, h4⟩
  · rintro v H' ⟨Hc', rfl, e⟩
    exact k v Hc' e
  · rintro v H' ⟨Hc', rfl, e⟩
    exact kp v Hc' e

/-! Contracts of the library. -/

theorem below_conc {E : Env0} {st : Stab} {w w' : World} (h : Conc E st H w) (b : Below w.heap.size w w') : Conc E st H w' ∧ Keeps st st w w' := by
  have := Conc.grow (Hn := []) (w' := w') h b.os b.tape b.output b.size (fun k hk => b.block k hk) (fun _ _ h => h) (fun b o hs => .inl hs) (by simp) (fun k hk => by obtain ⟨e, he, _⟩ := hk; cases he) .nil
  simpa using this

/-- A contract of the library: one result that leads to no memory; what was there stays. -/
theorem pcalls_of_below {f : FuncId} {vs : List AV} {u : AV} (hcb : Callable P f)
    (h : ∀ st w xs, RepL st w vs xs → Gl [] w → Calls P f ⟨xs⟩ w fun e w' => ∃ c, e = .returned c ∧ (∀ st' w2, Rep st' w2 u c) ∧ Below w.heap.size w w') : PCalls P f vs u := by
  refine ⟨hcb, fun st w xs hc hx hg => (h st w xs hx hg).mono ?_⟩
  rintro e w' ⟨c, rfl, hr, hb⟩
  exact ⟨st, .ret u, [], (below_conc hc hb).1, hr st w', rfl, rfl⟩

theorem below_of_eq {w w' : World} (h : w' = w) : Below w.heap.size w w' := by subst h; exact Below.refl _ _

/-! Functions without a body. -/

theorem hard_extern {cf : Operand} {args : Array Operand} {ats : Array TypeId} {f : FuncId} {vs : List AV} {u : AV} (ho : o.op = .call { callee := .value cf, args := args, argTypes := ats })
    (hf : F cf = some (.func (.func f) [] [])) (hm : mapF F args.toList = some vs) (h : ∀ st w xs, RepL st w vs xs → ∃ c, (callFunc f ⟨xs⟩).run P w = .ok (.value c) w ∧ Rep st w u c) :
    AHard P o F H fun r H' => r = .ret u ∧ H' = H := by
  intro E st w a r next Q hc hF _ hr _
  have hrep := hF cf _ hf
  obtain ⟨hl, hmr⟩ := mapF_sound hF _ _ hm
  generalize hcv : a.eval cf = cv at hrep
  cases hrep with
  | func _ _ _ f' c' hfl hcl _ _ =>
  obtain rfl : f' = [] := List.eq_nil_of_length_eq_zero hfl
  obtain rfl : c' = [] := List.eq_nil_of_length_eq_zero hcl
  obtain ⟨c, h1, h2⟩ := h st w (args.toList.map a.eval) ⟨hl, hmr⟩
  have hargs : (#[] ++ args.map a.eval ++ #[] : Array Value) = ⟨args.toList.map a.eval⟩ := by
    apply Array.ext'
    simp
  have hrun : (execOp a.eval o).run P w = .ok (.value c) w := by
    simp only [execOp, ho, resolve, hcv, Deferred.ofValue, Sem.run_bind, Sem.run_pure, Result.andThen_ok, invoke, hargs, h1]
  exact upon_value_ok hrun (hr st w u c H hc (Keeps.refl _ _) h2 ⟨rfl, rfl⟩)

/-! A string's iterator. -/

theorem hard_range {t : TypeId} {x : Operand} {s : List UInt8} {ti : TyI} (hty : TyOk P ty) (ho : o.op = .range t x) (ht : ty t = some ti) (hk : ti.k = .str) (hx : F x = some (.str s)) :
    AHard P o F H fun r H' => ∃ b, r = .ret (.ptr b 0) ∧ H' = .obj b (.stringIter ⟨s.toArray⟩ 0) :: H := by
  intro E st w a r next Q hc hF _ hr _
  have he := (hF x _ hx).str_eq
  obtain ⟨⟨d, hd, hfit⟩, _⟩ := hty t ti ht
  rw [hk] at hfit
  obtain rfl : d = .string := hfit
  have hrun : (execOp a.eval o).run P w = .ok (.value (.pointer (some ⟨w.heap.size, 0, none⟩))) (w.alloc (.stringIter ⟨s.toArray⟩ 0)) := by
    simp [execOp, ho, Instr.range, he, underlying, hd, Sem.run_bind, Result.andThen]
  obtain ⟨c1, k1⟩ := hc.lay (.stringIter ⟨s.toArray⟩ 0)
  have hno : ¬ AHeap.owns H w.heap.size := fun h => by have := hc.ownlt _ h; omega
  refine upon_value_ok hrun (hr st _ (.ptr w.heap.size 0) _ _ (c1.take (e := .obj w.heap.size (.stringIter ⟨s.toArray⟩ 0)) (l := w.heap.size) (fun k => ⟨fun e => e.symm, fun e => e.symm⟩) (by simp) (.inr hc.size) hno ⟨fun o ho => ?_, World.alloc_heap_new w _, by simp⟩) k1 (.ptr _ _) ⟨_, rfl, rfl⟩)
  have := hc.stlt _ _ ho
  omega

theorem Conc.obj {E : Env0} {st : Stab} {w : World} {b : Nat} {x y : Obj} {G : AHeap} (h : Conc E st (.obj b x :: G) w) (hy : ∀ c t f, y ≠ .cells c t f) : Conc E st (.obj b y :: G) (w.putObj b y) ∧ Keeps st st w (w.putObj b y) := by
  obtain ⟨g1, g2, g3⟩ := h.ents (.obj b x) (by simp)
  have hnl := not_owns_of_sep h (show Ent.owns (.obj b x) b from rfl)
  have hnew := h.ownnew b ⟨_, List.mem_cons_self, rfl⟩
  have hlt := (Array.getElem?_eq_some_iff.1 g2).1
  exact ⟨(h.tail.putObj g2 g3 hy hnew hnl).take (l := b) (fun k => ⟨fun e => e.symm, fun e => e.symm⟩) (by simpa using hlt) hnew hnl ⟨g1, World.putObj_heap_same hlt, hy⟩, Keeps.putObj g2 g3 hy⟩

/-- What a string's iterator tells next. -/
def nextV (s : List UInt8) (i : Nat) : AV := if i < s.length then .tuple [.bool true, .int .i64 i, .int .i32 (Utf8.decode ⟨s.toArray⟩ i).1] else .tuple [.bool false]
def nextI (s : List UInt8) (i : Nat) : Nat := if i < s.length then i + (Utf8.decode ⟨s.toArray⟩ i).2 else i

theorem hard_next {t : TypeId} {x : Operand} {s : List UInt8} {i b : Nat} {G : AHeap} (ho : o.op = .next x true) (_ht : o.type = t) (hx : F x = some (.ptr b 0)) (hp : H.Perm (.obj b (.stringIter ⟨s.toArray⟩ i) :: G)) :
    AHard P o F H fun r H' => r = .ret (nextV s i) ∧ H' = .obj b (.stringIter ⟨s.toArray⟩ (nextI s i)) :: G := by
  intro E st w a r next Q hc hF _ hr _
  have hrep := hF x _ hx
  have hc1 := hc.perm hp
  obtain ⟨g1, g2, g3⟩ := hc1.ents (.obj b (.stringIter ⟨s.toArray⟩ i)) (by simp)
  generalize hcv : a.eval x = cv at hrep
  cases hrep with
  | ptr _ _ =>
  have hsz : (ByteArray.mk s.toArray).size = s.length := by simp [ByteArray.size]
  have hg : (getObj b).run P w = .ok (.stringIter ⟨s.toArray⟩ i) w := by simp [getObj, Sem.run, g2]
  by_cases hi : i < s.length
  · have hrun : (execOp a.eval o).run P w = .ok (.value (.tuple #[.bool true, .int .i64 i, .int .i32 (Utf8.decode ⟨s.toArray⟩ i).1])) (w.putObj b (.stringIter ⟨s.toArray⟩ (i + (Utf8.decode ⟨s.toArray⟩ i).2))) := by
      have hs : (setObj b (.stringIter ⟨s.toArray⟩ (i + (Utf8.decode ⟨s.toArray⟩ i).2))).run P w = .ok () (w.putObj b (.stringIter ⟨s.toArray⟩ (i + (Utf8.decode ⟨s.toArray⟩ i).2))) := by simp [setObj, Sem.run, g2, World.putObj]
      simp [execOp, ho, Instr.next, hcv, Sem.run_bind, hg, Result.andThen, hsz, hi, hs, goInt]
    obtain ⟨c2, k2⟩ := hc1.obj (y := .stringIter ⟨s.toArray⟩ (i + (Utf8.decode ⟨s.toArray⟩ i).2)) (by simp)
    refine upon_value_ok hrun (hr st _ (nextV s i) _ (.obj b (.stringIter ⟨s.toArray⟩ (nextI s i)) :: G) (by rw [nextI, if_pos hi]; exact c2) k2 ?_ ⟨rfl, rfl⟩)
    rw [nextV, if_pos hi]
    exact .tuple _ _ rfl fun j v x hv hx => by
      match j, hv, hx with
      | 0, hv, hx => simp at hv hx; subst hv; subst hx; exact .bool _
      | 1, hv, hx => simp at hv hx; subst hv; subst hx; exact .int _ _
      | 2, hv, hx => simp at hv hx; subst hv; subst hx; exact .int _ _
  · have hrun : (execOp a.eval o).run P w = .ok (.value (.tuple #[.bool false])) w := by
      simp [execOp, ho, Instr.next, hcv, Sem.run_bind, hg, Result.andThen, hsz, hi]
    refine upon_value_ok hrun (hr st _ (nextV s i) _ (.obj b (.stringIter ⟨s.toArray⟩ (nextI s i)) :: G) (by rw [nextI, if_neg hi]; exact hc1) (Keeps.refl _ _) ?_ ⟨rfl, rfl⟩)
    rw [nextV, if_neg hi]
    exact .tuple _ _ rfl fun j v x hv hx => by
      match j, hv, hx with
      | 0, hv, hx => simp at hv hx; subst hv; subst hx; exact .bool _

theorem TR.range (hty : TyOk P ty) {t : TypeId} {x : Operand} {s : List UInt8} {ti : TyI} {d : Nat} (k : ∀ b, TR P N ty l0 LD W Q l ((d, .ptr b 0) :: T) (.obj b (.stringIter ⟨s.toArray⟩ 0) :: H)) (hg : o.guard = none := by exact rfl)
    (ho : o.op = .range t x := by exact rfl) (hd : o.dst = some d := by exact rfl) (ht : ty t = some ti := by exact rfl) (hk : ti.k = .str := by exact rfl) (hN : Nat.ble (d + 1) N = true := by exact rfl) (hon : optN True T (tmpsOf o.op) := by exact True.intro)
    (hx : opvL (tmpsOf o.op) T x = some (.str s) := by exact rfl) : TR P N ty l0 LD W Q ((n, o) :: l) T H := by
  refine TR.hard (fun r H' => ∃ b, r = .ret (.ptr b 0) ∧ H' = .obj b (.stringIter ⟨s.toArray⟩ 0) :: H) (.inr (by rw [ho]; rfl)) hg (by rw [hd]; exact hN) hon (hard_range hty ho ht hk hx) ?_ ?_ (fun h => by rw [ho] at h; cases h) (fun h => by rw [ho] at h; cases h)
  · rintro v H' ⟨b, e, rfl⟩
    cases e
    rw [hd]
    exact k b
  · rintro v H' ⟨b, e, _⟩
    cases e

theorem TR.next {x : Operand} {s : List UInt8} {i b : Nat} {G : AHeap} {d : Nat} (hp : H.Perm (.obj b (.stringIter ⟨s.toArray⟩ i) :: G)) (k : TR P N ty l0 LD W Q l ((d, nextV s i) :: T) (.obj b (.stringIter ⟨s.toArray⟩ (nextI s i)) :: G))
    (hg : o.guard = none := by exact rfl) (ho : o.op = .next x true := by exact rfl) (hd : o.dst = some d := by exact rfl) (hN : Nat.ble (d + 1) N = true := by exact rfl) (hon : optN True T (tmpsOf o.op) := by exact True.intro)
    (hx : opvL (tmpsOf o.op) T x = some (.ptr b 0) := by exact rfl) : TR P N ty l0 LD W Q ((n, o) :: l) T H := by
  refine TR.hard (fun r H' => r = .ret (nextV s i) ∧ H' = .obj b (.stringIter ⟨s.toArray⟩ (nextI s i)) :: G) (.inr (by rw [ho]; rfl)) hg (by rw [hd]; exact hN) hon (hard_next ho rfl hx hp) ?_ ?_ (fun h => by rw [ho] at h; cases h) (fun h => by rw [ho] at h; cases h)
  · rintro v H' ⟨e, rfl⟩
    cases e
    rw [hd]
    exact k
  · rintro v H' ⟨e, _⟩
    cases e

theorem TR.extern {cf : Operand} {args : Array Operand} {ats : Array TypeId} {f : FuncId} {vs : List AV} {u : AV} {d : Nat} (h : ∀ st w xs, RepL st w vs xs → ∃ c, (callFunc f ⟨xs⟩).run P w = .ok (.value c) w ∧ Rep st w u c)
    (k : TR P N ty l0 LD W Q l ((d, u) :: T) H) (hg : o.guard = none := by exact rfl) (ho : o.op = .call { callee := .value cf, args := args, argTypes := ats } := by exact rfl) (hd : o.dst = some d := by exact rfl)
    (hN : Nat.ble (d + 1) N = true := by exact rfl) (hon : optN True T (tmpsOf o.op) := by exact True.intro) (hf : opvL (tmpsOf o.op) T cf = some (.func (.func f) [] []) := by exact rfl)
    (hm : mapF (opvL (tmpsOf o.op) T) args.toList = some vs := by exact rfl) : TR P N ty l0 LD W Q ((n, o) :: l) T H := by
  exact TR.pcl u d hg hd (by rw [hd]; exact hN) hon (by rw [ho]; rfl) (fun H' => hard_extern ho hf hm h) k

end
end Go.Ab
