/-
  The figures' tables: a word's row, all words; an array of two numbers.
-/
import Derived.Test.YtjinaakebjfbiaaGreatDoorFg4
namespace Go.Ab
section
variable {P : Program} {N : Nat} {ty : TypeId → Option TyI} {l0 : List Oper} {LD : LDs} {W : Bool} {Q : APost} {n : Nat} {o : Oper} {l : List (Nat × Oper)} {T : Tmps} {H : AHeap}

theorem run_build2 (hty : TyOk P ty) {t e : TypeId} {i ei : TyI} {z0 z1 : AV} {k : IntKind} {w : World} (hti : ty t = some i) (hk : i.k = .array 2 e) (hz : i.zero = .agg [z0, z1]) (he : ty e = some ei) (hes : ei.size = 1) (a b : Int) :
    (Instr.build t #[(0, .int k a), (1, .int k b)]).run P w = .ok (.agg #[.int k a, .int k b]) w := by
  obtain ⟨⟨d, hd, hkf⟩, inf, zv, hinf, hsz, hby, hzz, hzs, hzr⟩ := hty t i hti
  obtain ⟨-, inf2, _, hinf2, hsz2, -⟩ := hty e ei he
  rw [hk] at hkf
  obtain rfl : d = .array 2 e := hkf
  have hzr' := hzr.1 (fun _ _ => False) w
  rw [hz] at hzr'
  cases hzr' with
  | agg _ cs hl hc =>
  match cs, hl with
  | [c0, c1], _ =>
  unfold Instr.build
  have hzv : (zeroValue t).run P w = .ok (.agg ⟨[c0, c1]⟩) w := by rw [run_zeroValue hinf hzz]
  have hso : (sizeOf e).run P w = .ok 1 w := by rw [run_sizeOf hinf2, hsz2, hes]
  rw [Sem.run_bind, hzv, Result.andThen_ok, Sem.run_bind, run_underlying hd, Result.andThen_ok]
  simp only [Sem.run_bind]
  rw [hso, Result.andThen_ok]
  rfl

/-- An array of two numbers. -/
theorem qarr2 (hty : TyOk P ty) {t e : TypeId} {x y : Operand} {i ei : TyI} {z0 z1 : AV} {k : IntKind} {a b : Int} {d : Nat} (k' : TR P N ty l0 LD W Q l ((d, .agg [.int k a, .int k b]) :: T) H)
    (ho : o.op = .build t #[(0, x), (1, y)] := by exact rfl) (hg : o.guard = none := by exact rfl) (hd : o.dst = some d := by exact rfl) (hN : Nat.ble (d + 1) N = true := by exact rfl)
    (hon : optN True T (tmpsOf o.op) := by exact True.intro) (hti : ty t = some i := by exact rfl) (hk : i.k = .array 2 e := by exact rfl) (hz : i.zero = .agg [z0, z1] := by exact rfl) (he : ty e = some ei := by exact rfl)
    (hes : ei.size = 1 := by exact rfl) (hx : opvL (tmpsOf o.op) T x = some (.int k a) := by exact rfl) (hy : opvL (tmpsOf o.op) T y = some (.int k b) := by exact rfl) : TR P N ty l0 LD W Q ((n, o) :: l) T H := by
  refine TR.sem (.agg [.int k a, .int k b]) d hg hd hN hon (fun st w ρ hF => ?_) k'
  have h1 := (hF x _ hx).int_eq
  have h2 := (hF y _ hy).int_eq
  refine ⟨.agg #[.int k a, .int k b], ?_, .agg _ _ rfl fun j v z hv hz => ?_⟩
  · unfold execOp
    rw [ho]
    have e : (#[(0, x), (1, y)].map fun (p : Nat × Operand) => (p.1, ρ p.2)) = #[(0, .int k a), (1, .int k b)] := by simp [h1, h2]
    show ((do pure (.value (← Instr.build t (#[(0, x), (1, y)].map fun (p : Nat × Operand) => (p.1, ρ p.2))))) : Sem Next).run P w = _
    rw [e]
    exact exec_v (run_build2 hty hti hk hz he hes a b)
  · match j, hv, hz with
    | 0, hv, hz => simp at hv hz; subst hv; subst hz; exact .int _ _
    | 1, hv, hz => simp at hv hz; subst hv; subst hz; exact .int _ _
end
end Go.Ab

namespace Go.Proofs.YtjinaakebjfbiaaGreatDoor
open Go.Ab

def rowV : Option (List (List UInt8)) → AV
  | some l => .tuple [sl txtE 1 l .view, .bool true]
  | none => .tuple [sl txtE 1 [] .view, .bool false]

theorem split_ne (s sep : List UInt8) : 0 < (Lib.split s sep).length := by
  unfold Lib.split
  cases Lib.count s sep with
  | zero => simp [Lib.splitK]
  | succ k =>
    unfold Lib.splitK
    split <;> simp

theorem cbRow : Callable Tryz.prog 46 := fun _ _ => by kernel_rfl
set_option maxHeartbeats 3200000 in
set_option maxRecDepth 100000 in
theorem row_c (t w : List UInt8) (hs : t.length ≤ 1000000) : PCalls Tryz.prog 46 [.str t, .str w] (rowV (rowF t w)) := by
  refine pcalls_of_awp tyok cbRow Tryz.func46 rfl rfl ?_
  ((repeat (first | refine wK ?_ | refine awp_seq_k (fun K hK => ?_) | refine areg_text mixed tyok (by decide +kernel) ?_ | ((repeat ((fail_if_success (refine hK _ _ ?_)); clear hK)); refine hK _ _ ?_; clear hK))); ((first | refine qal tyok (fun b3 => ?_) | refine qbox (fun b3 => ?_) | refine qboxV (fun b3 => ?_))); (repeat (first | refine wK ?_ | refine awp_seq_k (fun K hK => ?_) | refine areg_text mixed tyok (by decide +kernel) ?_ | ((repeat ((fail_if_success (refine hK _ _ ?_)); clear hK)); refine hK _ _ ?_; clear hK))); ((first | refine qal tyok (fun b4 => ?_) | refine qbox (fun b4 => ?_) | refine qboxV (fun b4 => ?_))); (repeat (first | refine wK ?_ | refine awp_seq_k (fun K hK => ?_) | refine areg_text mixed tyok (by decide +kernel) ?_ | ((repeat ((fail_if_success (refine hK _ _ ?_)); clear hK)); refine hK _ _ ?_; clear hK))); ((first | refine qal tyok (fun b5 => ?_) | refine qbox (fun b5 => ?_) | refine qboxV (fun b5 => ?_))); (repeat (first | refine wK ?_ | refine awp_seq_k (fun K hK => ?_) | refine areg_text mixed tyok (by decide +kernel) ?_ | refine qal tyok (fun bx => ?_) | refine qbox (fun bx => ?_) | refine qboxV (fun bx => ?_) | ((repeat ((fail_if_success (refine hK _ _ ?_)); clear hK)); refine hK _ _ ?_; clear hK))))
  refine TR.hcall rfl rfl rfl True.intro rfl rfl (List.Perm.refl _) (SplitSeq_c _ _) (fun v H' hK => ?_) (fun v H' hK => ?_)
  rotate_left
  · obtain ⟨bs, bsep, bsave, e, _⟩ := hK
    cases e
  obtain ⟨bs, bsep, bsave, e, rfl⟩ := hK
  cases e
  repeat (first | refine wK ?_ | refine awp_seq_k (fun K hK => ?_) | refine areg_text mixed tyok (by decide +kernel) ?_ | refine qal tyok (fun bx => ?_) | refine qbox (fun bx => ?_) | refine qboxV (fun bx => ?_) | ((repeat ((fail_if_success (refine hK _ _ ?_)); clear hK)); refine hK _ _ ?_; clear hK))
  refine awp_weaken (T' := [(9, .func (.func 134) [] [.ptr bsep 0, .ptr bs 0, .ptr bsave 0]), (5, .ptr b5 0), (4, .ptr b4 0), (3, .ptr b3 0)]) (Weak.spec (by (repeat (first | exact True.intro | refine ⟨⟨_, rfl, Sub.refl _⟩, ?_⟩ | refine ⟨⟨_, rfl, Sub.nilso _ _⟩, ?_⟩ | refine ⟨⟨_, rfl, sl_tail _ _ _ _ _⟩, ?_⟩ | refine ⟨⟨_, rfl, Sub.of_eq (by first | rfl | (congr 1; first | omega | (simp only; omega)) | (simp; done) | (simp; omega))⟩, ?_⟩ | refine ⟨⟨_, rfl, Sub.view _ _ _ _⟩, ?_⟩)))) ?_
  refine awp_rangeSeq (splitSeq1_c t 10 bs bsep bsave (by omega)) rfl (by decide) (by simp) (Hb := [.box b5 4 (.bool false), .box b4 23 .nils, .box b3 9 (.str w)]) (List.Perm.refl _)
    (fun k Hk => k ≤ (splitC 10 t).length ∧ ∃ (G : AHeap), Hk = G ++ [.box b5 4 (.bool false), .box b4 23 .nils, .box b3 9 (.str w)] ∧ rowG w ((rowsF t).drop k) = rowF t w)
    ⟨Nat.zero_le _, [], rfl, rfl⟩ ?_ ?_
  · rintro k Hk vs hx ⟨hk, G, rfl, hrow⟩
    obtain ⟨p, hp, rfl⟩ : ∃ p, (splitC 10 t)[k]? = some p ∧ vs = [.str p] := by
      simp only [List.getElem?_map, Option.map_eq_some_iff] at hx
      obtain ⟨p, h1, h2⟩ := hx
      exact ⟨p, h1, h2.symm⟩
    have hk' := (List.getElem?_eq_some_iff.1 hp).1
    have hplen := pieces_len 10 t p (List.mem_of_getElem? hp)
    have hdk : (rowsF t).drop k = Lib.split p [124] :: (rowsF t).drop (k + 1) := by
      unfold rowsF
      rw [List.drop_eq_getElem_cons (by simpa using hk')]
      simp [(List.getElem?_eq_some_iff.1 hp).2]
    rw [hdk] at hrow
    simp only [rowG] at hrow
    have gs := split_c p 124 (by omega)
    have hne := split_ne p [124]
    refine awp_dropF ?_
    repeat (first | refine wK ?_ | refine awp_seq_k (fun K hK => ?_) | refine areg_text mixed tyok (by decide +kernel) ?_ | refine qal tyok (fun bx => ?_) | refine qbox (fun bx => ?_) | refine qboxV (fun bx => ?_) | ((repeat ((fail_if_success (refine hK _ _ ?_)); clear hK)); refine hK _ _ ?_; clear hK))
    refine ⟨rfl, ?_⟩
    repeat (first | refine wK ?_ | refine awp_seq_k (fun K hK => ?_) | refine areg_text mixed tyok (by decide +kernel) ?_ | refine qal tyok (fun bx => ?_) | refine qbox (fun bx => ?_) | refine qboxV (fun bx => ?_) | refine TR.pcall rfl rfl rfl rfl True.intro rfl rfl (gs) ?_ | refine pco rfl rfl rfl rfl rfl rfl rfl rfl (fun _ => gs) ?_ | ((repeat ((fail_if_success (refine hK _ _ ?_)); clear hK)); refine hK _ _ ?_; clear hK))
    refine awp_cond rfl (fun hb => ?_) (fun hb => ?_)
    · have he : (Lib.split p [124]).getD 0 [] = w := beq_iff_eq.1 hb
      rw [if_pos he] at hrow
      repeat (first | refine wK ?_ | refine awp_seq_k (fun K hK => ?_) | refine areg_text mixed tyok (by decide +kernel) ?_ | refine qal tyok (fun bx => ?_) | refine qbox (fun bx => ?_) | refine qboxV (fun bx => ?_) | ((repeat ((fail_if_success (refine hK _ _ ?_)); clear hK)); refine hK _ _ ?_; clear hK))
      intro He _
      repeat (first | refine blockQ_ret ?_ | refine thenQ_ret ?_)
      refine ⟨_, _, _, .cell rfl rfl (b := b4) (ty0 := 23) (u := sl txtE 1 (Lib.split p [124]) .view) (List.mem_append.2 (.inr (List.mem_of_getElem? (i := 1) rfl))) rfl trivial
        (.cell rfl rfl (b := b5) (ty0 := 4) (u := .bool true) (List.mem_append.2 (.inr (List.mem_of_getElem? (i := 0) rfl))) rfl trivial .nil), ?_, rfl, List.drop_length⟩
      rw [← hrow]
      exact Sub.refl _
    · have he : ¬ (Lib.split p [124]).getD 0 [] = w := fun e => absurd (beq_iff_eq.2 e) (by rw [show ((Lib.split p [124]).getD 0 [] == w) = false from hb]; decide)
      rw [if_neg he] at hrow
      repeat (first | refine wK ?_ | refine awp_seq_k (fun K hK => ?_) | refine areg_text mixed tyok (by decide +kernel) ?_ | refine qal tyok (fun bx => ?_) | refine qbox (fun bx => ?_) | refine qboxV (fun bx => ?_) | ((repeat ((fail_if_success (refine hK _ _ ?_)); clear hK)); refine hK _ _ ?_; clear hK))
      exact ⟨hk', [], rfl, hrow⟩
  · rintro He H' ⟨s', rfl⟩ ⟨hk, G, rfl, hrow⟩
    rw [List.length_map, show (splitC 10 t).length = (rowsF t).length by simp [rowsF], List.drop_length] at hrow
    refine blockQ_normal ?_
    refine hK _ _ ?_
    rw [← List.append_assoc]
    refine awp_dropF ?_
    repeat (first | refine wK ?_ | refine awp_seq_k (fun K hK => ?_) | refine areg_text mixed tyok (by decide +kernel) ?_ | refine qal tyok (fun bx => ?_) | refine qbox (fun bx => ?_) | refine qboxV (fun bx => ?_) | ((repeat ((fail_if_success (refine hK _ _ ?_)); clear hK)); refine hK _ _ ?_; clear hK))
    refine fnQ_ret 3 rfl (.cell rfl rfl (List.Mem.tail _ (List.Mem.head _)) rfl trivial (.cell rfl rfl (List.Mem.head _) rfl trivial .nil)) ?_ ⟨rfl, rfl⟩
    rw [← hrow]
    exact Sub.tuple2 (Sub.nilsv _ _) (Sub.refl _)

/-- A table's words. -/
def wordsT (t : List UInt8) : List (List UInt8) := (splitC 10 t).map fun l => (Lib.cut l [124]).1

end Go.Proofs.YtjinaakebjfbiaaGreatDoor
