/-
  The figures: all words; a construction, a predicate.
-/
import Derived.Test.YtpodjhapjcncdaaDoorFg5
namespace Go.Proofs.YtpodjhapjcncdaaDoor
open Go.Ab

theorem cbWords : Callable Tryd.prog 18 := fun _ _ => by kernel_rfl
set_option maxHeartbeats 3200000 in
set_option maxRecDepth 100000 in
theorem words_c (t : List UInt8) (hs : t.length ≤ 900000) : PCalls Tryd.prog 18 [.str t] (sl txtE 1 (wordsT t) .view) := by
  refine pcalls_of_awp tyok cbWords Tryd.func18 rfl rfl ?_
  ((repeat (first | refine wK ?_ | refine awp_seq_k (fun K hK => ?_) | refine areg_text mixed tyok (by decide +kernel) ?_ | ((repeat ((fail_if_success (refine hK _ _ ?_)); clear hK)); refine hK _ _ ?_; clear hK))); ((first | refine qal tyok (fun b2 => ?_) | refine qbox (fun b2 => ?_) | refine qboxV (fun b2 => ?_))); (repeat (first | refine wK ?_ | refine awp_seq_k (fun K hK => ?_) | refine areg_text mixed tyok (by decide +kernel) ?_ | ((repeat ((fail_if_success (refine hK _ _ ?_)); clear hK)); refine hK _ _ ?_; clear hK))); ((first | refine qal tyok (fun b3 => ?_) | refine qbox (fun b3 => ?_) | refine qboxV (fun b3 => ?_))); (repeat (first | refine wK ?_ | refine awp_seq_k (fun K hK => ?_) | refine areg_text mixed tyok (by decide +kernel) ?_ | refine qal tyok (fun bx => ?_) | refine qbox (fun bx => ?_) | refine qboxV (fun bx => ?_) | ((repeat ((fail_if_success (refine hK _ _ ?_)); clear hK)); refine hK _ _ ?_; clear hK))))
  refine TR.hcall rfl rfl rfl True.intro rfl rfl (List.Perm.refl _) (SplitSeq_c _ _) (fun v H' hK => ?_) (fun v H' hK => ?_)
  rotate_left
  · obtain ⟨bs, bsep, bsave, e, _⟩ := hK
    cases e
  obtain ⟨bs, bsep, bsave, e, rfl⟩ := hK
  cases e
  repeat (first | refine wK ?_ | refine awp_seq_k (fun K hK => ?_) | refine areg_text mixed tyok (by decide +kernel) ?_ | refine qal tyok (fun bx => ?_) | refine qbox (fun bx => ?_) | refine qboxV (fun bx => ?_) | ((repeat ((fail_if_success (refine hK _ _ ?_)); clear hK)); refine hK _ _ ?_; clear hK))
  refine awp_weaken (T' := [(7, .func (.func 44) [] [.ptr bsep 0, .ptr bs 0, .ptr bsave 0]), (3, .ptr b3 0), (2, .ptr b2 0)]) (Weak.spec (by (repeat (first | exact True.intro | refine ⟨⟨_, rfl, Sub.refl _⟩, ?_⟩ | refine ⟨⟨_, rfl, Sub.nilso _ _⟩, ?_⟩ | refine ⟨⟨_, rfl, sl_tail _ _ _ _ _⟩, ?_⟩ | refine ⟨⟨_, rfl, Sub.of_eq (by first | rfl | (congr 1; first | omega | (simp only; omega)) | (simp; done) | (simp; omega))⟩, ?_⟩ | refine ⟨⟨_, rfl, Sub.view _ _ _ _⟩, ?_⟩)))) ?_
  refine awp_boxSub (seqBoxes bs bsep bsave t [10] ++ [.box b3 64 (.func (.func 28) [] [.ptr b2 0])]) (Sub.sl_nil txtE 1) ?_
  refine awp_tok0 1 9 ?_
  refine awp_rangeSeq (splitSeq1_c t 10 bs bsep bsave (by omega)) rfl (by decide) (by simp) (Hb := [.tok none 0 0 1 9, .box b3 64 (.func (.func 28) [] [.ptr b2 0]), .box b2 23 (sl txtE 1 [] (.own none 0))]) (List.perm_middle (l₁ := seqBoxes bs bsep bsave t [10]) (l₂ := [.box b3 64 (.func (.func 28) [] [.ptr b2 0]), .box b2 23 (sl txtE 1 [] (.own none 0))])).symm
    (fun k Hk => k ≤ (splitC 10 t).length ∧ ∃ (outs : List (List UInt8)) (a : Option Addr) (cap : Nat) (G : AHeap), Hk.Perm (G ++ [.tok a cap outs.length 1 9, .box b3 64 (.func (.func 28) [] [.ptr b2 0]), .box b2 23 (sl txtE 1 outs (.own a cap))]) ∧ outs = (wordsT t).take k)
    ⟨Nat.zero_le _, [], none, 0, [], List.Perm.refl _, rfl⟩ ?_ ?_
  · rintro k Hk vs hx ⟨hk, outs, a, cap, G, hperm, hout⟩
    obtain ⟨p, hp, rfl⟩ : ∃ p, (splitC 10 t)[k]? = some p ∧ vs = [.str p] := by
      simp only [List.getElem?_map, Option.map_eq_some_iff] at hx
      obtain ⟨p, h1, h2⟩ := hx
      exact ⟨p, h1, h2.symm⟩
    have hk' := (List.getElem?_eq_some_iff.1 hp).1
    have hcount := pieces_count 10 t
    have hplen := pieces_len 10 t p (List.mem_of_getElem? hp)
    have hol : outs.length ≤ 1000000 := by
      rw [hout, List.length_take]
      have : (wordsT t).length = (splitC 10 t).length := by simp [wordsT]
      omega
    have hnext : outs ++ [(Lib.cut p [124]).1] = (wordsT t).take (k + 1) := by
      have hkw : k < (wordsT t).length := by simpa [wordsT] using hk'
      rw [hout, List.take_succ_eq_append_getElem hkw]
      simp [wordsT, (List.getElem?_eq_some_iff.1 hp).2]
    refine awp_permS hperm ?_
    refine awp_dropF ?_
    repeat (first | refine wK ?_ | refine awp_seq_k (fun K hK => ?_) | refine areg_text mixed tyok (by decide +kernel) ?_ | refine qal tyok (fun bx => ?_) | refine qbox (fun bx => ?_) | refine qboxV (fun bx => ?_) | ((repeat ((fail_if_success (refine hK _ _ ?_)); clear hK)); refine hK _ _ ?_; clear hK))
    refine ⟨rfl, ?_⟩
    repeat (first | refine wK ?_ | refine awp_seq_k (fun K hK => ?_) | refine areg_text mixed tyok (by decide +kernel) ?_ | refine qal tyok (fun bx => ?_) | refine qbox (fun bx => ?_) | refine qboxV (fun bx => ?_) | ((repeat ((fail_if_success (refine hK _ _ ?_)); clear hK)); refine hK _ _ ?_; clear hK))
    refine TR.hcall (Hc := [.tok a cap outs.length 1 9, .box b2 23 (sl txtE 1 outs (.own a cap))]) (G := [_]) rfl rfl rfl True.intro rfl rfl (List.Perm.cons _ (List.Perm.swap _ _ _)) (words1_c p b2 outs a cap (by omega) hol) (fun v H' hK => ?_) (fun v H' hK => ?_)
    rotate_left
    · obtain ⟨e1, _⟩ := hK
      cases e1
    obtain ⟨e1, ad, cp, rfl⟩ := hK
    cases e1
    repeat (first | refine wK ?_ | refine awp_seq_k (fun K hK => ?_) | refine areg_text mixed tyok (by decide +kernel) ?_ | refine qal tyok (fun bx => ?_) | refine qbox (fun bx => ?_) | refine qboxV (fun bx => ?_) | ((repeat ((fail_if_success (refine hK _ _ ?_)); clear hK)); refine hK _ _ ?_; clear hK))
    exact ⟨hk', outs ++ [(Lib.cut p [124]).1], ad, cp, [], .cons _ (.swap _ _ _), hnext⟩
  · rintro He H' ⟨s', rfl⟩ ⟨hk, outs, a, cap, G, hperm, hout⟩
    rw [List.length_map, show (splitC 10 t).length = (wordsT t).length by simp [wordsT], List.take_length] at hout
    subst hout
    refine blockQ_normal ?_
    refine hK _ _ ?_
    refine awp_permS (H := (seqBoxes bs bsep bsave s' [10] ++ G) ++ [_, _, _]) (by rw [List.append_assoc]; exact List.Perm.append_left _ hperm) ?_
    refine awp_dropF ?_
    repeat (first | refine wK ?_ | refine awp_seq_k (fun K hK => ?_) | refine areg_text mixed tyok (by decide +kernel) ?_ | refine qal tyok (fun bx => ?_) | refine qbox (fun bx => ?_) | refine qboxV (fun bx => ?_) | ((repeat ((fail_if_success (refine hK _ _ ?_)); clear hK)); refine hK _ _ ?_; clear hK))
    exact fnQ_ret 3 rfl (.cell rfl rfl (List.Mem.tail _ (List.Mem.tail _ (List.Mem.head _))) rfl trivial .nil) (Sub.view _ _ _ _) ⟨rfl, rfl⟩

noncomputable def made21 : List UInt8 := (Tryd.f12.body.bind codeArg).getD []
noncomputable def asked21 : List UInt8 := (Tryd.f15.body.bind codeArg).getD []

set_option maxRecDepth 100000 in
theorem made_len : made21.length ≤ 100000 := by decide +kernel
set_option maxRecDepth 100000 in
theorem asked_len : asked21.length ≤ 100000 := by decide +kernel

theorem cbCs : Callable Tryd.prog 8 := fun _ _ => by kernel_rfl
set_option maxRecDepth 100000 in
theorem constructions_c : PCalls Tryd.prog 8 [] (sl txtE 1 (wordsT made21) .view) := by
  refine pcalls_of_awp tyok cbCs Tryd.func8 rfl rfl ?_
  have g := words_c made21 (by have := made_len; omega)
  repeat (first | refine wK ?_ | refine awp_seq_k (fun K hK => ?_) | refine areg_text mixed tyok (by decide +kernel) ?_ | refine qal tyok (fun bx => ?_) | refine qbox (fun bx => ?_) | refine qboxV (fun bx => ?_) | refine TR.pcall rfl rfl rfl rfl True.intro rfl rfl (g) ?_ | refine pco rfl rfl rfl rfl rfl rfl rfl rfl (fun _ => g) ?_ | ((repeat ((fail_if_success (refine hK _ _ ?_)); clear hK)); refine hK _ _ ?_; clear hK))
  refine r1 ?_
  exact Sub.refl _

theorem cbPs : Callable Tryd.prog 9 := fun _ _ => by kernel_rfl
set_option maxRecDepth 100000 in
theorem predicates_c : PCalls Tryd.prog 9 [] (sl txtE 1 (wordsT asked21) .view) := by
  refine pcalls_of_awp tyok cbPs Tryd.func9 rfl rfl ?_
  have g := words_c asked21 (by have := asked_len; omega)
  repeat (first | refine wK ?_ | refine awp_seq_k (fun K hK => ?_) | refine areg_text mixed tyok (by decide +kernel) ?_ | refine qal tyok (fun bx => ?_) | refine qbox (fun bx => ?_) | refine qboxV (fun bx => ?_) | refine TR.pcall rfl rfl rfl rfl True.intro rfl rfl (g) ?_ | refine pco rfl rfl rfl rfl rfl rfl rfl rfl (fun _ => g) ?_ | ((repeat ((fail_if_success (refine hK _ _ ?_)); clear hK)); refine hK _ _ ?_; clear hK))
  refine r1 ?_
  exact Sub.refl _

def rowsOk (R : List (List UInt8) → Option FigR) (t : List UInt8) : Bool := (rowsF t).all fun l => (R l).isSome && l.all fun x => Nat.ble x.length 1000

set_option maxRecDepth 100000 in
theorem made_ok : rowsOk conR made21 = true := by decide +kernel
set_option maxRecDepth 100000 in
theorem asked_ok : rowsOk preR asked21 = true := by decide +kernel

theorem rowsOk_at {R : List (List UInt8) → Option FigR} {t w : List UInt8} {l : List (List UInt8)} (h : rowsOk R t = true) (hr : rowF t w = some l) : (∃ f, R l = some f) ∧ ∀ x ∈ l, x.length ≤ 1000 := by
  have := List.all_eq_true.1 h l (rowG_mem hr)
  simp only [Bool.and_eq_true, List.all_eq_true] at this
  exact ⟨Option.isSome_iff_exists.1 this.1, fun x hx => Nat.le_of_ble_eq_true (this.2 x hx)⟩

/-- What figure a word is. -/
noncomputable def conF (w : List UInt8) : Option FigR := match rowF made21 w with
  | none => none
  | some l => match conR l with
    | none => none
    | some f => some { f with word := w }
noncomputable def preF (w : List UInt8) : Option FigR := match rowF asked21 w with
  | none => none
  | some l => match preR l with
    | none => none
    | some f => some { f with word := w }

theorem conF_none {w : List UInt8} (h : rowF made21 w = none) : conF w = none := by
  unfold conF
  rw [h]
theorem conF_some {w : List UInt8} {l : List (List UInt8)} {f : FigR} (h : rowF made21 w = some l) (hf : conR l = some f) : conF w = some { f with word := w } := by
  unfold conF
  rw [h]
  simp only [hf]
theorem preF_none {w : List UInt8} (h : rowF asked21 w = none) : preF w = none := by
  unfold preF
  rw [h]
theorem preF_some {w : List UInt8} {l : List (List UInt8)} {f : FigR} (h : rowF asked21 w = some l) (hf : preR l = some f) : preF w = some { f with word := w } := by
  unfold preF
  rw [h]
  simp only [hf]

def figZ : FigR := ⟨[], 0, 0, [], [], [], []⟩
def figV : Option FigR → AV
  | some f => .tuple [.agg (figE f), .bool true]
  | none => .tuple [.agg (figE figZ), .bool false]

theorem figZ_sub : Sub (.agg [.str [], .int .i64 0, .int .i64 0, .nils, .nils, .str [], .nils]) (.agg (figE figZ)) :=
  subAgg (.cons (Sub.refl _) (.cons (Sub.refl _) (.cons (Sub.refl _) (.cons (Sub.nilsv _ _) (.cons (Sub.nilsv _ _) (.cons (Sub.refl _) (.cons (Sub.nilsv _ _) .nil)))))))

end Go.Proofs.YtpodjhapjcncdaaDoor
