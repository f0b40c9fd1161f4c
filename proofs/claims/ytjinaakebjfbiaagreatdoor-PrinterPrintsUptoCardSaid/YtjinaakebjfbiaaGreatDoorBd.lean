/-
  strings.Builder.
-/
import Derived.Test.YtjinaakebjfbiaaGreatDoorAbC
import Derived.Test.YtjinaakebjfbiaaGreatDoorLb
import Derived.Shelf.Strings.Builder1
namespace Go.Proofs.YtjinaakebjfbiaaGreatDoor
open Go.Ab Go.RowKit Go.Shelf

theorem copyUsed (b : Nat) (w : World) (h0 : w.cell? ⟨b, 0, none⟩ = some (.pointer (some ⟨b, 0, none⟩))) :
    Calls Tryz.prog 84 #[.pointer (some ⟨b, 0, none⟩)] w fun e w' => e = .returned (.tuple #[]) ∧ w' = w :=
  Any.Builder_copyCheck_used (ρ := Tryz.lays156_ren) { Tryz.lays156 with } Tryz.Builder_Extra_156.toX72 b w h0

theorem copyFresh (b : Nat) (w : World) (h0 : w.cell? ⟨b, 0, none⟩ = some (.pointer none)) (hsh : w.shape? b = some (94, 2)) (hfz : w.frozen? ⟨b, 0, none⟩ = false) :
    Calls Tryz.prog 84 #[.pointer (some ⟨b, 0, none⟩)] w fun e w' => e = .returned (.tuple #[]) ∧ w' = w.setCell ⟨b, 0, none⟩ (.pointer (some ⟨b, 0, none⟩)) :=
  Any.Builder_copyCheck_fresh (ρ := Tryz.lays156_ren) { Tryz.lays156 with } Tryz.Builder_Extra_156.toX72 b w h0 hsh hfz

theorem copyCheck_c (b : Nat) (p v : AV) (hp : p = .nilptr ∨ p = .ptr b 0) :
    ACalls Tryz.prog 84 [.ptr b 0] [.box b 94 (.agg [p, v])] (fun r H' => r = .ret (.tuple []) ∧ H' = [.box b 94 (.agg [.ptr b 0, v])]) := by
  refine ⟨fun _ _ => by kernel_rfl, fun st w xs hc hx _ => ?_⟩
  obtain ⟨x, rfl, h1⟩ := repL1 hx
  cases h1
  obtain ⟨arr, cv, hb, hr, hcs, hone, hns⟩ := hc.ents _ (List.mem_cons_self ..)
  cases hr with
  | agg _ cs hl hcr =>
  match cs, hl with
  | [c0, c1], _ =>
  have h0 := hcr 0 p c0 rfl rfl
  have h1 := hcr 1 v c1 rfl rfl
  obtain rfl : arr = #[c0, c1] := hcs.symm
  rcases hp with rfl | rfl
  · cases h0
    refine (copyFresh b w (by rw [Lib.cell_of_heap hb]; rfl) (by simp [World.shape?, hb]) (Lib.frozen_of_heap hb 0)).mono ?_
    rintro e w' ⟨rfl, rfl⟩
    rw [setCell_eq_setRow w b 0 _ _ (0, 0) _ hb]
    have m := hc.store (u' := .agg [.ptr b 0, v]) (arr' := #[.pointer (some ⟨b, 0, none⟩), c1]) (cv' := .agg #[.pointer (some ⟨b, 0, none⟩), c1]) hb
      (.agg _ [_, _] rfl (fun j u x hu hx => by
        match j, hu, hx with
        | 0, hu, hx => cases hu; cases hx; exact .ptr b 0
        | 1, hu, hx => cases hu; cases hx; exact h1)) rfl (fun x hx => by
        rcases List.mem_cons.1 hx with rfl | hx
        · rfl
        · exact hone x (List.mem_cons_of_mem _ hx))
    exact ⟨st, .ret (.tuple []), _, m.1, .tuple [] [] rfl (by simp), rfl, rfl⟩
  · cases h0
    refine (copyUsed b w (by rw [Lib.cell_of_heap hb]; rfl)).mono ?_
    rintro e w' ⟨rfl, rfl⟩
    exact ⟨st, .ret (.tuple []), _, hc, .tuple [] [] rfl (by simp), rfl, rfl⟩

/-- A builder that holds no byte, and one that holds some. -/
def bld0 (b : Nat) : AHeap := [.box b 94 (.agg [.nilptr, .nils])]
def bldH (b g cap : Nat) (s : List UInt8) : AHeap := [.box b 94 (.agg [.ptr b 0, .mslice g 0 s.length cap]), rowB g 5 cap s]

/-- A block and its room for the bytes. -/
abbrev Rm (s : List UInt8) : Type := { p : Nat × Nat // s.length ≤ p.2 ∧ p.2 ≤ maxLen }

theorem cbWrite : Callable Tryz.prog 53 := fun _ _ => by kernel_rfl
set_option maxHeartbeats 1600000 in
set_option maxRecDepth 100000 in
theorem write0_c (b : Nat) (t : List UInt8) (h0 : t ≠ []) (hl : t.length ≤ 1000000000) :
    ACalls Tryz.prog 53 [.ptr b 0, .str t] (bld0 b) (fun r H' => r = .ret (.tuple [.int .i64 t.length, .nilIface]) ∧ ∃ q : Rm t, H' = bldH b q.1.1 q.1.2 t) := by
  refine acalls_of_awp tyok cbWrite Tryz.func53 rfl rfl ?_
  unfold bld0
  repeat (first | refine wK ?_ | refine awp_seq_k (fun K hK => ?_) | refine areg_text mixed tyok (by decide +kernel) ?_ | refine qal tyok (fun bx => ?_) | refine qbox (fun bx => ?_) | refine qboxV (fun bx => ?_) | ((repeat ((fail_if_success (refine hK _ _ ?_)); clear hK)); refine hK _ _ ?_; clear hK))
  (first | refine qcallE .here (copyCheck_c b .nilptr _ (.inl rfl)) ?_ | refine qcallE (.there .here) (copyCheck_c b .nilptr _ (.inl rfl)) ?_ | refine qcallE (.there (.there .here)) (copyCheck_c b .nilptr _ (.inl rfl)) ?_ | refine qcallE (.there (.there (.there .here))) (copyCheck_c b .nilptr _ (.inl rfl)) ?_ | refine qcallE (.there (.there (.there (.there .here)))) (copyCheck_c b .nilptr _ (.inl rfl)) ?_)
  repeat (first | refine wK ?_ | refine awp_seq_k (fun K hK => ?_) | refine areg_text mixed tyok (by decide +kernel) ?_ | refine qal tyok (fun bx => ?_) | refine qbox (fun bx => ?_) | refine qboxV (fun bx => ?_) | ((repeat ((fail_if_success (refine hK _ _ ?_)); clear hK)); refine hK _ _ ?_; clear hK))
  refine qappN tyok t h0 ?_ fun g cap hc1 hc2 => ?_
  · simp only
    omega
  (((repeat (first | refine wT ?_ | refine qal tyok (fun bx => ?_) | refine qbox (fun bx => ?_) | refine qboxV (fun bx => ?_)))); repeat (first | (with_reducible refine pQ_normal ?_) | (with_reducible refine thenQ_normal ?_) | (with_reducible refine blockQ_normal ?_) | (with_reducible refine thenQ_exit ?_) | (with_reducible refine blockQ_hit ?_) | refine blockQ_miss rfl ?_ | (with_reducible refine thenQ_ret ?_) | (with_reducible refine blockQ_ret ?_) | (with_reducible refine pQ_panic ?_) | (with_reducible refine thenQ_panic ?_) | (with_reducible refine blockQ_panic ?_)); ((repeat ((fail_if_success (refine hK _ _ ?_)); clear hK)); refine hK _ _ ?_; clear hK))
  refine awp_permS (List.Perm.swap _ _ _) ?_
  repeat (first | refine wK ?_ | refine awp_seq_k (fun K hK => ?_) | refine areg_text mixed tyok (by decide +kernel) ?_ | refine qal tyok (fun bx => ?_) | refine qbox (fun bx => ?_) | refine qboxV (fun bx => ?_) | ((repeat ((fail_if_success (refine hK _ _ ?_)); clear hK)); refine hK _ _ ?_; clear hK))
  exact fnQ_ret 0 rfl (.tmp rfl (.tmp rfl .nil)) (Sub.refl _) ⟨rfl, ⟨(g, cap), hc1, hc2⟩, rfl⟩

set_option maxHeartbeats 1600000 in
set_option maxRecDepth 100000 in
theorem write_c (b g cap : Nat) (s t : List UInt8) (h0 : t ≠ []) (hc : s.length ≤ cap) (hm : cap ≤ maxLen) (hl : s.length + t.length ≤ 1000000000) :
    ACalls Tryz.prog 53 [.ptr b 0, .str t] (bldH b g cap s) (fun r H' => r = .ret (.tuple [.int .i64 t.length, .nilIface]) ∧ ∃ q : Rm (s ++ t), H' = bldH b q.1.1 q.1.2 (s ++ t)) := by
  refine acalls_of_awp tyok cbWrite Tryz.func53 rfl rfl ?_
  unfold bldH
  repeat (first | refine wK ?_ | refine awp_seq_k (fun K hK => ?_) | refine areg_text mixed tyok (by decide +kernel) ?_ | refine qal tyok (fun bx => ?_) | refine qbox (fun bx => ?_) | refine qboxV (fun bx => ?_) | ((repeat ((fail_if_success (refine hK _ _ ?_)); clear hK)); refine hK _ _ ?_; clear hK))
  (first | refine qcallE .here (copyCheck_c b (.ptr b 0) _ (.inr rfl)) ?_ | refine qcallE (.there .here) (copyCheck_c b (.ptr b 0) _ (.inr rfl)) ?_ | refine qcallE (.there (.there .here)) (copyCheck_c b (.ptr b 0) _ (.inr rfl)) ?_ | refine qcallE (.there (.there (.there .here))) (copyCheck_c b (.ptr b 0) _ (.inr rfl)) ?_ | refine qcallE (.there (.there (.there (.there .here)))) (copyCheck_c b (.ptr b 0) _ (.inr rfl)) ?_)
  repeat (first | refine wK ?_ | refine awp_seq_k (fun K hK => ?_) | refine areg_text mixed tyok (by decide +kernel) ?_ | refine qal tyok (fun bx => ?_) | refine qbox (fun bx => ?_) | refine qboxV (fun bx => ?_) | ((repeat ((fail_if_success (refine hK _ _ ?_)); clear hK)); refine hK _ _ ?_; clear hK))
  refine qappR tyok s t h0 hc hm ?_ fun g cap hc1 hc2 => ?_
  · simp only
    omega
  repeat (first | refine wK ?_ | refine awp_seq_k (fun K hK => ?_) | refine areg_text mixed tyok (by decide +kernel) ?_ | refine qal tyok (fun bx => ?_) | refine qbox (fun bx => ?_) | refine qboxV (fun bx => ?_) | ((repeat ((fail_if_success (refine hK _ _ ?_)); clear hK)); refine hK _ _ ?_; clear hK))
  exact fnQ_ret 0 rfl (.tmp rfl (.tmp rfl .nil)) (Sub.refl _) ⟨rfl, ⟨(g, cap), hc1, hc2⟩, rfl⟩

set_option maxHeartbeats 1000000 in
set_option maxRecDepth 100000 in
/-- String, with the world that it leaves. -/
theorem strW {P : Program} {ρ : Shelf.Ren} (L : Lays.n169 P ρ) (X : Builder.Extra P ρ) (b g cap : Nat) (p : Value) (cs : Array Value) (l : List UInt8) (w : World)
    (hb : w.heap[b]? = some (.cells #[p, .slice (some ⟨g, 0, none⟩) l.length cap] (ρ.t 72) (0, 0))) (hg : w.heap[g]? = some (.cells cs (ρ.t 5) (0, 0)))
    (h0 : l ≠ []) (hn : l.length ≤ cap) (hcs : cs.size = cap) (h63 : l.length ≤ 9223372036854775807) (hc : ∀ (j : Nat) (x : UInt8), l[j]? = some x → cs[j]? = some (Value.int .u8 x.toNat)) :
    Calls P (ρ.f 169) #[.pointer (some ⟨b, 0, none⟩)] w fun e w' => e = .returned (.string ⟨l.toArray⟩) ∧ w' = w.drew.freeze ⟨g, 0, none⟩ l.length := by
  have hl0 : l.length ≠ 0 := by simpa using h0
  have c1 : w.drew.cell? ⟨b, 1, none⟩ = some (.slice (some ⟨g, 0, none⟩) l.length cap) := by
    rw [Lib.cell_of_heap (w := w.drew) hb]
    rfl
  have hg1 : w.drew.heap[g]? = some (.cells cs (ρ.t 5) (0, 0)) := hg
  have hD : (Builtin.unsafeSliceData_ #[ρ.t 37] (ρ.t 127) #[.slice (some ⟨g, 0, none⟩) l.length cap]).run P w.drew = .ok (.pointer (some ⟨g, 0, none⟩)) w.drew := Lib.run_unsafeSliceData_row _ _ _ _ _ _ (by omega)
  have hS : (Builtin.unsafeString_ #[ρ.t 127, ρ.t 3] (ρ.t 9) #[.pointer (some ⟨g, 0, none⟩), .int .i64 l.length]).run P w.drew = .ok (.string ⟨l.toArray⟩) (w.drew.freeze ⟨g, 0, none⟩ l.length) :=
    Lib.run_unsafeString_row w.drew (ρ.t 127) (ρ.t 3) (ρ.t 9) (ρ.t 5) L.t127 X.cellsByte g cs.size (by simp [World.shape?, hg1]) l h0 (by omega) h63 (fun j x hx => by
      rw [addr_add, Nat.zero_add, Lib.cell_of_heap hg1]
      exact hc j x hx)
  have mixed := L.mixed
  have t72 := L.t72; have a72 := L.a72; have z72 := L.z72; have v72 := L.v72; have u72 := run_underlying L.t72
  have t70 := L.t70; have a70 := L.a70; have z70 := L.z70; have v70 := L.v70; have u70 := run_underlying L.t70
  have t37 := L.t37; have a37 := L.a37; have z37 := L.z37; have v37 := L.v37; have u37 := run_underlying L.t37
  have t127 := L.t127; have a127 := L.a127; have z127 := L.z127; have v127 := L.v127; have u127 := run_underlying L.t127
  have t3 := L.t3; have a3 := L.a3; have z3 := L.z3; have v3 := L.v3; have u3 := run_underlying L.t3
  have t9 := L.t9; have a9 := L.a9; have z9 := L.z9; have v9 := L.v9; have u9 := run_underlying L.t9
  have t5 := X.t5; have a5 := X.a5; have z5 := X.z5; have v5 := X.v5; have u5 := run_underlying X.t5
  go_enter L.f169, Body.n169_ntmps ρ
  go_wp2
  go_region_o
  all_goals (go_wp2; go_ret; exact ⟨rfl, rfl⟩)

theorem cbStr : Callable Tryz.prog 58 := fun _ _ => by kernel_rfl
theorem string_c (b g cap : Nat) (s : List UInt8) (h0 : s ≠ []) (hc : s.length ≤ cap) (hl : s.length ≤ 1000000000) :
    ACalls Tryz.prog 58 [.ptr b 0] (bldH b g cap s) (fun r H' => r = .ret (.str s) ∧ H' = []) := by
  refine ⟨cbStr, fun st w xs hcc hx _ => ?_⟩
  obtain ⟨x, rfl, h1⟩ := repL1 hx
  cases h1
  unfold bldH at hcc
  obtain ⟨arr, cv, hb, hr, hcs, _, _⟩ := hcc.ents _ (List.mem_cons_self ..)
  have hc2 : Conc (Env0.of w st (bldH b g cap s)) st [rowB g 5 cap s] w := Conc.drop_front (F := [_]) hcc
  obtain ⟨arr2, cv2, hg, hr2, hcs2, _, hns⟩ := hc2.ents _ (List.mem_cons_self ..)
  obtain ⟨cs2, rfl, hl2, hget, _⟩ := rowB_get hc hr2
  obtain rfl : (⟨cs2⟩ : Array Value) = arr2 := hcs2
  cases hr with
  | agg _ cs hl hcr =>
  match cs, hl with
  | [c0, c1], _ =>
  have k1 := hcr 1 _ c1 rfl rfl
  cases k1
  obtain rfl : arr = #[c0, .slice (some ⟨g, 0, none⟩) s.length cap] := hcs.symm
  refine (strW (ρ := Tryz.lays156_ren) { Tryz.lays156 with } Tryz.Builder_Extra_156 b g cap c0 ⟨cs2⟩ s w hb hg h0 hc hl2 (by omega) (fun j x hx => ?_)).mono ?_
  · have hj : j < s.length := (List.getElem?_eq_some_iff.1 hx).1
    have := hget j hj
    simp only [byteV, List.getD, hx, Option.getD_some] at this
    simpa using this
  rintro e w' ⟨rfl, rfl⟩
  have hc3 : Conc (Env0.of w st (bldH b g cap s)) st [rowB g 5 cap s] w.drew := (below_conc hc2 (Below.drew (Below.refl _ _))).1
  exact ⟨st, .ret (.str s), [], (Conc.frozen (n := s.length) hc3 hns rfl).1, .str _, rfl, rfl⟩

end Go.Proofs.YtjinaakebjfbiaaGreatDoor
