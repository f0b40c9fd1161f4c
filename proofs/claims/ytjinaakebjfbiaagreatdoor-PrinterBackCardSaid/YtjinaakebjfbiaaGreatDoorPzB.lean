/-
  Plain law of layer 23: what is printed of a script that was read is read again, as the same one.
-/
import Derived.Test.YtjinaakebjfbiaaGreatDoorPy
import Derived.Test.YtjinaakebjfbiaaGreatDoorShK
namespace Go.Proofs.YtjinaakebjfbiaaGreatDoor
open Go.Ab

/-! Whether statements fit hangs on no place. -/

def TokI.core (t : TokI) : TokI := { t with ln := 0, co := 0 }
def StI.core (x : StI) : StI := ⟨x.k, x.new.core, x.word.core, x.args.map TokI.core, 0, 0, 0, 0⟩

theorem core_getD (l : List TokI) (i : Nat) : (l.map TokI.core).getD i default = (l.getD i default).core := by
  rw [List.getD_eq_getElem?_getD, List.getElem?_map, List.getD_eq_getElem?_getD]
  cases l[i]? <;> rfl

theorem fresh_core {s t : LkR} (h : Alike s t) (u : TokI) : Alike (s.fresh u) (t.fresh u.core) := by
  unfold LkR.fresh
  rw [h.2]
  exact meet_alike (meet_alike h ..) ..

theorem add_core {s t : LkR} (h : Alike s t) (u : TokI) : Alike (s.add u) (t.add u.core) := by
  unfold LkR.add
  rw [h.1]
  split
  · exact ⟨rfl, by simp only [h.2]; rfl⟩
  · exact h

theorem alike_core (A : List TokI) (i : Nat) (w : List UInt8) : alike (A.map TokI.core) i w = alike A i w := by
  funext u
  unfold alike
  rw [core_getD]
  rfl

theorem argsG_core (f : FigR) (A : List TokI) (el ec el' ec' : Int) : ∀ (l : List TokI) (i : Nat) {s t : LkR}, Alike s t → Alike (argsG f A el ec i l s) (argsG f (A.map TokI.core) el' ec' i (l.map TokI.core) t)
  | [], _, _, _, h => by
    simp only [argsG, List.map_nil, List.length_map]
    exact meet_alike h ..
  | u :: l, i, s, t, h => by
    rw [List.map_cons]
    unfold argsG
    split
    · exact meet_alike h ..
    split
    · exact argsG_core f A el ec el' ec' l (i + 1) (meet_alike (meet_alike h ..) ..)
    · refine argsG_core f A el ec el' ec' l (i + 1) ?_
      unfold ptM
      rw [alike_core, h.2]
      exact meet_alike (meet_alike (meet_alike h ..) ..) ..

theorem ptsG_core : ∀ (l : List TokI) {s t : LkR}, Alike s t → Alike (ptsG l s) (ptsG (l.map TokI.core) t)
  | [], _, _, h => h
  | u :: l, _, _, h => ptsG_core l (add_core (fresh_core h u) u)

theorem stmtG_core (x : StI) {s t : LkR} (h : Alike s t) : Alike (stmtG x s) (stmtG x.core t) := by
  unfold stmtG argsF
  by_cases h3 : x.k = 3
  · rw [if_pos h3, if_pos (show x.core.k = 3 from h3)]
    refine ptsG_core _ ?_
    rw [show x.core.args.length = x.args.length from List.length_map ..]
    exact meet_alike h ..
  rw [if_neg h3, if_neg (show ¬ x.core.k = 3 from h3)]
  by_cases h4 : x.k = 4
  · rw [if_pos h4, if_pos (show x.core.k = 4 from h4)]
    exact add_core (argsG_core _ _ _ _ _ _ _ _ (meet_alike (fresh_core h _) ..)) _
  rw [if_neg h4, if_neg (show ¬ x.core.k = 4 from h4)]
  by_cases h5 : x.k = 5
  · rw [if_pos h5, if_pos (show x.core.k = 5 from h5)]
    exact argsG_core _ _ _ _ _ _ _ _ (meet_alike h ..)
  · rw [if_neg h5, if_neg (show ¬ x.core.k = 5 from h5)]
    exact h

theorem limB_core (l : List TokI) : limB (l.map TokI.core) = limB l := by
  rcases l with _ | ⟨a, _ | ⟨b, _ | ⟨c, _ | ⟨d, _ | ⟨e, l⟩⟩⟩⟩⟩ <;> rfl

theorem place_core (n i : Nat) (x : StI) : placeB n i x.core = placeB n i x := by
  unfold placeB
  rw [show limB x.core.args = limB x.args from limB_core _]
  rfl

theorem lookG_core (n : Nat) : ∀ (l : List StI) (i : Nat) {s t : LkR}, Alike s t → Alike (lookG n i l s) (lookG n i (l.map StI.core) t)
  | [], _, _, _, h => h
  | x :: l, i, s, t, h => by
    simp only [List.map_cons, lookG, place_core]
    exact lookG_core n l (i + 1) (stmtG_core x (meet_alike h ..))

theorem look_core (l : List StI) : (lookF (l.map StI.core)).e = (lookF l).e := by
  unfold lookF
  rw [List.length_map]
  exact (lookG_core l.length l 0 (meet_alike (s := ⟨0, 0, 0, []⟩) (t := ⟨0, 0, 0, []⟩) ⟨rfl, rfl⟩ (decide (l.length < 3)) 4 (shortAt l).1 (shortAt l).2 (shortAt (l.map StI.core)).1 (shortAt (l.map StI.core)).2)).1.symm

theorem sameT_core {a b : TokR} (h : sameT a b true = true) : a.up.core = b.up.core := by
  simp only [sameT, Bool.and_eq_true, beq_iff_eq] at h
  simp only [TokR.up, TokI.core, h.1.1.1, h.1.1.2, h.1.2]

theorem sameS_core {a b : StR} (h : sameS a b true = true) : a.up.core = b.up.core := by
  simp only [sameS, Bool.and_eq_true, beq_iff_eq, sameA, List.all_eq_true, List.mem_range] at h
  obtain ⟨⟨⟨⟨⟨h1, h2⟩, h3⟩, h4⟩, _⟩, h5⟩ := h
  have e : (a.args.map TokR.up).map TokI.core = (b.args.map TokR.up).map TokI.core := by
    refine List.ext_getElem (by simp [h4]) fun i i1 i2 => ?_
    have j1 : i < a.args.length := by simpa using i1
    have j2 : i < b.args.length := by omega
    have := sameT_core (h5 i j1)
    rw [getD_at j1, getD_at j2] at this
    simpa using this
  show StI.mk a.k a.new.up.core a.word.up.core ((a.args.map TokR.up).map TokI.core) 0 0 0 0 = StI.mk b.k b.new.up.core b.word.up.core ((b.args.map TokR.up).map TokI.core) 0 0 0 0
  rw [h1, sameT_core h2, sameT_core h3, e]

theorem sameL_core {a b : List StR} (h : sameL a b true = true) : (a.map StR.up).map StI.core = (b.map StR.up).map StI.core := by
  simp only [sameL, Bool.and_eq_true, beq_iff_eq, List.all_eq_true, List.mem_range] at h
  refine List.ext_getElem (by simp [h.1]) fun i i1 i2 => ?_
  have j1 : i < a.length := by simpa using i1
  have j2 : i < b.length := by omega
  have := sameS_core (h.2 i j1)
  rw [getD_at j1, getD_at j2] at this
  simpa using this

theorem same_look {a b : List StR} (h : sameL a b true = true) : (lookF (b.map StR.up)).e = (lookF (a.map StR.up)).e := by
  rw [← look_core, ← sameL_core h, look_core]

/-- Another text that has the same words. -/
theorem script_again {s t : List UInt8} {r r' : List (List TokR)} {a : List StR} (h : scriptF s = .inr a) (hf : linesF s = .inr r) (ht : linesF t = .inr r') (he : r'.map (List.map erT) = r.map (List.map erT)) (hl : t.length ≤ 65536) :
    ∃ b, scriptF t = .inr b ∧ parseG r' = .inr b ∧ sameL a b true = true ∧ printT (b.map StR.up) = printT (a.map StR.up) := by
  obtain ⟨_, i2, i3⟩ := scriptF_inr h
  obtain ⟨r0, hf0, hp⟩ := parseF_inr i2
  rw [hf] at hf0
  obtain rfl := Sum.inr.inj hf0
  have hs := parse_sim hf ht he.symm
  rw [i2] at hs
  cases hb : parseF t with
  | inl p => rw [hb] at hs; exact hs.elim
  | inr b =>
    rw [hb] at hs
    obtain ⟨r1, hf1, hp1⟩ := parseF_inr hb
    rw [ht] at hf1
    obtain rfl := Sum.inr.inj hf1
    refine ⟨b, ?_, hp1, hs, ?_⟩
    · unfold scriptF
      rw [if_neg (by omega), hb]
      simp only
      rw [same_look hs, if_pos i3]
    · rw [read_text ht hp1, read_text hf hp, lnCat_map, lnCat_map, same_lines he]

def bkHead : List UInt8 := [35, 32, 97, 32, 114, 101, 109, 97, 114, 107, 10, 10]
def bkTail : List UInt8 := [32, 32, 35, 32, 97, 110, 100, 32, 111, 110, 101, 32, 109, 111, 114, 101]

theorem lnCat_tail : ∀ (r : List (List TokR)), (∀ l ∈ r, ∀ t ∈ l, goodT t) → splitC 10 (lnCat r ++ bkTail) = r.map wordT ++ [bkTail]
  | [], _ => by kernel_rfl
  | l :: r, h => by
    rw [lnCat, List.append_assoc, List.cons_append, splitC_app 10 _ _ (wordT_no (h l (List.mem_cons_self ..))), lnCat_tail r fun x hx => h x (List.mem_cons_of_mem _ hx)]
    rfl

theorem bk_lines {s : List UInt8} {r : List (List TokR)} (h : linesF s = .inr r) : linesF (bkHead ++ lnCat r ++ bkTail) = .inr (reL 2 r) := by
  have hg := linesF_good h
  have e : bkHead ++ lnCat r ++ bkTail = [35, 32, 97, 32, 114, 101, 109, 97, 114, 107] ++ 10 :: ([] ++ 10 :: (lnCat r ++ bkTail)) := by simp [bkHead]
  unfold linesF
  rw [e, splitC_app 10 _ _ (by decide), splitC_app 10 [] _ (by simp), lnCat_tail r fun l hl => (hg l hl).2]
  have w1 : wordsF [] = [] := by kernel_rfl
  have w2 : wordsF [35, 32, 97, 32, 114, 101, 109, 97, 114, 107] = [] := by kernel_rfl
  have w3 : wordsF bkTail = [] := by kernel_rfl
  simp only [linesG, w1, w2, toksF]
  rw [show 0 + 1 + 1 = 2 from rfl, linesG_app, linesG_told r 2 hg]
  simp [appS, linesG, w3, toksF, preS]

end Go.Proofs.YtjinaakebjfbiaaGreatDoor

/-
  PrinterBack returns true.
-/
namespace Go.Proofs.YtjinaakebjfbiaaGreatDoor
open Go.Ab

theorem scriptF_inl {s : List UInt8} {p : Int × Int × Int} (h : scriptF s = .inl p) : p.2.2 ≠ 0 := by
  unfold scriptF at h
  split at h
  · cases h; simp
  split at h
  · cases h; simp
  split at h
  · cases h
  · rename_i he
    cases h
    exact he

theorem cbPnB : Callable Tryz.prog 7 := fun _ _ => by kernel_rfl
set_option maxHeartbeats 6400000 in
set_option maxRecDepth 100000 in
theorem printerBack_c (s : List UInt8) : PCalls Tryz.prog 7 [.str s] (.bool true) := by
  refine pcalls_of_awp tyok cbPnB Tryz.func7 rfl rfl ?_
  by_cases hs : s.length > 2000
  · have hs' : (s.length : Int) > 2000 := by omega
    repeat (first | refine wKB ?_ | refine awp_seq_k (fun K hK => ?_) | refine areg_text mixed tyok (by decide +kernel) ?_ | refine qal tyok (fun bx => ?_) | refine qbox (fun bx => ?_) | refine qboxV (fun bx => ?_) | refine TR.pcall rfl rfl rfl rfl True.intro rfl rfl (known23_c) ?_ | refine pco rfl rfl rfl rfl rfl rfl rfl rfl (fun _ => known23_c) ?_ | ((repeat ((fail_if_success (refine hK _ _ ?_)); clear hK)); refine hK _ _ ?_; clear hK))
    refine r1 ?_
    exact Sub.refl _
  have hs' : ¬ (s.length : Int) > 2000 := by omega
  have g1 := script22_c s (by omega)
  cases hss : scriptF s with
  | inl p =>
    obtain ⟨p1, p2, p3⟩ := p
    have hp : p3 ≠ 0 := scriptF_inl hss
    rw [hss] at g1
    simp only [scriptV] at g1
    repeat (first | refine wKB ?_ | refine awp_seq_k (fun K hK => ?_) | refine areg_text mixed tyok (by decide +kernel) ?_ | refine qal tyok (fun bx => ?_) | refine qbox (fun bx => ?_) | refine qboxV (fun bx => ?_) | refine TR.pcall rfl rfl rfl rfl True.intro rfl rfl (known23_c) ?_ | refine TR.pcall rfl rfl rfl rfl True.intro rfl rfl (g1) ?_ | refine pco rfl rfl rfl rfl rfl rfl rfl rfl (fun _ => known23_c) ?_ | refine pco rfl rfl rfl rfl rfl rfl rfl rfl (fun _ => g1) ?_ | ((repeat ((fail_if_success (refine hK _ _ ?_)); clear hK)); refine hK _ _ ?_; clear hK))
    refine r1 ?_
    exact Sub.refl _
  | inr a =>
  rw [hss] at g1
  simp only [scriptV] at g1
  obtain ⟨i1, i2, i3⟩ := scriptF_inr hss
  obtain ⟨b1, b2⟩ := scriptF_bd hss
  obtain ⟨r, hf, hp⟩ := parseF_inr i2
  have htl := told_len hf
  have hcl := lnCat_len r
  have k1 := lnCat_lines hf
  have k2 := bk_lines hf
  have n1 : bkHead.length = 12 := rfl
  have n2 : bkTail.length = 16 := rfl
  have n3 : (bkHead ++ lnCat r ++ bkTail).length = 12 + (lnCat r).length + 16 := by rw [List.length_append, List.length_append, n1, n2]
  obtain ⟨b, s1, p1, m1, t1⟩ := script_again hss hf k1 (reL_er r 0) (by omega)
  obtain ⟨o, s2, p2, m2, t2⟩ := script_again hss hf k2 (reL_er r 2) (by omega)
  obtain ⟨_, _, j3⟩ := scriptF_inr s1
  obtain ⟨_, _, o3⟩ := scriptF_inr s2
  obtain ⟨d1, d2⟩ := scriptF_bd s1
  obtain ⟨q1, q2⟩ := scriptF_bd s2
  have sa := read_small hf hp (by omega) b1
  have sb := read_small k1 p1 (by omega) d1
  have so := read_small k2 p2 (by omega) q1
  have hT := read_text hf hp
  rw [hT] at t1 t2
  have ea : printF (a.map StR.up) = (0, lnCat r) := by
    unfold printF
    rw [if_neg (by simpa using i3), if_pos (read_ok hf hp), hT]
  have eb : printF (b.map StR.up) = (0, lnCat r) := by
    unfold printF
    rw [if_neg (by simpa using j3), if_pos (read_ok k1 p1), t1]
  have eo : printF (o.map StR.up) = (0, lnCat r) := by
    unfold printF
    rw [if_neg (by simpa using o3), if_pos (read_ok k2 p2), t2]
  have fa : ∀ {l : List StI}, Small l → ∀ x ∈ l, x.args.length ≤ 2000000 ∧ lenI x ≤ 2000000 := fun h x hx => ⟨h.args x hx, h.line x hx⟩
  have w1 := PCalls.sub (print_c _ sa) (.cons (stmts_up a) .nil)
  have w2 := PCalls.sub (print_c _ sb) (.cons (stmts_up b) .nil)
  have w3 := PCalls.sub (print_c _ so) (.cons (stmts_up o) .nil)
  rw [ea] at w1
  rw [eb] at w2
  rw [eo] at w3
  have g2 := script22_c (lnCat r) (by omega)
  have g3 := script22_c (bkHead ++ lnCat r ++ bkTail) (by omega)
  rw [s1] at g2
  rw [s2] at g3
  simp only [scriptV] at g2 g3
  have u1 := PCalls.sub (psame_c _ (b.map StR.up) (by have := sa.len; omega) (fa sa) (fa sb)) (.cons (stmts_up a) (.cons (stmts_up b) .nil))
  have hsm : sameLn (a.map StR.up) (b.map StR.up) = true := by
    rw [sameLn_text hf hp k1 p1, hT, t1]
    simp
  rw [hsm] at u1
  have u2 := sameL_c a b true (by omega) (fun x hx => by have := b2 x hx; omega) m1
  have hm1 : ({ data := #[35, 32, 97, 32, 114, 101, 109, 97, 114, 107, 10, 10] } : ByteArray).data.toList.length = 12 := rfl
  have hm2 : (({ data := #[35, 32, 97, 32, 114, 101, 109, 97, 114, 107, 10, 10] } : ByteArray).data.toList ++ lnCat r).length = 12 + (lnCat r).length := by rw [List.length_append, hm1]
  have hm3 : ({ data := #[32, 32, 35, 32, 97, 110, 100, 32, 111, 110, 101, 32, 109, 111, 114, 101] } : ByteArray).data.toList.length = 16 := rfl
  repeat (first | refine wKB ?_ | refine awp_seq_k (fun K hK => ?_) | refine areg_text mixed tyok (by decide +kernel) ?_ | refine qal tyok (fun bx => ?_) | refine qbox (fun bx => ?_) | refine qboxV (fun bx => ?_) | refine TR.pcall rfl rfl rfl rfl True.intro rfl rfl (known23_c) ?_ | refine TR.pcall rfl rfl rfl rfl True.intro rfl rfl (g1) ?_ | refine TR.pcall rfl rfl rfl rfl True.intro rfl rfl (g2) ?_ | refine TR.pcall rfl rfl rfl rfl True.intro rfl rfl (g3) ?_ | refine TR.pcall rfl rfl rfl rfl True.intro rfl rfl (w1) ?_ | refine TR.pcall rfl rfl rfl rfl True.intro rfl rfl (w2) ?_ | refine TR.pcall rfl rfl rfl rfl True.intro rfl rfl (w3) ?_ | refine TR.pcall rfl rfl rfl rfl True.intro rfl rfl (u1) ?_ | refine TR.pcall rfl rfl rfl rfl True.intro rfl rfl (u2) ?_ | refine pco rfl rfl rfl rfl rfl rfl rfl rfl (fun _ => known23_c) ?_ | refine pco rfl rfl rfl rfl rfl rfl rfl rfl (fun _ => g1) ?_ | refine pco rfl rfl rfl rfl rfl rfl rfl rfl (fun _ => g2) ?_ | refine pco rfl rfl rfl rfl rfl rfl rfl rfl (fun _ => g3) ?_ | refine pco rfl rfl rfl rfl rfl rfl rfl rfl (fun _ => w1) ?_ | refine pco rfl rfl rfl rfl rfl rfl rfl rfl (fun _ => w2) ?_ | refine pco rfl rfl rfl rfl rfl rfl rfl rfl (fun _ => w3) ?_ | refine pco rfl rfl rfl rfl rfl rfl rfl rfl (fun _ => u1) ?_ | refine pco rfl rfl rfl rfl rfl rfl rfl rfl (fun _ => u2) ?_ | ((repeat ((fail_if_success (refine hK _ _ ?_)); clear hK)); refine hK _ _ ?_; clear hK))
  refine fnQ_ret 3 rfl (.tmp rfl .nil) (Sub.of_eq (congrArg AV.bool ?_)) ⟨rfl, rfl⟩
  simp

end Go.Proofs.YtjinaakebjfbiaaGreatDoor
