/-
  The law's fixed examples: they answer as they are said to.
-/
import Derived.Test.YtmjigepfjcokdaaMo9
namespace Go.Proofs.Ytmjigepfjcokdaa
open Go.Ab

theorem one_cat {a b : Int} : oneF [a, b] = [(a, b)] := rfl

theorem times_v {a b r : List Pw} {e : Int} (ha : a.length ≤ 400000) (hb : b.length ≤ 400000) (h : timesF a b = (r, e)) : PCalls Try.prog 11 [mono a, mono b] (resE (r, e)) := h ▸ times_c a b ha hb
theorem over_v {a b r : List Pw} {e : Int} (ha : a.length ≤ 400000) (hb : b.length ≤ 400000) (h : overF a b = (r, e)) : PCalls Try.prog 13 [mono a, mono b] (resE (r, e)) := h ▸ over_c a b ha hb
theorem compare_v {a b : List Pw} {c e : Int} (ha : a.length ≤ 400000) (hb : b.length ≤ 400000) (h : compareF a b = (c, e)) : PCalls Try.prog 18 [mono a, mono b] (.tuple [.int .i64 c, .int .i64 e]) := by
  have := compare_c a b ha hb
  rw [h] at this
  exact this
theorem same_v {a b : List Pw} {r : Bool} (ha : a.length ≤ 1000000) (h : sameF a b = r) : PCalls Try.prog 15 [mono a, mono b] (.bool r) := h ▸ same_c a b ha

theorem may_nil : PCalls Try.prog 16 [.nils] (.bool true) := PCalls.sub (mayc (m := []) (by simp) rfl) (.cons (Sub.nilsv _ _) .nil)

theorem cbKnown : Callable Try.prog 10 := fun _ _ => by kernel_rfl
theorem known_c : PCalls Try.prog 10 [] (.bool true) := by
  refine pcalls_of_awp tyok cbKnown Try.func10 rfl rfl ?_
  have o1 := one_l [1, 2, 3, 1] (r := [(1, 2), (3, 1)]) (by simp) rfl
  have o2 := one_l [1, 1] (r := [(1, 1)]) (by simp) rfl
  have o3 := one_l [1, 5] (r := [(1, 5)]) (by simp) rfl
  have o4 := one_l [2, 1] (r := [(2, 1)]) (by simp) rfl
  have o5 := one_l [1, 3, 3, 1] (r := [(1, 3), (3, 1)]) (by simp) rfl
  have o6 := one_l [1, 1, 3, 1] (r := [(1, 1), (3, 1)]) (by simp) rfl
  have o7 := one_l [2, 1, 2, 1] (r := [(2, 1), (2, 1)]) (by simp) rfl
  have t1 := times_v (a := [(1, 2), (3, 1)]) (b := [(1, 1)]) (r := [(1, 3), (3, 1)]) (e := 0) (by simp) (by simp) (by simp [timesF, may, mayF, zipM, madeF, gAdd])
  have v1 := over_v (a := [(1, 2), (3, 1)]) (b := [(1, 1)]) (r := [(1, 1), (3, 1)]) (e := 0) (by simp) (by simp) (by simp [overF, may, mayF, zipM, madeF, gSub, noneF])
  have v2 := over_v (a := [(1, 5)]) (b := [(2, 1)]) (r := []) (e := 5) (by simp) (by simp) (by simp [overF, may, mayF, zipM, noneF])
  have c1 := compare_v (a := [(1, 5)]) (b := [(2, 1)]) (c := -1) (e := 0) (by simp) (by simp) (by simp [compareF, may, mayF, zipM, cmpF, cmpI])
  have s1 := same_v (a := [(1, 3), (3, 1)]) (b := [(1, 3), (3, 1)]) (r := true) (by simp) (by simp [sameF])
  have s2 := same_v (a := [(1, 1), (3, 1)]) (b := [(1, 1), (3, 1)]) (r := true) (by simp) (by simp [sameF])
  have m1 := mayc (m := [(2, 1), (2, 1)]) (b := false) (by simp) (by simp [may, mayF])
  repeat (first | refine awp_seq_k (fun K hK => ?_) | refine awp_region tyok ?_ | refine areg_text mixed tyok (by kernel_rfl) ?_ | refine awp_block ?_ | (((with_reducible refine tr_id ?_); first | refine qp ?_ | refine TR.nil ?_ | (refine tr_guarded rfl ?_; first | refine qon ?_ | refine qoff ?_ | refine qopt ?_ | refine qhopt ?_ | refine qgp ?_) | refine qld ?_ | refine qpick ?_ | refine qal tyok (fun bx => ?_) | refine qbox (fun bx => ?_) | refine qboxV (fun bx => ?_) | refine qstV tyok ?_ | refine qst tyok ?_ | refine qbs tyok ?_ | refine TR.pcall rfl rfl rfl rfl True.intro rfl rfl (o1) ?_ | refine TR.pcall rfl rfl rfl rfl True.intro rfl rfl (o2) ?_ | refine TR.pcall rfl rfl rfl rfl True.intro rfl rfl (o3) ?_ | refine TR.pcall rfl rfl rfl rfl True.intro rfl rfl (o4) ?_ | refine TR.pcall rfl rfl rfl rfl True.intro rfl rfl (o5) ?_ | refine TR.pcall rfl rfl rfl rfl True.intro rfl rfl (o6) ?_ | refine TR.pcall rfl rfl rfl rfl True.intro rfl rfl (o7) ?_ | refine TR.pcall rfl rfl rfl rfl True.intro rfl rfl (t1) ?_ | refine TR.pcall rfl rfl rfl rfl True.intro rfl rfl (v1) ?_ | refine TR.pcall rfl rfl rfl rfl True.intro rfl rfl (v2) ?_ | refine TR.pcall rfl rfl rfl rfl True.intro rfl rfl (c1) ?_ | refine TR.pcall rfl rfl rfl rfl True.intro rfl rfl (s1) ?_ | refine TR.pcall rfl rfl rfl rfl True.intro rfl rfl (s2) ?_ | refine TR.pcall rfl rfl rfl rfl True.intro rfl rfl (m1) ?_ | refine TR.pcall rfl rfl rfl rfl True.intro rfl rfl (may_nil) ?_ | refine TR.pcallopt rfl rfl rfl rfl rfl rfl (by (first | exact True.intro | exact ⟨id, True.intro⟩ | exact ⟨id, id, True.intro⟩ | exact ⟨id, id, id, True.intro⟩)) rfl rfl (fun _ => o1) ?_ | refine TR.pcallopt rfl rfl rfl rfl rfl rfl (by (first | exact True.intro | exact ⟨id, True.intro⟩ | exact ⟨id, id, True.intro⟩ | exact ⟨id, id, id, True.intro⟩)) rfl rfl (fun _ => o2) ?_ | refine TR.pcallopt rfl rfl rfl rfl rfl rfl (by (first | exact True.intro | exact ⟨id, True.intro⟩ | exact ⟨id, id, True.intro⟩ | exact ⟨id, id, id, True.intro⟩)) rfl rfl (fun _ => o3) ?_ | refine TR.pcallopt rfl rfl rfl rfl rfl rfl (by (first | exact True.intro | exact ⟨id, True.intro⟩ | exact ⟨id, id, True.intro⟩ | exact ⟨id, id, id, True.intro⟩)) rfl rfl (fun _ => o4) ?_ | refine TR.pcallopt rfl rfl rfl rfl rfl rfl (by (first | exact True.intro | exact ⟨id, True.intro⟩ | exact ⟨id, id, True.intro⟩ | exact ⟨id, id, id, True.intro⟩)) rfl rfl (fun _ => o5) ?_ | refine TR.pcallopt rfl rfl rfl rfl rfl rfl (by (first | exact True.intro | exact ⟨id, True.intro⟩ | exact ⟨id, id, True.intro⟩ | exact ⟨id, id, id, True.intro⟩)) rfl rfl (fun _ => o6) ?_ | refine TR.pcallopt rfl rfl rfl rfl rfl rfl (by (first | exact True.intro | exact ⟨id, True.intro⟩ | exact ⟨id, id, True.intro⟩ | exact ⟨id, id, id, True.intro⟩)) rfl rfl (fun _ => o7) ?_ | refine TR.pcallopt rfl rfl rfl rfl rfl rfl (by (first | exact True.intro | exact ⟨id, True.intro⟩ | exact ⟨id, id, True.intro⟩ | exact ⟨id, id, id, True.intro⟩)) rfl rfl (fun _ => t1) ?_ | refine TR.pcallopt rfl rfl rfl rfl rfl rfl (by (first | exact True.intro | exact ⟨id, True.intro⟩ | exact ⟨id, id, True.intro⟩ | exact ⟨id, id, id, True.intro⟩)) rfl rfl (fun _ => v1) ?_ | refine TR.pcallopt rfl rfl rfl rfl rfl rfl (by (first | exact True.intro | exact ⟨id, True.intro⟩ | exact ⟨id, id, True.intro⟩ | exact ⟨id, id, id, True.intro⟩)) rfl rfl (fun _ => v2) ?_ | refine TR.pcallopt rfl rfl rfl rfl rfl rfl (by (first | exact True.intro | exact ⟨id, True.intro⟩ | exact ⟨id, id, True.intro⟩ | exact ⟨id, id, id, True.intro⟩)) rfl rfl (fun _ => c1) ?_ | refine TR.pcallopt rfl rfl rfl rfl rfl rfl (by (first | exact True.intro | exact ⟨id, True.intro⟩ | exact ⟨id, id, True.intro⟩ | exact ⟨id, id, id, True.intro⟩)) rfl rfl (fun _ => s1) ?_ | refine TR.pcallopt rfl rfl rfl rfl rfl rfl (by (first | exact True.intro | exact ⟨id, True.intro⟩ | exact ⟨id, id, True.intro⟩ | exact ⟨id, id, id, True.intro⟩)) rfl rfl (fun _ => s2) ?_ | refine TR.pcallopt rfl rfl rfl rfl rfl rfl (by (first | exact True.intro | exact ⟨id, True.intro⟩ | exact ⟨id, id, True.intro⟩ | exact ⟨id, id, id, True.intro⟩)) rfl rfl (fun _ => m1) ?_ | refine TR.pcallopt rfl rfl rfl rfl rfl rfl (by (first | exact True.intro | exact ⟨id, True.intro⟩ | exact ⟨id, id, True.intro⟩ | exact ⟨id, id, id, True.intro⟩)) rfl rfl (fun _ => may_nil) ?_)) | refine awp_cond_true rfl ?_ | refine awp_cond_false rfl ?_ | refine awp_skip ?_ | refine awp_exit ?_ | refine awp_ret ?_ | refine awp_label ?_ | (with_reducible refine thenQ_normal ?_) | (with_reducible refine blockQ_normal ?_) | (with_reducible refine thenQ_exit ?_) | (with_reducible refine blockQ_hit ?_) | refine blockQ_miss rfl ?_ | (with_reducible refine thenQ_ret ?_) | (with_reducible refine blockQ_ret ?_) | (with_reducible refine thenQ_panic ?_) | (with_reducible refine blockQ_panic ?_) | ((repeat ((fail_if_success (refine hK _ _ ?_)); clear hK)); refine hK _ _ ?_; clear hK))
  refine r1 ?_
  exact Sub.refl _

end Go.Proofs.Ytmjigepfjcokdaa
