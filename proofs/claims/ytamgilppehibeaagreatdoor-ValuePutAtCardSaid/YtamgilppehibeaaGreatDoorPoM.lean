/-
  Polynomials as data: terms; terms in order.
-/
import Derived.Test.YtamgilppehibeaaGreatDoorNaM
import Derived.Test.YtamgilppehibeaaGreatDoorMoM
import Derived.Test.YtamgilppehibeaaGreatDoorSoB
import Derived.Test.YtamgilppehibeaaGreatDoorAbE
set_option maxRecDepth 100000
set_option maxHeartbeats 1600000
namespace Go.Proofs.YtamgilppehibeaaGreatDoor
open Go.Ab
structure TermR where
 c:IntR
 m:List Pw
deriving Inhabited
def termE (t:TermR):List AV:=intEs t.c++[mono t.m]
abbrev polyV (l:List TermR):AV:=sl termE 3 l .view
abbrev TermM:Type:={t:TermR//may t.m=true}
instance:Inhabited TermM:=⟨⟨⟨⟨false,[]⟩,[]⟩,rfl⟩⟩
def termM (t:TermM):List AV:=termE t.1
theorem enc3:Enc3 termM:=⟨fun _=>rfl,fun _=>rfl⟩
def behind (a b:TermM):Int:=ordM b.1.m a.1.m
theorem may_len:∀(m:List Pw) (last:Int),last≤200→mayF last m=true→(m.length:Int)+last≤200
 |[],last,h,_=>by simpa using h
 |p::m,last,_,h=>by
  obtain⟨h1,h2⟩:=may_cons.1 h
  have:=may_len m p.1 h1.2.1 h2
  rw[List.length_cons]
  omega
theorem may_short {m:List Pw} (h:may m=true):m.length≤400000:=by
 have:=may_len m 0 (by decide) h
 omega
theorem cbPordT:Callable Tryz.prog 65:=fun _ _=>by kernel_rfl
theorem porder_c (a b:List Pw) (ha:a.length≤400000) (hb:b.length≤400000):PCalls Tryz.prog 65 [mono a,mono b] (.int .i64 (ordM a b)):=by
 refine pcalls_of_awp tyok cbPordT Tryz.func65 rfl rfl ?_
 have g:=compare_c a b ha hb
 repeat(first|refine wD ?_|refine awp_seq_k fun K hK=>?_|refine wN fun bx=>?_|refine wC g ?_|(refine wH ?_;clear hK))
 refine r1 ?_
 exact Sub.refl _
theorem cbCol1:Callable Tryz.prog 117:=fun _ _=>by kernel_rfl
theorem collect1_c:CmpC termM 117 behind:=fun x y=>by
 refine pcalls_of_awp tyok cbCol1 Tryz.func117 rfl rfl ?_
 have g:=porder_c y.1.m x.1.m (may_short y.2) (may_short x.2)
 repeat(first|refine wD ?_|refine awp_seq_k fun K hK=>?_|refine wN fun bx=>?_|refine wC g ?_|(refine wH ?_;clear hK))
 refine r1 ?_
 exact Sub.refl _
theorem behind_sw:SW fun x y:TermM=>decide (behind x y<0):=by
 refine⟨fun a b h=>?_,fun a b c h1 h2=>?_⟩
 ·obtain⟨x,z,w,o,e1,e2,-⟩:=total_law a.2 b.2 b.2
  unfold behind ordM at h ⊢
  rw[e2]at h
  rw[e1]
  have h:=of_decide_eq_true h
  exact decide_eq_false (by simp only at h ⊢;omega)
 ·obtain⟨x,z,w,o,e1,e2,e3,e4,-,-,-,hge,-⟩:=total_law c.2 b.2 a.2
  unfold behind ordM at h1 h2 ⊢
  rw[e3]at h1
  rw[e1]at h2
  rw[e4]
  have h1:=of_decide_eq_false h1
  have h2:=of_decide_eq_false h2
  exact decide_eq_false (by
   have:=hge (by simp only at h2;omega) (by simp only at h1;omega)
   simp only
   omega)
end Go.Proofs.YtamgilppehibeaaGreatDoor
namespace Go.Proofs.YtamgilppehibeaaGreatDoor
open Go.Ab
theorem cbCloM:Callable Tryz.prog 118:=fun _ _=>by kernel_rfl
theorem cloneM_c (m:List Pw) (hl:m.length≤1000000000):PCalls Tryz.prog 118 [mono m] (mono m):=by
 refine pcalls_of_awp tyok cbCloM Tryz.func118 rfl rfl ?_
 repeat(first|refine wDB ?_|refine awp_seq_k fun K hK=>?_|refine wN fun bx=>?_|(refine wH ?_;clear hK))
 refine qnilU tyok (fun b hb=>?_)
 cases b
 ·repeat(first|refine wDB ?_|refine awp_seq_k fun K hK=>?_|refine wN fun bx=>?_|(refine wH ?_;clear hK))
  refine qappF tyok encP m (fun _ _=>SubL.refl _) ?_ (fun ad cp=>?_)
  ·constructor
   ·rw[Nat.zero_add]
    have:m.length*16≤1000000000*16:=Nat.mul_le_mul_right _ hl
    exact Nat.le_trans this (by decide)
   ·omega
  repeat(first|refine wDB ?_|refine awp_seq_k fun K hK=>?_|refine wN fun bx=>?_|(refine wH ?_;clear hK))
  refine r1 ?_
  exact Sub.view _ _ _ _
 ·obtain rfl:=List.length_eq_zero_iff.1 (hb rfl)
  repeat(first|refine wDB ?_|refine awp_seq_k fun K hK=>?_|refine wN fun bx=>?_|(refine wH ?_;clear hK))
  refine r1 ?_
  exact Sub.nilsv _ _
end Go.Proofs.YtamgilppehibeaaGreatDoor
