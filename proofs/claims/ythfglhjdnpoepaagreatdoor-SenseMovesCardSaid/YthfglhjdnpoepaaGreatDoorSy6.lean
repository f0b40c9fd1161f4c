/-
  SenseMoves returns true.
-/
import Derived.Test.YthfglhjdnpoepaaGreatDoorSy2
import Derived.Test.YthfglhjdnpoepaaGreatDoorSy4
import Derived.Test.YthfglhjdnpoepaaGreatDoorSx1
import Derived.Test.YthfglhjdnpoepaaGreatDoorGr
set_option maxRecDepth 100000
set_option maxHeartbeats 12800000
namespace Go.Proofs.YthfglhjdnpoepaaGreatDoor
open Go.Ab
def uxS (t:Bool) (s:SpotR):Rat:=if t=true then -s.y.q else s.x.q
def vyS (t:Bool) (s:SpotR):Rat:=if t=true then s.x.q else s.y.q
def mvS (t:Bool) (k:Rat) (b s:SpotR):SpotR:=⟨ratC (uxS t s*k+b.x.q),ratC (vyS t s*k+b.y.q)⟩
theorem mvS_p (t:Bool) (k:Rat) (b s:SpotR):(mvS t k b s).p=mvP t k b.p s.p:=by
 unfold mvS mvP uxS vyS SpotR.p
 cases t<;>simp[ratC_q]
theorem mvS_list (t:Bool) (k:Rat) (b:SpotR) (l:List SpotR):MovedL t k b.p l (l.map (mvS t k b)):=by
 have:=MovedL.map (t:=t) (k:=k) (by':=b.p) (f:=fun s=>s) (g:=mvS t k b) (a:=l) fun x _=>mvS_p t k b x
 rw[List.map_id']at this
 exact this
theorem spot_q {k:Nat} {s:SpotR} (h:SpotOk (k+1) s):QOk (k+1) s.x.q∧QOk (k+1) s.y.q:=⟨ratR_qok h.x,ratR_qok h.y⟩
theorem uxS_ok {s:SpotR} (t:Bool) (h:SpotOk 3 s):QOk 3 (uxS t s):=by
 have:=spot_q h
 unfold uxS
 cases t
 ·exact this.1
 ·exact this.2.neg
theorem vyS_ok {s:SpotR} (t:Bool) (h:SpotOk 3 s):QOk 3 (vyS t s):=by
 have:=spot_q h
 unfold vyS
 cases t
 ·exact this.2
 ·exact this.1
theorem mvS_ok {s b:SpotR} (t:Bool) {k:Rat} (h:SpotOk 3 s) (hb:SpotOk 3 b) (hk:QOk 2 k):SpotOk 9 (mvS t k b s):=
 ⟨ratC_ok (((uxS_ok t h).mul hk).add (spot_q hb).1),ratC_ok (((vyS_ok t h).mul hk).add (spot_q hb).2)⟩
theorem cbLmov:Callable Tryz.prog 6:=fun _ _=>by kernel_rfl
theorem senseMoves_w (m:Nat) (l:List StI) (p:List SpotR) (w:SpotR) (t:Bool) (n:Int) (hl:l.length≤1000000000000000) (hA:∀x∈l,x.args.length≤1000000000000000) (hT:∀x∈l,∀t∈x.args,t.w.length≤1000000000000000)
  (hN:∀x∈l,∀t∈x.args,-9223372036854775808≤t.n∧t.n≤9223372036854775807) (hp:SpotsOk m p) (hpl:p.length≤1099511627744) (hw:SpotOk m w):
  PCalls Tryz.prog 6 [stmtsI l,spots p,.agg (spE w),.bool t,.int .i64 n] (.bool true):=by
 refine pcalls_of_awp tyok cbLmov Tryz.func6 rfl rfl ?_
 have g1:=great_c l hl hA hT
 have g2:=lgreat_c (w::p) (by rw[List.length_cons];omega)
 have gk:=lknown_c
 cases c1:decide (grL l>1000)with
 |true=>
  rw[c1]at g1
  ((repeat(first|refine wDB ?_|refine awp_seq_k fun K hK=>?_|refine qpc rfl rfl rfl (g1) ?_|refine qpc rfl rfl rfl (gk) ?_|refine qpo rfl rfl rfl rfl rfl rfl (fun _=>g1) ?_|refine qpo rfl rfl rfl rfl rfl rfl (fun _=>gk) ?_|(refine wH ?_;clear hK)));refine wN fun b7=>?_;(repeat(first|refine wDB ?_|refine awp_seq_k fun K hK=>?_|refine wN fun bx=>?_|refine qpc rfl rfl rfl (g1) ?_|refine qpc rfl rfl rfl (gk) ?_|refine qpo rfl rfl rfl rfl rfl rfl (fun _=>g1) ?_|refine qpo rfl rfl rfl rfl rfl rfl (fun _=>gk) ?_|(refine wH ?_;clear hK))))
  refine r1 ?_
  exact Sub.refl _
 |false=>
 rw[c1]at g1
 ((repeat(first|refine wKB ?_|refine awp_seq_k fun K hK=>?_|refine qpc rfl rfl rfl (g1) ?_|refine qpo rfl rfl rfl rfl rfl rfl (fun _=>g1) ?_|(refine wH ?_;clear hK)));refine wN fun b7=>?_;(repeat(first|refine wKB ?_|refine awp_seq_k fun K hK=>?_|refine wN fun bx=>?_|refine qpc rfl rfl rfl (g1) ?_|refine qpo rfl rfl rfl rfl rfl rfl (fun _=>g1) ?_|(refine wH ?_;clear hK))))
 refine TR.appendF2 tyok (fun ad cp=>sl spE 8 (w::p) (.own ad cp)) rfl rfl rfl rfl True.intro rfl rfl rfl rfl rfl rfl rfl rfl rfl rfl rfl ?_ (fun ad cp=>?_) fun ad cp=>?_
 ·simp only
  omega
 ·exact cons_subS (SubL.refl _) rfl
 have gg2:=PCalls.sub g2 (vs:=[sl spE 8 (w::p) (.own ad cp)]) (.cons (Sub.view _ _ _ _) .nil)
 cases c2:greatB (w::p)with
 |true=>
  rw[c2]at gg2
  repeat(first|refine wDB ?_|refine awp_seq_k fun K hK=>?_|refine wN fun bx=>?_|refine qpc rfl rfl rfl (gg2) ?_|refine qpc rfl rfl rfl (gk) ?_|refine qpo rfl rfl rfl rfl rfl rfl (fun _=>gg2) ?_|refine qpo rfl rfl rfl rfl rfl rfl (fun _=>gk) ?_|(refine wH ?_;clear hK))
  refine r1 ?_
  exact Sub.refl _
 |false=>
 rw[c2]at gg2
 obtain⟨hall,h45⟩:=greatB_no c2 (k:=m) (fun s hs=>by
  rcases List.mem_cons.1 hs with rfl|hs
  ·exact hw
  ·exact hp s hs)
 rw[List.length_cons]at h45
 have h3w:SpotOk 3 w:=hall w (List.mem_cons_self ..)
 have h3:SpotsOk 3 p:=fun s hs=>hall s (List.mem_cons_of_mem _ hs)
 by_cases n0:n=0
 ·repeat(first|refine wDB ?_|refine awp_seq_k fun K hK=>?_|refine wN fun bx=>?_|refine qpc rfl rfl rfl (gg2) ?_|refine qpc rfl rfl rfl (gk) ?_|refine qpo rfl rfl rfl rfl rfl rfl (fun _=>gg2) ?_|refine qpo rfl rfl rfl rfl rfl rfl (fun _=>gk) ?_|(refine wH ?_;clear hK))
  refine r1 ?_
  exact Sub.refl _
 by_cases n1:n>1000
 ·repeat(first|refine wDB ?_|refine awp_seq_k fun K hK=>?_|refine wN fun bx=>?_|refine qpc rfl rfl rfl (gg2) ?_|refine qpc rfl rfl rfl (gk) ?_|refine qpo rfl rfl rfl rfl rfl rfl (fun _=>gg2) ?_|refine qpo rfl rfl rfl rfl rfl rfl (fun _=>gk) ?_|(refine wH ?_;clear hK))
  refine r1 ?_
  exact Sub.refl _
 by_cases n2:n< -1000
 ·repeat(first|refine wDB ?_|refine awp_seq_k fun K hK=>?_|refine wN fun bx=>?_|refine qpc rfl rfl rfl (gg2) ?_|refine qpc rfl rfl rfl (gk) ?_|refine qpo rfl rfl rfl rfl rfl rfl (fun _=>gg2) ?_|refine qpo rfl rfl rfl rfl rfl rfl (fun _=>gk) ?_|(refine wH ?_;clear hK))
  refine r1 ?_
  exact Sub.refl _
 have s1:=sscript_c 3 l p (by decide) (by decide) (by omega) (fun x hx=>by have:=hA x hx;omega) hN h3 (by omega)
 by_cases he:(senseF l p).2.2=0
 rotate_left
 ·generalize senseF l p=z at s1 he
  obtain⟨a,b,e⟩:=z
  have s1:PCalls Tryz.prog 27 [stmtsI l,spots p] (.tuple [.bool a,.bool b,.int .i64 e]):=s1
  simp only at he
  repeat(first|refine wDB ?_|refine awp_seq_k fun K hK=>?_|refine wN fun bx=>?_|refine qpc rfl rfl rfl (gg2) ?_|refine qpc rfl rfl rfl (s1) ?_|refine qpc rfl rfl rfl (gk) ?_|refine qpo rfl rfl rfl rfl rfl rfl (fun _=>gg2) ?_|refine qpo rfl rfl rfl rfl rfl rfl (fun _=>s1) ?_|refine qpo rfl rfl rfl rfl rfl rfl (fun _=>gk) ?_|(refine wH ?_;clear hK))
  refine r1 ?_
  exact Sub.refl _
 have gsm:PCalls Tryz.prog 22 [.int .i64 n,.int .i64 1] (.agg (qE (qrC (n:Rat)))):=qSmall_c n 1 (by omega) (by omega) (by decide) (by decide)
 have hnr:(n:Rat)≠0:=by
  intro e
  exact n0 (by exact_mod_cast e)
 have s2:=sscript_c 9 l (p.map (mvS t n w)) (by decide) (by decide) (by omega) (fun x hx=>by have:=hA x hx;omega) hN (fun s hs=>by
  obtain⟨z,hz,rfl⟩:=List.mem_map.1 hs
  exact mvS_ok t (h3 z hz) h3w (small_qok (by omega))) (by rw[List.length_map];omega)
 rw[moved_sense hnr (mvS_list t n w p) l]at s2
 generalize senseF l p=z at s1 s2 he
 obtain⟨a,b,e⟩:=z
 simp only at he
 subst he
 have s1:PCalls Tryz.prog 27 [stmtsI l,spots p] (.tuple [.bool a,.bool b,.int .i64 0]):=s1
 have s2:PCalls Tryz.prog 27 [stmtsI l,spots (p.map (mvS t n w))] (.tuple [.bool a,.bool b,.int .i64 0]):=s2
 have qn:QOk 2 (n:Rat):=small_qok (by omega)
 have z0:PCalls Tryz.prog 22 [.int .i64 0,.int .i64 1] (.agg (qE (qrC 0))):=qSmall_c 0 1 (by decide) (by decide) (by decide) (by decide)
 have hm:∀(u:QR) (q:Rat),QROk 4 u→u.q=q→PCalls Tryz.prog 25 [.agg (qE u),.agg (qE (qrC (n:Rat)))] (.agg (qE (qrC (q*n)))):=fun u q hu e=>by
  have:=qMul_c 4 u (qrC (n:Rat)) (by decide) hu (qrC_ok (qn.mono (by decide)))
  rw[e,qrC_q]at this
  exact this
 have ow:=qOf_c w.x (h3w.x.mono (by decide))
 have ov:=qOf_c w.y (h3w.y.mono (by decide))
 have qw:=spot_q h3w
 ((repeat(first|refine wDB ?_|refine awp_seq_k fun K hK=>?_|refine qpc rfl rfl rfl (gg2) ?_|refine qpc rfl rfl rfl (s1) ?_|refine qpc rfl rfl rfl (gsm) ?_|refine qpo rfl rfl rfl rfl rfl rfl (fun _=>gg2) ?_|refine qpo rfl rfl rfl rfl rfl rfl (fun _=>s1) ?_|refine qpo rfl rfl rfl rfl rfl rfl (fun _=>gsm) ?_|(refine wH ?_;clear hK)));refine wN fun b15=>?_)
 (((repeat(first|refine wT ?_|refine wN fun bx=>?_)));(try refine wP ?_);repeat(refine wH ?_;clear hK))
 refine awp_boxSub [] (v':=.agg (qE (qrC (n:Rat)))) (Sub.of_eq rfl) ?_
 refine awp_freeze [] (s:=15) rfl rfl ?_
 refine awp_freeze [_] (s:=7) rfl rfl ?_
 repeat(first|refine wDB ?_|refine awp_seq_k fun K hK=>?_|refine wN fun bx=>?_|(refine wH ?_;clear hK))
 refine awp_tok0 8 28 ?_
 refine awp_loopP (ι:={y:Nat×Option Addr×Nat//y.1≤p.length})
  (fun y=>[(0,stmtsI l),(3,.bool t),(7,.rptr (spE w)),(11,.bool a),(12,.bool b),(14,sl spE 8 ((p.take y.1.1).map (mvS t n w)) (.own y.1.2.1 y.1.2.2)),(15,.rptr (qE (qrC (n:Rat)))),(57,spots p),(58,.int .i64 p.length),(59,.int .i64 y.1.1)])
  (fun y=>[.tok y.1.2.1 y.1.2.2 ((p.take y.1.1).map (mvS t n w)).length 8 28]) (fun y=>p.length-y.1.1) ⟨(0,none,0),Nat.zero_le _⟩ wk (by(repeat(first|exact pickNil|refine pickD (by(first|exact .here|exact .there (.here)|exact .there (.there (.here))|exact .there (.there (.there (.here)))|exact .there (.there (.there (.there (.here))))|exact .there (.there (.there (.there (.there (.here)))))|exact .there (.there (.there (.there (.there (.there (.here))))))|exact .there (.there (.there (.there (.there (.there (.there (.here)))))))|exact .there (.there (.there (.there (.there (.there (.there (.there (.here))))))))|exact .there (.there (.there (.there (.there (.there (.there (.there (.there (.here))))))))))) ?_))) ?_
 rintro⟨⟨i,ad,cp⟩,hi⟩
 simp only at hi ⊢
 by_cases hlt:i<p.length
 rotate_left
 ·have hge:¬(i:Int)<p.length:=by omega
  obtain rfl:i=p.length:=by omega
  rw[List.take_length]
  have s3:=PCalls.sub s2 (vs:=[stmtsI l,sl spE 8 (p.map (mvS t n w)) (.own ad cp)]) (.cons (Sub.refl _) (.cons (Sub.view _ _ _ _) .nil))
  cases a<;>cases b
  all_goals
   repeat(first|refine wDB ?_|refine awp_seq_k fun K hK=>?_|refine wN fun bx=>?_|refine qpc rfl rfl rfl (s3) ?_|refine qpc rfl rfl rfl (gk) ?_|refine qpo rfl rfl rfl rfl rfl rfl (fun _=>s3) ?_|refine qpo rfl rfl rfl rfl rfl rfl (fun _=>gk) ?_|(refine wH ?_;clear hK))
   refine r1 ?_
   exact Sub.refl _
 have hlt':(i:Int)<p.length:=by omega
 have est:(p.take (i+1)).map (mvS t n w)=(p.take i).map (mvS t n w)++[mvS t n w (p.getD i default)]:=by
  rw[List.take_succ_eq_append_getElem hlt,List.map_append,getD_eq_getElem' hlt]
  rfl
 have hs:=h3.at hlt
 have hln:((p.take i).map (mvS t n w)).length≤45:=by rw[List.length_map,List.length_take];omega
 ((repeat(first|refine wDB ?_|refine awp_seq_k fun K hK=>?_|(refine wH ?_;clear hK)));refine wN fun b17=>?_)
 (((repeat(first|refine wT ?_|refine wN fun bx=>?_)));(try refine wP ?_);repeat(refine wH ?_;clear hK))
 refine awp_boxSub [] (v':=.agg (spE (p.getD i default))) (Sub.of_eq rfl) ?_
 refine awp_freeze [] (s:=17) rfl rfl ?_
 generalize p.getD i default=s at est hs ⊢
 have f1:=qOf_c s.x (hs.x.mono (by decide))
 have f2:=qOf_c s.y (hs.y.mono (by decide))
 have qs:=spot_q hs
 have ux:=uxS_ok t hs
 have vy:=vyS_ok t hs
 have a1:=qAdd_c 6 (qrC (uxS t s*n)) (ofQ w.x) (by decide) (qrC_ok ((ux.mul qn).mono (by decide))) ((ofQ_ok h3w.x).mono (by decide))
 have a2:=qAdd_c 6 (qrC (vyS t s*n)) (ofQ w.y) (by decide) (qrC_ok ((vy.mul qn).mono (by decide))) ((ofQ_ok h3w.y).mono (by decide))
 rw[qrC_q,ofQ_q]at a1 a2
 have r1:=qRat_c 9 (qrC (uxS t s*n+w.x.q)) (by decide) (qrC_ok ((ux.mul qn).add qw.1))
 have r2:=qRat_c 9 (qrC (vyS t s*n+w.y.q)) (by decide) (qrC_ok ((vy.mul qn).add qw.2))
 rw[qrC_q]at r1 r2
 repeat(first|refine wKB ?_|refine awp_seq_k fun K hK=>?_|refine wN fun bx=>?_|(refine wH ?_;clear hK))
 refine(have hr:∀b18 b19 T' H',Weak T' [(0,stmtsI l),(3,.bool t),(7,.rptr (spE w)),(11,.bool a),(12,.bool b),(14,sl spE 8 ((p.take i).map (mvS t n w)) (.own ad cp)),(15,.rptr (qE (qrC (n:Rat)))),(57,spots p),(58,.int .i64 p.length),(59,.int .i64 i),(18,.ptr b18 0),(19,.ptr b19 0)]→
  List.Perm H' [.box b18 44 (.agg (qE (ofQ s.x))),.box b19 44 (.agg (qE (ofQ s.y))),.tok ad cp ((p.take i).map (mvS t n w)).length 8 28]→K T' H':=fun b18 b19=>cutKP hK ?_;?_)
 rotate_left
 ·clear hK
  refine areg_softAllocs mixed tyok [2,5] [] [0,1,2,3,4,5] [6,7] [8,9] (by kernel_rfl) (by kernel_rfl) ?_
  repeat(first|refine wD ?_|refine awp_seq_k fun K hK=>?_|refine wN fun bx=>?_|refine qpc rfl rfl rfl (f1) ?_|refine qpc rfl rfl rfl (f2) ?_|refine qpo rfl rfl rfl rfl rfl rfl (fun _=>f1) ?_|refine qpo rfl rfl rfl rfl rfl rfl (fun _=>f2) ?_|(refine wH ?_;clear hK))
  intro x hx
  have hx':x∈([6,7]:List Nat):=hx
  simp only[List.mem_cons,List.mem_nil_iff,or_false]at hx'
  rcases hx' with rfl|rfl
  ·refine one_alloc tyok rfl rfl rfl rfl rfl fun b18=>?_
   intro x hx
   have hx':x∈([7]:List Nat):=hx
   simp only[List.mem_cons,List.mem_nil_iff,or_false]at hx'
   subst hx'
   refine one_alloc tyok rfl rfl rfl rfl rfl fun b19=>?_
   refine allO_zero ?_
   repeat(first|refine wD ?_|refine awp_seq_k fun K hK=>?_|refine wN fun bx=>?_|(refine wH ?_;clear hK))
   refine hr b18 b19 _ _ wk ?_
   first|exact List.Perm.refl _|exact List.Perm.swap _ _ _
  ·refine one_alloc tyok rfl rfl rfl rfl rfl fun b19=>?_
   intro x hx
   have hx':x∈([6]:List Nat):=hx
   simp only[List.mem_cons,List.mem_nil_iff,or_false]at hx'
   subst hx'
   refine one_alloc tyok rfl rfl rfl rfl rfl fun b18=>?_
   refine allO_zero ?_
   repeat(first|refine wD ?_|refine awp_seq_k fun K hK=>?_|refine wN fun bx=>?_|(refine wH ?_;clear hK))
   refine hr b18 b19 _ _ wk ?_
   first|exact List.Perm.refl _|exact List.Perm.swap _ _ _
 clear hK
 cases t with
 |false=>
  have m1:=hm (ofQ s.x) (uxS false s) ((ofQ_ok hs.x).mono (by decide)) rfl
  have m2:=hm (ofQ s.y) (vyS false s) ((ofQ_ok hs.y).mono (by decide)) rfl
  repeat(first|refine wKB ?_|refine awp_seq_k fun K hK=>?_|refine wN fun bx=>?_|(refine wH ?_;clear hK))
  refine awp_freeze [] (s:=18) rfl rfl ?_
  refine awp_freeze [] (s:=19) rfl rfl ?_
  refine areg_soft mixed tyok [3,6,7,8,11,14,15,16] [] (List.range 21) (by decide +kernel) ?_
  repeat(first|refine wDB ?_|refine awp_seq_k fun K hK=>?_|refine wN fun bx=>?_|refine qpc rfl rfl rfl (m1) ?_|refine qpc rfl rfl rfl (m2) ?_|refine qpc rfl rfl rfl (ow) ?_|refine qpc rfl rfl rfl (ov) ?_|refine qpc rfl rfl rfl (a1) ?_|refine qpc rfl rfl rfl (a2) ?_|refine qpc rfl rfl rfl (r1) ?_|refine qpc rfl rfl rfl (r2) ?_|refine qpo rfl rfl rfl rfl rfl rfl (fun _=>m1) ?_|refine qpo rfl rfl rfl rfl rfl rfl (fun _=>m2) ?_|refine qpo rfl rfl rfl rfl rfl rfl (fun _=>ow) ?_|refine qpo rfl rfl rfl rfl rfl rfl (fun _=>ov) ?_|refine qpo rfl rfl rfl rfl rfl rfl (fun _=>a1) ?_|refine qpo rfl rfl rfl rfl rfl rfl (fun _=>a2) ?_|refine qpo rfl rfl rfl rfl rfl rfl (fun _=>r1) ?_|refine qpo rfl rfl rfl rfl rfl rfl (fun _=>r2) ?_|(refine wH ?_;clear hK))
  refine qapp tyok spE _ (mvS false n w s) (SubL.refl _) ?_ fun ad cp=>?_
  ·simp only
   omega
  rw[←est]
  repeat(first|refine wDB ?_|refine awp_seq_k fun K hK=>?_|refine wN fun bx=>?_|(refine wH ?_;clear hK))
  exact⟨⟨(i+1,ad,cp),hlt⟩,wk,(by(repeat(first|exact pickNil|refine pickD (by(first|exact .here|exact .there (.here)|exact .there (.there (.here))|exact .there (.there (.there (.here)))|exact .there (.there (.there (.there (.here))))|exact .there (.there (.there (.there (.there (.here)))))|exact .there (.there (.there (.there (.there (.there (.here))))))|exact .there (.there (.there (.there (.there (.there (.there (.here)))))))|exact .there (.there (.there (.there (.there (.there (.there (.there (.here))))))))|exact .there (.there (.there (.there (.there (.there (.there (.there (.there (.here))))))))))) ?_))),by simp only;omega⟩
 |true=>
  have b1:=qSub_c 4 (qrC 0) (ofQ s.y) (by decide) (qrC_ok (small_qok (n:=0) (by decide) |>.mono (by decide))) ((ofQ_ok hs.y).mono (by decide))
  rw[qrC_q,ofQ_q,show(0:Rat)-s.y.q= -s.y.q by grind]at b1
  have m1:=hm (qrC (-s.y.q)) (uxS true s) (qrC_ok (qs.2.neg.mono (by decide))) (qrC_q _)
  have m2:=hm (ofQ s.x) (vyS true s) ((ofQ_ok hs.x).mono (by decide)) rfl
  repeat(first|refine wKB ?_|refine awp_seq_k fun K hK=>?_|refine wN fun bx=>?_|(refine wH ?_;clear hK))
  refine areg_soft mixed tyok [0,2] [] [1,3,0,2,4,5] (by decide +kernel) ?_
  repeat(first|refine wKB ?_|refine awp_seq_k fun K hK=>?_|refine wN fun bx=>?_|refine qpc rfl rfl rfl (z0) ?_|refine qpc rfl rfl rfl (b1) ?_|refine qpo rfl rfl rfl rfl rfl rfl (fun _=>z0) ?_|refine qpo rfl rfl rfl rfl rfl rfl (fun _=>b1) ?_|(refine wH ?_;clear hK))
  refine awp_freeze [] (s:=18) rfl rfl ?_
  refine awp_freeze [] (s:=19) rfl rfl ?_
  refine areg_soft mixed tyok [3,6,7,8,11,14,15,16] [] (List.range 21) (by decide +kernel) ?_
  repeat(first|refine wDB ?_|refine awp_seq_k fun K hK=>?_|refine wN fun bx=>?_|refine qpc rfl rfl rfl (m1) ?_|refine qpc rfl rfl rfl (m2) ?_|refine qpc rfl rfl rfl (ow) ?_|refine qpc rfl rfl rfl (ov) ?_|refine qpc rfl rfl rfl (a1) ?_|refine qpc rfl rfl rfl (a2) ?_|refine qpc rfl rfl rfl (r1) ?_|refine qpc rfl rfl rfl (r2) ?_|refine qpo rfl rfl rfl rfl rfl rfl (fun _=>m1) ?_|refine qpo rfl rfl rfl rfl rfl rfl (fun _=>m2) ?_|refine qpo rfl rfl rfl rfl rfl rfl (fun _=>ow) ?_|refine qpo rfl rfl rfl rfl rfl rfl (fun _=>ov) ?_|refine qpo rfl rfl rfl rfl rfl rfl (fun _=>a1) ?_|refine qpo rfl rfl rfl rfl rfl rfl (fun _=>a2) ?_|refine qpo rfl rfl rfl rfl rfl rfl (fun _=>r1) ?_|refine qpo rfl rfl rfl rfl rfl rfl (fun _=>r2) ?_|(refine wH ?_;clear hK))
  refine qapp tyok spE _ (mvS true n w s) (SubL.refl _) ?_ fun ad cp=>?_
  ·simp only
   omega
  rw[←est]
  repeat(first|refine wDB ?_|refine awp_seq_k fun K hK=>?_|refine wN fun bx=>?_|(refine wH ?_;clear hK))
  exact⟨⟨(i+1,ad,cp),hlt⟩,wk,(by(repeat(first|exact pickNil|refine pickD (by(first|exact .here|exact .there (.here)|exact .there (.there (.here))|exact .there (.there (.there (.here)))|exact .there (.there (.there (.there (.here))))|exact .there (.there (.there (.there (.there (.here)))))|exact .there (.there (.there (.there (.there (.there (.here))))))|exact .there (.there (.there (.there (.there (.there (.there (.here)))))))|exact .there (.there (.there (.there (.there (.there (.there (.there (.here))))))))|exact .there (.there (.there (.there (.there (.there (.there (.there (.there (.here))))))))))) ?_))),by simp only;omega⟩
theorem senseMoves_c (l:List StI) (p:List SpotR) (w:SpotR) (t:Bool) (n:Int) (hl:l.length≤1000000000000000) (hA:∀x∈l,x.args.length≤1000000000000000) (_:∀x∈l,x.new.w.length≤1000000000000000) (hT:∀x∈l,∀t∈x.args,t.w.length≤1000000000000000)
  (hN:∀x∈l,∀t∈x.args,-9223372036854775808≤t.n∧t.n≤9223372036854775807) (hp:(∀t∈p,SpotOk reachBytes t)∧p.length≤1099511627744) (hw:SpotOk reachBytes w):
  PCalls Tryz.prog 6 [stmtsI l,spots p,.agg (spE w),.bool t,.int .i64 n] (.bool true):=senseMoves_w reachBytes l p w t n hl hA hT hN hp.1 hp.2 hw
end Go.Proofs.YthfglhjdnpoepaaGreatDoor
