/-
  Layer 31 (checker): whether a node holds that is proved.
-/
import Derived.Test.YtkbdklmdcbmgkaaGreatKcA
set_option maxRecDepth 100000
set_option maxHeartbeats 25600000
namespace Go.Proofs.YtkbdklmdcbmgkaaGreat
open Go.Ab
def rowVE (S:List PZ):List AV:=[rowV S]
noncomputable def arH (gs gp m:Nat) (Ss:List (List PZ)) (cnt:List Int):AHeap:=[rowS gs 27 rowVE 1 m Ss,rowI gp 3 cnt]
theorem setRow {n:NodeR} (hn:NodeB n) (hm:∀d∈n.set,mayP d.p=true):polysV (n.set.map (·.p))=rowV (n.set.map fun d=>pz d.p):=by
 have h:=rows_raw (ps:=n.set.map (·.p)) (k:=4) (fun p hp=>by
  obtain⟨d,hd,rfl⟩:=List.mem_map.1 hp
  exact(hn.set d hd).p.ok) (List.all_eq_true.2 fun p hp=>by
  obtain⟨d,hd,rfl⟩:=List.mem_map.1 hp
  exact hm d hd)
 rw[h,List.map_map]
 rfl
theorem cbProved:Callable Tryz.prog 34:=fun _ _=>by kernel_rfl
theorem proved_c (shown conds:List PZ) (proof:List NodeR) (gs gp i:Nat) (Ss:List (List PZ)) (cnt:List Int) (hi:i<proof.length) (hml:proof.length≤5) (hn:NodeB (proof.getD i default)) (hm:∀d∈(proof.getD i default).set,mayP d.p=true)
  (hsh:RowZ 4 40 shown) (hshl:shown.length≤3) (hc:RowZ 4 40 conds) (hcl:conds.length≤6) (hS:SyO (6+7*i) proof.length Ss) (hcn:cnt.length=proof.length) (hcb:∀j,j<proof.length→0≤cnt.getD j 0∧cnt.getD j 0≤100):
  ACalls Tryz.prog 34 [.rptr (kE shown conds proof gs gp),.int .i64 i] (arH gs gp proof.length Ss cnt)
   fun r H'=>∃y:{y:List (List PZ)×List Int//provF shown conds i proof.length (proof.getD i default)=true→y=(headSys (Ss.getD i []) ((proof.getD i default).set.map fun d=>pz d.p) Ss (proof.getD i default).heads,headCnt cnt (proof.getD i default).heads)},
    r=.ret (.bool (provF shown conds i proof.length (proof.getD i default)))∧H'=arH gs gp proof.length y.1.1 y.1.2:=by
 refine acalls_of_awp tyok cbProved Tryz.func34 rfl rfl ?_
 have hsl:=hn.setl
 have hdl:=hn.divl
 have hhl:=hn.headl
 have gP:=plain31_c (proof.getD i default).set (by omega)
 rw[setRow hn hm]at gP
 have hset:RowZ 4 40 ((proof.getD i default).set.map fun d=>pz d.p):=fun q hq=>by
  obtain⟨d,hd,rfl⟩:=List.mem_map.1 hq
  exact(hn.set d hd).p.pol (hm d hd)
 have hsml:((proof.getD i default).set.map fun d=>pz d.p).length≤6:=by rw[List.length_map];exact hsl
 have hSi:=hS.get hi
 ((repeat(first|refine wDB ?_|refine awp_seq_k fun K hK=>?_|(refine wH ?_;clear hK)));refine wN fun b5=>?_)
 (((repeat(first|refine wT ?_|refine wN fun bx=>?_)));(try refine wP ?_);repeat(refine wH ?_;clear hK))
 refine awp_freeze [] (s:=5) rfl rfl ?_
 refine awp_weak (T':=[(0,.rptr (kE shown conds proof gs gp)),(1,.int .i64 i),(5,.rptr (nodeE (proof.getD i default)))]) wk ?_
 generalize hnn:proof.getD i default=n at*
 have hpf:provF shown conds i proof.length n=(decide (n.kind=3∧n.divs.length=shown.length)&&n.heads.all (headF conds i proof.length)&&(List.range shown.length).all fun j=>identityF (shown.getD j default) (n.set.map fun d=>pz d.p) (n.divs.getD j default)&&usedF (n.set.map fun d=>pz d.p) (n.divs.getD j default).pw (n.heads.map (·.p))):=rfl
 by_cases k1:n.kind=3
 rotate_left
 ·have e:provF shown conds i proof.length n=false:=by
   rw[hpf,decide_eq_false (p:=n.kind=3∧n.divs.length=shown.length) fun h=>k1 h.1]
   rfl
  repeat(first|refine wDB ?_|refine awp_seq_k fun K hK=>?_|refine wN fun bx=>?_|refine wC gP ?_|(refine wH ?_;clear hK))
  exact fnQ_ret 0 rfl (.tmp rfl .nil) (Sub.refl _) ⟨⟨(Ss,cnt),fun h=>by rw[e]at h;cases h⟩,by rw[e];rfl,rfl⟩
 by_cases k2:n.divs.length=shown.length
 rotate_left
 ·have e:provF shown conds i proof.length n=false:=by
   rw[hpf,decide_eq_false (p:=n.kind=3∧n.divs.length=shown.length) fun h=>k2 h.2]
   rfl
  have k2':¬(n.divs.length:Int)=shown.length:=by omega
  repeat(first|refine wDB ?_|refine awp_seq_k fun K hK=>?_|refine wN fun bx=>?_|refine wC gP ?_|(refine wH ?_;clear hK))
  exact fnQ_ret 0 rfl (.tmp rfl .nil) (Sub.refl _) ⟨⟨(Ss,cnt),fun h=>by rw[e]at h;cases h⟩,by rw[e];rfl,rfl⟩
 have k2':(n.divs.length:Int)=shown.length:=by omega
 rw[decide_eq_true (show n.kind=3∧n.divs.length=shown.length from ⟨k1,k2⟩),Bool.true_and]at hpf
 repeat(first|refine wDB ?_|refine awp_seq_k fun K hK=>?_|refine wN fun bx=>?_|refine wC gP ?_|(refine wH ?_;clear hK))
 refine awp_loop0 (ι:={j:Nat//j≤shown.length∧∀q,q<j→(identityF (shown.getD q default) (n.set.map fun d=>pz d.p) (n.divs.getD q default)&&usedF (n.set.map fun d=>pz d.p) (n.divs.getD q default).pw (n.heads.map (·.p)))=true}) (fun j=>[(0,.rptr (kE shown conds proof gs gp)),(1,.int .i64 i),(5,.rptr (nodeE n)),(6,rowV (n.set.map fun d=>pz d.p)),(36,sl divE 3 n.divs .view),(37,.int .i64 n.divs.length),(38,.int .i64 j.1)])
  (fun _=>arH gs gp proof.length Ss cnt) (fun j=>shown.length-j.1) ⟨0,Nat.zero_le _,fun j hj=>absurd hj (Nat.not_lt_zero j)⟩ wk ⟨0,rfl⟩ ?_
 rintro⟨j,hj,hs3⟩
 simp only at hj hs3 ⊢
 by_cases hlt:j<shown.length
 ·have hlt':(j:Int)<n.divs.length:=by omega
  have hlt2:(j:Int)<shown.length:=by omega
  have hdv:=hn.divs _ (getD_mem (l:=n.divs) (i:=j) (by omega))
  have hno:(identityF (shown.getD j default) (n.set.map fun d=>pz d.p) (n.divs.getD j default)&&usedF (n.set.map fun d=>pz d.p) (n.divs.getD j default).pw (n.heads.map (·.p)))=false→provF shown conds i proof.length n=false:=fun h=>by
   rw[hpf,show((List.range shown.length).all fun j=>identityF (shown.getD j default) (n.set.map fun d=>pz d.p) (n.divs.getD j default)&&usedF (n.set.map fun d=>pz d.p) (n.divs.getD j default).pw (n.heads.map (·.p)))=false from List.all_eq_false.2 ⟨j,List.mem_range.2 hlt,by rw[h];decide⟩,Bool.and_false]
  have gI:=ident_c (shown.getD j default) (n.set.map fun d=>pz d.p) (n.divs.getD j default) hdv ((hsh.at' hlt).mono (Nat.le_refl _) (by decide)) hset (by omega)
  cases hid:identityF (shown.getD j default) (n.set.map fun d=>pz d.p) (n.divs.getD j default)with
  |false=>
   rw[hid]at gI
   have e:=hno (by rw[hid];rfl)
   ((repeat(first|refine wKB ?_|refine awp_seq_k fun K hK=>?_|(refine wH ?_;clear hK)));refine wN fun b8=>?_;(repeat(first|refine wKB ?_|refine awp_seq_k fun K hK=>?_|refine wN fun bx=>?_|(refine wH ?_;clear hK))))
   refine areg_soft mixed tyok [9,16] [] (List.range 19) (by decide +kernel) ?_
   repeat(first|refine wDB ?_|refine awp_seq_k fun K hK=>?_|refine wN fun bx=>?_|refine wC gI ?_|(refine wH ?_;clear hK))
   exact fnQ_ret 1 rfl (.tmp rfl .nil) (Sub.refl _) ⟨⟨(Ss,cnt),fun h=>by rw[e]at h;cases h⟩,by rw[e];rfl,rfl⟩
  |true=>
   rw[hid]at gI
   have hpwl:(n.divs.getD j default).pw.length=(n.set.map fun d=>pz d.p).length:=by
    unfold identityF at hid
    simp only[Bool.and_eq_true,decide_eq_true_eq]at hid
    exact hid.1.1.1.1.2
   have gU:=used_c (n.set.map fun d=>pz d.p) (n.divs.getD j default) n.heads hset (by omega) hpwl hn.heads (by omega)
   cases hus:usedF (n.set.map fun d=>pz d.p) (n.divs.getD j default).pw (n.heads.map (·.p))with
   |false=>
    rw[hus]at gU
    have e:=hno (by rw[hid,hus];rfl)
    ((repeat(first|refine wKB ?_|refine awp_seq_k fun K hK=>?_|(refine wH ?_;clear hK)));refine wN fun b8=>?_;(repeat(first|refine wKB ?_|refine awp_seq_k fun K hK=>?_|refine wN fun bx=>?_|(refine wH ?_;clear hK))))
    refine areg_soft mixed tyok [9,16] [] (List.range 19) (by decide +kernel) ?_
    repeat(first|refine wDB ?_|refine awp_seq_k fun K hK=>?_|refine wN fun bx=>?_|refine wC gI ?_|refine wC gU ?_|(refine wH ?_;clear hK))
    exact fnQ_ret 1 rfl (.tmp rfl .nil) (Sub.refl _) ⟨⟨(Ss,cnt),fun h=>by rw[e]at h;cases h⟩,by rw[e];rfl,rfl⟩
   |true=>
    rw[hus]at gU
    ((repeat(first|refine wKB ?_|refine awp_seq_k fun K hK=>?_|(refine wH ?_;clear hK)));refine wN fun b8=>?_;(repeat(first|refine wKB ?_|refine awp_seq_k fun K hK=>?_|refine wN fun bx=>?_|(refine wH ?_;clear hK))))
    refine areg_soft mixed tyok [9,16] [] (List.range 19) (by decide +kernel) ?_
    repeat(first|refine wDB ?_|refine awp_seq_k fun K hK=>?_|refine wN fun bx=>?_|refine wC gI ?_|refine wC gU ?_|(refine wH ?_;clear hK))
    refine⟨⟨j+1,hlt,fun q hq=>?_⟩,wk,⟨1,rfl⟩,by simp only;omega⟩
    by_cases eq:q=j
    ·rw[eq,hid,hus];rfl
    ·exact hs3 q (by omega)
 have hge:¬(j:Int)<n.divs.length:=by omega
 obtain rfl:j=shown.length:=by omega
 have hall:((List.range shown.length).all fun j=>identityF (shown.getD j default) (n.set.map fun d=>pz d.p) (n.divs.getD j default)&&usedF (n.set.map fun d=>pz d.p) (n.divs.getD j default).pw (n.heads.map (·.p)))=true:=List.all_eq_true.2 fun q hq=>hs3 q (List.mem_range.1 hq)
 rw[hall,Bool.and_true]at hpf
 repeat(first|refine wDB ?_|refine awp_seq_k fun K hK=>?_|refine wN fun bx=>?_|(refine wH ?_;clear hK))
 refine awp_loop0 (ι:={k:Nat//k≤n.heads.length∧∀q,q<k→headF conds i proof.length (n.heads.getD q default)=true}) (fun k=>[(0,.rptr (kE shown conds proof gs gp)),(1,.int .i64 i),(6,rowV (n.set.map fun d=>pz d.p)),(64,sl headE 3 n.heads .view),(65,.int .i64 n.heads.length),(66,.int .i64 k.1)])
  (fun k=>arH gs gp proof.length (headSys (Ss.getD i []) (n.set.map fun d=>pz d.p) Ss (n.heads.take k.1)) (headCnt cnt (n.heads.take k.1))) (fun k=>n.heads.length-k.1) ⟨0,Nat.zero_le _,fun j hj=>absurd hj (Nat.not_lt_zero j)⟩ wk ⟨0,rfl⟩ ?_
 rintro⟨k,hk,hok⟩
 simp only at hk hok ⊢
 by_cases hkl:k<n.heads.length
 rotate_left
 ·have hkge:¬(k:Int)<n.heads.length:=by omega
  obtain rfl:k=n.heads.length:=by omega
  have e:provF shown conds i proof.length n=true:=by
   rw[hpf]
   exact all_take hok
  rw[List.take_length]
  repeat(first|refine wDB ?_|refine awp_seq_k fun K hK=>?_|refine wN fun bx=>?_|(refine wH ?_;clear hK))
  exact fnQ_ret 0 rfl (.tmp rfl .nil) (Sub.refl _) ⟨⟨(_,_),fun _=>rfl⟩,by rw[e];rfl,rfl⟩
 have hkl':(k:Int)<n.heads.length:=by omega
 have hst:=headSys_step (Ss.getD i []) (n.set.map fun d=>pz d.p) Ss hkl
 have hct:=headCnt_step cnt hkl
 have hhR:=hn.heads _ (getD_mem hkl)
 have hno:headF conds i proof.length (n.heads.getD k default)=false→provF shown conds i proof.length n=false:=fun h=>by
  rw[hpf]
  exact all_hit hkl h
 have hnx:headF conds i proof.length (n.heads.getD k default)=true→∀j,j<k+1→headF conds i proof.length (n.heads.getD j default)=true:=fun h j hj=>by
  by_cases e:j=k
  ·rw[e];exact h
  ·exact hok j (by omega)
 have hmem:=getD_mem hkl
 ((repeat(first|refine wDB ?_|refine awp_seq_k fun K hK=>?_|(refine wH ?_;clear hK)));refine wN fun b10=>?_)
 (((repeat(first|refine wT ?_|refine wN fun bx=>?_)));(try refine wP ?_);repeat(refine wH ?_;clear hK))
 refine awp_freeze [] (s:=10) rfl rfl ?_
 refine awp_weak (T':=[(0,.rptr (kE shown conds proof gs gp)),(1,.int .i64 i),(6,rowV (n.set.map fun d=>pz d.p)),(10,.rptr (headE (n.heads.getD k default))),(64,sl headE 3 n.heads .view),(65,.int .i64 n.heads.length),(66,.int .i64 k)]) wk ?_
 have hSSk:=headSys_ok (m:=6+7*i) (many:=proof.length) (i:=i) (conds:=conds) (S:=Ss.getD i []) (set:=n.set.map fun d=>pz d.p) (Ss:=Ss) (hs:=n.heads.take k) (hS.mono (by omega)) hSi.1 hSi.2 hset hsml (fun x hx=>by
  obtain⟨q,hq,e⟩:=List.getElem_of_mem hx
  rw[List.length_take]at hq
  have h1:=hok q (by omega)
  rw[getD_get (by omega),show n.heads[q]=x by rw[←e,List.getElem_take]]at h1
  exact⟨hn.heads x (mem_take' hx),h1⟩) k (by rw[List.length_take];omega)
 rw[List.take_take,Nat.min_self]at hSSk
 obtain⟨hSk,hSk2⟩:=hSSk
 have hSki:=hSk2 i (Nat.le_refl _)
 have hSkl:=hSk.len
 have hcl2:(headCnt cnt (n.heads.take k)).length=proof.length:=by rw[headCnt_len,hcn]
 have hcb2:∀j,j<proof.length→0≤(headCnt cnt (n.heads.take k)).getD j 0∧(headCnt cnt (n.heads.take k)).getD j 0≤200:=fun j hj=>by
  rw[headCnt_get _ _ _ (by rw[hcn];exact hj)]
  have h1:=hcb j hj
  have h2:=List.countP_le_length (p:=fun h=>decide (h.next=(j:Int))) (l:=n.heads.take k)
  rw[List.length_take]at h2
  omega
 generalize headSys (Ss.getD i []) (n.set.map fun d=>pz d.p) Ss (n.heads.take k)=Sk at*
 generalize headCnt cnt (n.heads.take k)=ck at*
 generalize hSeq:Ss.getD i []=S0' at*
 generalize hhd:n.heads.getD k default=h at*
 have gM:=pmay_c h.p (hhR.ok.mono (by omega))
 cases hm2:mayP h.p with
 |false=>
  rw[hm2]at gM
  have e:=hno (by unfold headF;rw[hm2];rfl)
  repeat(first|refine wDB ?_|refine awp_seq_k fun K hK=>?_|refine wN fun bx=>?_|refine wC gM ?_|(refine wH ?_;clear hK))
  exact fnQ_ret 0 rfl (.tmp rfl .nil) (Sub.refl _) ⟨⟨(_,_),fun h=>by rw[e]at h;cases h⟩,by rw[e];rfl,rfl⟩
 |true=>
 rw[hm2]at gM
 have hhp:=hhR.pol hm2
 have gK:=cond3_c shown conds proof gs gp (pz h.p) h.cond hc hhp (by omega)
 rw[rawZ_pz hhR.ok hm2]at gK
 have eh:headF conds i proof.length h=(decide (h.next<0)&&conditionF conds (pz h.p) h.cond || decide (h.cond<0∧(i:Int)<h.next∧h.next<proof.length)):=by
  unfold headF
  rw[hm2,Bool.true_and]
 obtain⟨hp,hcond,hnext⟩:=h
 simp only at gM hhp gK eh hst hct
 refine awp_weak (T':=[(0,.rptr (kE shown conds proof gs gp)),(1,.int .i64 i),(6,rowV (n.set.map fun d=>pz d.p)),(10,.rptr [polyV hp,.int .i64 hcond,.int .i64 hnext]),(64,sl headE 3 n.heads .view),(65,.int .i64 n.heads.length),(66,.int .i64 k)]) wk ?_
 by_cases n1:hnext<0
 ·rw[decide_eq_true n1,Bool.true_and,decide_eq_false (fun h:hcond<0∧(i:Int)<hnext∧hnext<proof.length=>by omega),Bool.or_false]at eh
  have n2:¬hnext≥0:=by omega
  by_cases n3:hcond<0
  ·have e:=hno (by rw[eh];exact decide_eq_false fun h=>by omega)
   repeat(first|refine wDB ?_|refine awp_seq_k fun K hK=>?_|refine wN fun bx=>?_|refine wC gM ?_|(refine wH ?_;clear hK))
   exact fnQ_ret 0 rfl (.tmp rfl .nil) (Sub.refl _) ⟨⟨(_,_),fun h=>by rw[e]at h;cases h⟩,by rw[e];rfl,rfl⟩
  have n4:hcond≥0:=by omega
  cases hcv:conditionF conds (pz hp) hcond with
  |false=>
   rw[hcv]at gK eh
   have e:=hno eh
   repeat(first|refine wDB ?_|refine awp_seq_k fun K hK=>?_|refine wN fun bx=>?_|refine wC gM ?_|refine wC gK ?_|(refine wH ?_;clear hK))
   exact fnQ_ret 0 rfl (.tmp rfl .nil) (Sub.refl _) ⟨⟨(_,_),fun h=>by rw[e]at h;cases h⟩,by rw[e];rfl,rfl⟩
  |true=>
   rw[hcv]at gK eh
   rw[if_neg (by omega)]at hst hct
   repeat(first|refine wDB ?_|refine awp_seq_k fun K hK=>?_|refine wN fun bx=>?_|refine wC gM ?_|refine wC gK ?_|(refine wH ?_;clear hK))
   refine⟨⟨k+1,hkl,hnx eh⟩,wk,?_,by simp only;omega⟩
   simp only
   rw[hst,hct]
   exact⟨0,rfl⟩
 rw[decide_eq_false n1,Bool.false_and,Bool.false_or]at eh
 have n2:hnext≥0:=by omega
 by_cases n3:hcond<0
 rotate_left
 ·have e:=hno (by rw[eh];exact decide_eq_false fun h=>n3 h.1)
  repeat(first|refine wDB ?_|refine awp_seq_k fun K hK=>?_|refine wN fun bx=>?_|refine wC gM ?_|(refine wH ?_;clear hK))
  exact fnQ_ret 0 rfl (.tmp rfl .nil) (Sub.refl _) ⟨⟨(_,_),fun h=>by rw[e]at h;cases h⟩,by rw[e];rfl,rfl⟩
 have n4:¬hcond≥0:=by omega
 by_cases n5:hnext≤(i:Int)
 ·have e:=hno (by rw[eh];exact decide_eq_false fun h=>by omega)
  repeat(first|refine wDB ?_|refine awp_seq_k fun K hK=>?_|refine wN fun bx=>?_|refine wC gM ?_|(refine wH ?_;clear hK))
  exact fnQ_ret 0 rfl (.tmp rfl .nil) (Sub.refl _) ⟨⟨(_,_),fun h=>by rw[e]at h;cases h⟩,by rw[e];rfl,rfl⟩
 by_cases n6:hnext≥(proof.length:Int)
 ·have e:=hno (by rw[eh];exact decide_eq_false fun h=>by omega)
  repeat(first|refine wDB ?_|refine awp_seq_k fun K hK=>?_|refine wN fun bx=>?_|refine wC gM ?_|(refine wH ?_;clear hK))
  exact fnQ_ret 0 rfl (.tmp rfl .nil) (Sub.refl _) ⟨⟨(_,_),fun h=>by rw[e]at h;cases h⟩,by rw[e];rfl,rfl⟩
 rw[decide_eq_true (show hcond<0∧(i:Int)<hnext∧hnext<proof.length from ⟨n3,by omega,by omega⟩)]at eh
 rw[if_pos n2]at hst hct
 have hcv:=hcb2 hnext.toNat (by omega)
 have hcv':0≤ck.getD (0+hnext.toNat) 0∧ck.getD (0+hnext.toNat) 0≤200:=by rw[Nat.zero_add];exact hcv
 have hnl:hnext.toNat<ck.length:=by omega
 repeat(first|refine wKB ?_|refine awp_seq_k fun K hK=>?_|refine wN fun bx=>?_|refine wC gM ?_|(refine wH ?_;clear hK))
 refine areg_soft mixed tyok [] [] (List.range 20) (by decide +kernel) ?_
 repeat(first|refine wKB ?_|refine awp_seq_k fun K hK=>?_|refine wN fun bx=>?_|(refine wH ?_;clear hK))
 unfold arH rowI rowM
 refine areg_soft mixed tyok [] [] (List.range 11) (by decide +kernel) ?_
 repeat(first|refine wKB ?_|refine awp_seq_k fun K hK=>?_|refine wN fun bx=>?_|(refine wH ?_;clear hK))
 rw[rowI_put (t:=3) (xs:=ck) (j:=0+hnext.toNat) (v:=ck.getD (0+hnext.toNat) 0+1) (by omega),Nat.zero_add hnext.toNat,←hct]
 refine areg_softAllocs mixed tyok [] [(14,[]),(17,[]),(18,[])] [0,1,2,3,4,5,6,7,8,9,10,11,12,13,15,16,20] [14,17] [18,19,21] (by decide +kernel) (by decide +kernel) ?_
 repeat(first|refine wDB ?_|refine awp_seq_k fun K hK=>?_|refine wN fun bx=>?_|(refine wH ?_;clear hK))
 refine qldG (cap:=proof.length) (sz:=1) rowVE Sk i 0 ?_ ?_ (by omega) (by omega) (by decide)
 ·simp
 rw[show Sk.getD i default=S0' from hSki]
 have epv:polyV (rawZ (pz hp))=polyV hp:=by rw[rawZ_pz hhR.ok hm2]
 have hrow2:RowZ 4 40 ((n.set.map fun d=>pz d.p)++[pz hp]):=fun q hq=>by
  rcases List.mem_append.1 hq with hq|hq
  ·exact hset q hq
  ·rw[List.mem_singleton.1 hq]
   exact hhp
 have gB:=below_c2 S0' ((n.set.map fun d=>pz d.p)++[pz hp]) hSi.1 hrow2 (by have:=hSi.2;omega) (by rw[List.length_append,List.length_singleton];omega)
 have gCl:=clone31_c (α:=PZ) rawZ (n.set.map fun d=>pz d.p) (by omega)
 repeat(first|refine wDB ?_|refine awp_seq_k fun K hK=>?_|refine wN fun bx=>?_|(refine wH ?_;clear hK))
 intro x hx
 have hx':x∈([14,17]:List Nat):=hx
 simp only[List.mem_cons,List.mem_nil_iff,or_false]at hx'
 rcases hx' with rfl|rfl
 ·refine one_acallX rfl rfl rfl rfl True.intro rfl rfl gCl fun y=>?_
  obtain⟨a1,c1⟩:=y
  intro x hx
  have hx':x∈([17]:List Nat):=hx
  simp only[List.mem_cons,List.mem_nil_iff,or_false]at hx'
  subst hx'
  refine one_build tyok rfl rfl rfl rfl True.intro rfl rfl rfl rfl rfl rfl rfl rfl ?_
  refine allO_zero ?_
  repeat(first|refine wDB ?_|refine awp_seq_k fun K hK=>?_|refine wN fun bx=>?_|(refine wH ?_;clear hK))
  refine qapp tyok (fun p:PZ=>[polyV (rawZ p)]) (n.set.map fun d=>pz d.p) (pz hp) (.cons (Sub.of_eq epv.symm) .nil) ?_ fun a2 c2=>?_
  ·simp only
   omega
  have gB':=gB.sub (vs:=[rowV S0',sl (fun p:PZ=>[polyV (rawZ p)]) 1 ((n.set.map fun d=>pz d.p)++[pz hp]) (.own a2 c2)]) (.cons (Sub.refl _) (.cons (Sub.view _ _ _ _) .nil))
  repeat(first|refine wDB ?_|refine awp_seq_k fun K hK=>?_|refine wN fun bx=>?_|refine wC gB' ?_|(refine wH ?_;clear hK))
  refine qstG (cap:=proof.length) tyok rowVE Sk (0+hnext.toNat) (belowF S0' ((n.set.map fun d=>pz d.p)++[pz hp])) rfl ?_ (by omega) (by omega)
  rw[Nat.zero_add hnext.toNat,←hst]
  repeat(first|refine wDB ?_|refine awp_seq_k fun K hK=>?_|refine wN fun bx=>?_|(refine wH ?_;clear hK))
  exact⟨⟨k+1,hkl,hnx eh⟩,wk,⟨1,rfl⟩,by simp only;omega⟩
 ·refine one_build tyok rfl rfl rfl rfl True.intro rfl rfl rfl rfl rfl rfl rfl rfl ?_
  intro x hx
  have hx':x∈([14]:List Nat):=hx
  simp only[List.mem_cons,List.mem_nil_iff,or_false]at hx'
  subst hx'
  refine one_acallX rfl rfl rfl rfl True.intro rfl rfl gCl fun y=>?_
  obtain⟨a1,c1⟩:=y
  refine allO_zero ?_
  repeat(first|refine wDB ?_|refine awp_seq_k fun K hK=>?_|refine wN fun bx=>?_|(refine wH ?_;clear hK))
  refine qapp tyok (fun p:PZ=>[polyV (rawZ p)]) (n.set.map fun d=>pz d.p) (pz hp) (.cons (Sub.of_eq epv.symm) .nil) ?_ fun a2 c2=>?_
  ·simp only
   omega
  have gB':=gB.sub (vs:=[rowV S0',sl (fun p:PZ=>[polyV (rawZ p)]) 1 ((n.set.map fun d=>pz d.p)++[pz hp]) (.own a2 c2)]) (.cons (Sub.refl _) (.cons (Sub.view _ _ _ _) .nil))
  repeat(first|refine wDB ?_|refine awp_seq_k fun K hK=>?_|refine wN fun bx=>?_|refine wC gB' ?_|(refine wH ?_;clear hK))
  refine qstG (cap:=proof.length) tyok rowVE Sk (0+hnext.toNat) (belowF S0' ((n.set.map fun d=>pz d.p)++[pz hp])) rfl ?_ (by omega) (by omega)
  rw[Nat.zero_add hnext.toNat,←hst]
  repeat(first|refine wDB ?_|refine awp_seq_k fun K hK=>?_|refine wN fun bx=>?_|(refine wH ?_;clear hK))
  exact⟨⟨k+1,hkl,hnx eh⟩,wk,⟨1,rfl⟩,by simp only;omega⟩
end Go.Proofs.YtkbdklmdcbmgkaaGreat
namespace Go.Proofs.YtkbdklmdcbmgkaaGreat
open Go.Ab
def nodeP (shown conds:List PZ) (proof:List NodeR) (i:Nat) (Ss:List (List PZ)) (cnt:List Int):Bool:=
 decide (cnt.getD i 0=1↔¬i=0)&&nodeF (Ss.getD i []) shown conds i proof.length (proof.getD i default)
theorem cbNode3:Callable Tryz.prog 17:=fun _ _=>by kernel_rfl
theorem node_c (shown conds:List PZ) (proof:List NodeR) (gs gp i:Nat) (Ss:List (List PZ)) (cnt:List Int) (hi:i<proof.length) (hml:proof.length≤5) (hn:NodeB (proof.getD i default))
  (hsh:RowZ 4 40 shown) (hshl:shown.length≤3) (hc:RowZ 4 40 conds) (hcl:conds.length≤6) (hS:SyO (6+7*i) proof.length Ss) (hcn:cnt.length=proof.length) (hcb:∀j,j<proof.length→0≤cnt.getD j 0∧cnt.getD j 0≤100):
  ACalls Tryz.prog 17 [.rptr (kE shown conds proof gs gp),.int .i64 i] (arH gs gp proof.length Ss cnt)
   fun r H'=>∃y:{y:List (List PZ)×List Int//nodeP shown conds proof i Ss cnt=true→y=(headSys (Ss.getD i []) ((proof.getD i default).set.map fun d=>pz d.p) Ss (proof.getD i default).heads,headCnt cnt (proof.getD i default).heads)},
    r=.ret (.bool (nodeP shown conds proof i Ss cnt))∧H'=arH gs gp proof.length y.1.1 y.1.2:=by
 refine acalls_of_awp tyok cbNode3 Tryz.func17 rfl rfl ?_
 have hsl:=hn.setl
 have hSi:=hS.get hi
 have hSl:=hS.len
 have hi5:i<5:=by omega
 have hsplit:=nodeF_split (Ss.getD i []) shown conds i proof.length (proof.getD i default)
 have hcg:cnt.getD (0+((i:Int)).toNat) 0=cnt.getD i 0:=by rw[Nat.zero_add,Int.toNat_natCast]
 unfold arH rowI rowM
 by_cases c1:(cnt.getD i 0=1↔¬i=0)
 rotate_left
 ·have e:nodeP shown conds proof i Ss cnt=false:=by
   unfold nodeP
   rw[decide_eq_false c1,Bool.false_and]
  by_cases c2:cnt.getD i 0=1
  ·have c3:i=0:=by
    by_cases h:i=0
    ·exact h
    ·exact absurd ⟨fun _=>h,fun _=>c2⟩ c1
   have c2':cnt.getD (0+((i:Int)).toNat) 0=1:=by omega
   have c3':(i:Int)=0:=by omega
   repeat(first|refine wDB ?_|refine awp_seq_k fun K hK=>?_|refine wN fun bx=>?_|(refine wH ?_;clear hK))
   exact fnQ_ret 0 rfl (.tmp rfl .nil) (Sub.refl _) ⟨⟨(Ss,cnt),fun h=>by rw[e]at h;cases h⟩,by rw[e];rfl,rfl⟩
  ·have c3:¬i=0:=fun h=>c1 ⟨fun k=>absurd k c2,fun k=>absurd h k⟩
   have c2':¬cnt.getD (0+((i:Int)).toNat) 0=1:=by omega
   have c3':¬(i:Int)=0:=by omega
   repeat(first|refine wDB ?_|refine awp_seq_k fun K hK=>?_|refine wN fun bx=>?_|(refine wH ?_;clear hK))
   exact fnQ_ret 0 rfl (.tmp rfl .nil) (Sub.refl _) ⟨⟨(Ss,cnt),fun h=>by rw[e]at h;cases h⟩,by rw[e];rfl,rfl⟩
 have eP:nodeP shown conds proof i Ss cnt=nodeF (Ss.getD i []) shown conds i proof.length (proof.getD i default):=by
  unfold nodeP
  rw[decide_eq_true c1,Bool.true_and]
 have hcs:(cnt.getD (0+((i:Int)).toNat) 0=1∧¬(i:Int)=0)∨(¬cnt.getD (0+((i:Int)).toNat) 0=1∧(i:Int)=0):=by
  by_cases h:i=0
  ·exact .inr ⟨fun k=>c1.1 (by omega) h,by omega⟩
  ·exact .inl ⟨by rw[hcg];exact c1.2 h,by omega⟩
 have hno:(proof.getD i default).set.all (derivedF (Ss.getD i []))=false→nodeP shown conds proof i Ss cnt=false:=fun h=>by
  rw[eP,hsplit,h,Bool.false_and]
 rcases hcs with⟨c2',c3'⟩|⟨c2',c3'⟩
 all_goals
  repeat(first|refine wDB ?_|refine awp_seq_k fun K hK=>?_|refine wN fun bx=>?_|(refine wH ?_;clear hK))
  refine awp_loop0 (ι:={j:Nat//j≤(proof.getD i default).set.length∧∀q,q<j→derivedF (Ss.getD i []) ((proof.getD i default).set.getD q default)=true}) (fun j=>[(0,.rptr (kE shown conds proof gs gp)),(1,.int .i64 i),(25,sl derE 4 (proof.getD i default).set .view),(26,.int .i64 (proof.getD i default).set.length),(27,.int .i64 j.1)])
   (fun _=>arH gs gp proof.length Ss cnt) (fun j=>(proof.getD i default).set.length-j.1) ⟨0,Nat.zero_le _,fun j hj=>absurd hj (Nat.not_lt_zero j)⟩ wk ⟨0,rfl⟩ ?_
  rintro⟨j,hj,hs⟩
  simp only at hj hs ⊢
  by_cases hlt:j<(proof.getD i default).set.length
  ·have hlt':(j:Int)<(proof.getD i default).set.length:=by omega
   have hd:=hn.set _ (getD_mem hlt)
   have gD:=der_c (Ss.getD i []) ((proof.getD i default).set.getD j default) hd hSi.1 (by have:=hSi.2;omega)
   cases hde:derivedF (Ss.getD i []) ((proof.getD i default).set.getD j default)with
   |false=>
    rw[hde]at gD
    have e:=hno (all_hit hlt hde)
    unfold arH
    ((repeat(first|refine wKB ?_|refine awp_seq_k fun K hK=>?_|(refine wH ?_;clear hK)));refine wN fun b6=>?_;(repeat(first|refine wKB ?_|refine awp_seq_k fun K hK=>?_|refine wN fun bx=>?_|(refine wH ?_;clear hK))))
    refine areg_soft mixed tyok [8] [] (List.range 10) (by decide +kernel) ?_
    repeat(first|refine wDB ?_|refine awp_seq_k fun K hK=>?_|refine wN fun bx=>?_|(refine wH ?_;clear hK))
    refine qldG (cap:=proof.length) (sz:=1) rowVE Ss i 0 ?_ ?_ (by omega) (by omega) (by decide)
    ·simp
    repeat(first|refine wDB ?_|refine awp_seq_k fun K hK=>?_|refine wN fun bx=>?_|refine wC gD ?_|(refine wH ?_;clear hK))
    exact fnQ_ret 1 rfl (.tmp rfl .nil) (Sub.refl _) ⟨⟨(Ss,cnt),fun h=>by rw[e]at h;cases h⟩,by rw[e];rfl,rfl⟩
   |true=>
    rw[hde]at gD
    unfold arH
    ((repeat(first|refine wKB ?_|refine awp_seq_k fun K hK=>?_|(refine wH ?_;clear hK)));refine wN fun b6=>?_;(repeat(first|refine wKB ?_|refine awp_seq_k fun K hK=>?_|refine wN fun bx=>?_|(refine wH ?_;clear hK))))
    refine areg_soft mixed tyok [8] [] (List.range 10) (by decide +kernel) ?_
    repeat(first|refine wDB ?_|refine awp_seq_k fun K hK=>?_|refine wN fun bx=>?_|(refine wH ?_;clear hK))
    refine qldG (cap:=proof.length) (sz:=1) rowVE Ss i 0 ?_ ?_ (by omega) (by omega) (by decide)
    ·simp
    repeat(first|refine wDB ?_|refine awp_seq_k fun K hK=>?_|refine wN fun bx=>?_|refine wC gD ?_|(refine wH ?_;clear hK))
    refine⟨⟨j+1,hlt,fun q hq=>?_⟩,wk,⟨1,rfl⟩,by simp only;omega⟩
    by_cases eq:q=j
    ·rw[eq];exact hde
    ·exact hs q (by omega)
  have hge:¬(j:Int)<(proof.getD i default).set.length:=by omega
  obtain rfl:j=(proof.getD i default).set.length:=by omega
  have hall:(proof.getD i default).set.all (derivedF (Ss.getD i []))=true:=all_take hs
  rw[hall,Bool.true_and]at hsplit
  have hm:∀d∈(proof.getD i default).set,mayP d.p=true:=fun d hd=>derivedF_may (List.all_eq_true.1 hall d hd)
  have gE:=ended_c shown conds proof gs gp (proof.getD i default) hn hm hc (by omega)
  have gP:=proved_c shown conds proof gs gp i Ss cnt hi hml hn hm hsh hshl hc hcl hS hcn hcb
  cases hen:endedF conds (proof.getD i default)with
  |true=>
   rw[hen]at gE hsplit
   have e:nodeP shown conds proof i Ss cnt=true:=by rw[eP,hsplit];rfl
   have hh0:(proof.getD i default).heads=[]:=by
    unfold endedF at hen
    rw[Bool.and_eq_true,decide_eq_true_eq]at hen
    exact hen.1.2.2.2
   repeat(first|refine wDB ?_|refine awp_seq_k fun K hK=>?_|refine wN fun bx=>?_|refine wC gE ?_|(refine wH ?_;clear hK))
   exact fnQ_ret 0 rfl (.tmp rfl .nil) (Sub.refl _) ⟨⟨(Ss,cnt),fun _=>by rw[hh0];rfl⟩,by rw[e];rfl,rfl⟩
  |false=>
   rw[hen]at gE
   rw[hen,Bool.false_or]at hsplit
   repeat(first|refine wDB ?_|refine awp_seq_k fun K hK=>?_|refine wN fun bx=>?_|refine wC gE ?_|(refine wH ?_;clear hK))
   refine qcallXV (G:=[]) (H2:=fun y=>arH gs gp proof.length y.1.1 y.1.2) gP ?_
   rintro⟨⟨S2,c2⟩,hy⟩
   simp only at hy ⊢
   repeat(first|refine wDB ?_|refine awp_seq_k fun K hK=>?_|refine wN fun bx=>?_|(refine wH ?_;clear hK))
   exact fnQ_ret 0 rfl (.tmp rfl .nil) (Sub.refl _) ⟨⟨(S2,c2),fun h=>hy (by rw[←hsplit,←eP];exact h)⟩,by rw[eP,hsplit];rfl,rfl⟩
end Go.Proofs.YtkbdklmdcbmgkaaGreat
namespace Go.Proofs.YtkbdklmdcbmgkaaGreat
open Go.Ab
def kR (shown conds:List (List TermR)) (proof:List NodeR) (gs gp:Nat):List AV:=[polysV shown,polysV conds,nodesV proof,.mslice gs 0 proof.length proof.length,.mslice gp 0 proof.length proof.length]
theorem any_nil (l:List (List TermR)):(l.any fun p=>decide (p=[]))= !decide (∀c∈l,c≠[]):=by
 rw[Bool.eq_iff_iff,List.any_eq_true,Bool.not_eq_true',decide_eq_false_iff_not]
 constructor
 ·rintro⟨c,hc,h⟩ k
  exact k c hc (of_decide_eq_true h)
 ·intro h
  by_cases k:∃c∈l,c=[]
  ·obtain⟨c,hc,e⟩:=k
   exact⟨c,hc,decide_eq_true e⟩
  ·exact absurd (fun c hc e=>k ⟨c,hc,e⟩) h
theorem cbAcc:Callable Tryz.prog 7:=fun _ _=>by kernel_rfl
theorem acc_c (x:SysR) (conds:List (List TermR)) (proof:List NodeR) (hb:SysB x conds proof):
  PCalls Tryz.prog 7 [.agg (sysE x),polysV conds,nodesV proof] (.bool (acceptsP (x.hypos.map (·.1)) x.shown conds proof)):=by
 refine pcalls_of_awp tyok cbAcc Tryz.func7 rfl rfl ?_
 have hhl:=hb.hypol
 have hsl:=hb.shownl
 have hcl:=hb.condl
 have hnl:=hb.nodel
 have no:acceptsP (x.hypos.map (·.1)) x.shown conds proof=false→Sub (AV.bool false) (AV.bool (acceptsP (x.hypos.map (·.1)) x.shown conds proof)):=fun h=>Sub.of_eq (by rw[h])
 ((repeat(first|refine wDB ?_|refine awp_seq_k fun K hK=>?_|(refine wH ?_;clear hK)));refine wN fun b3=>?_)
 (((repeat(first|refine wT ?_|refine wN fun bx=>?_)));(try refine wP ?_);repeat(refine wH ?_;clear hK))
 refine awp_freeze [] (s:=3) rfl rfl ?_
 repeat(first|refine wDB ?_|refine awp_seq_k fun K hK=>?_|refine wN fun bx=>?_|(refine wH ?_;clear hK))
 refine awp_tok0 1 41 ?_
 refine awp_loopP (ι:={y:TimS//y.i≤x.hypos.length}) (fun y=>[(1,polysV conds),(2,nodesV proof),(3,.rptr (sysE x)),(7,sl polyE 1 ((x.hypos.take y.1.i).map (·.1)) (.own y.1.a y.1.cp)),(14,sl hypE 2 x.hypos .view),(15,.int .i64 x.hypos.length),(16,.int .i64 y.1.i)])
  (fun y=>[.tok y.1.a y.1.cp ((x.hypos.take y.1.i).map (·.1)).length 1 41]) (fun y=>x.hypos.length-y.1.i) ⟨⟨0,none,0⟩,Nat.zero_le _⟩ wk qpm ?_
 rintro⟨⟨i,ad,cp⟩,hi⟩
 simp only at hi ⊢
 by_cases hlt:i<x.hypos.length
 ·have hlt':(i:Int)<x.hypos.length:=by omega
  ((repeat(first|refine wDB ?_|refine awp_seq_k fun K hK=>?_|(refine wH ?_;clear hK)));refine wN fun b9=>?_;(repeat(first|refine wDB ?_|refine awp_seq_k fun K hK=>?_|refine wN fun bx=>?_|(refine wH ?_;clear hK))))
  refine qapp tyok polyE ((x.hypos.take i).map (·.1)) (x.hypos.getD i default).1 (SubL.refl _) ?_ fun ad3 cp3=>?_
  ·simp only[List.length_map,List.length_take]
   omega
  rw[←map_snoc (fun h:HypR=>h.1) hlt]
  repeat(first|refine wDB ?_|refine awp_seq_k fun K hK=>?_|refine wN fun bx=>?_|(refine wH ?_;clear hK))
  exact⟨⟨⟨i+1,ad3,cp3⟩,hlt⟩,wk,qpm,by simp only;omega⟩
 have hge:¬(i:Int)<x.hypos.length:=by omega
 obtain rfl:i=x.hypos.length:=by omega
 rw[List.take_length]
 have hhp:∀p∈x.hypos.map (·.1),PolR 4 40 p:=fun p hp=>by
  obtain⟨h,hh,rfl⟩:=List.mem_map.1 hp
  exact hb.hypos h hh
 have hhl2:(x.hypos.map (·.1)).length≤6:=by rw[List.length_map];exact hhl
 generalize x.hypos.map (·.1)=hs at*
 have g0:=conP_c (fun p:List TermR=>p) conds .view (by omega) 15 [] [] (fun p=>decide (p=[])) fun p _=>acc1_c p
 rw[any_nil]at g0
 have g1:=all31_c hs (by omega) fun p hp=>(hhp p hp).ok.mono (by omega)
 have g1':=g1.sub (vs:=[sl polyE 1 hs (.own ad cp)]) (.cons (Sub.view _ _ _ _) .nil)
 clear g1
 have g2:=all31_c x.shown (by omega) fun p hp=>(hb.shown p hp).ok.mono (by omega)
 have g3:=all31_c conds (by omega) fun p hp=>(hb.cnd p hp).ok.mono (by omega)
 repeat(first|refine wDB ?_|refine awp_seq_k fun K hK=>?_|refine wN fun bx=>?_|(refine wH ?_;clear hK))
 refine qcallH (G:=[_]) g0 ?_
 by_cases a1:hs.all mayP=true
 rotate_left
 ·have a1:=Bool.eq_false_iff.2 a1
  have e:=no (by unfold acceptsP;rw[a1];simp)
  rw[a1]at g1'
  repeat(first|refine wDB ?_|refine awp_seq_k fun K hK=>?_|refine wN fun bx=>?_|refine wC g1' ?_|refine wC g2 ?_|refine wC g3 ?_|(refine wH ?_;clear hK))
  refine r1 ?_
  exact e
 rw[a1]at g1'
 by_cases a2:x.shown.all mayP=true
 rotate_left
 ·have a2:=Bool.eq_false_iff.2 a2
  have e:=no (by unfold acceptsP;rw[a2];simp)
  rw[a2]at g2
  repeat(first|refine wDB ?_|refine awp_seq_k fun K hK=>?_|refine wN fun bx=>?_|refine wC g1' ?_|refine wC g2 ?_|refine wC g3 ?_|(refine wH ?_;clear hK))
  refine r1 ?_
  exact e
 rw[a2]at g2
 by_cases a3:conds.all mayP=true
 rotate_left
 ·have a3:=Bool.eq_false_iff.2 a3
  have e:=no (by unfold acceptsP;rw[a3];simp)
  rw[a3]at g3
  repeat(first|refine wDB ?_|refine awp_seq_k fun K hK=>?_|refine wN fun bx=>?_|refine wC g1' ?_|refine wC g2 ?_|refine wC g3 ?_|(refine wH ?_;clear hK))
  refine r1 ?_
  exact e
 rw[a3]at g3
 cases a5:decide (∀c∈conds,c≠[])with
 |false=>
  have e:=no (by unfold acceptsP;rw[a5];simp)
  repeat(first|refine wDB ?_|refine awp_seq_k fun K hK=>?_|refine wN fun bx=>?_|refine wC g1' ?_|refine wC g2 ?_|refine wC g3 ?_|(refine wH ?_;clear hK))
  refine r1 ?_
  exact e
 |true=>
 by_cases a4:proof=[]
 ·have e:=no (by unfold acceptsP;rw[decide_eq_false (p:=proof≠[]) fun h=>h a4];simp)
  have a4':(proof.length:Int)=0:=by rw[a4];rfl
  repeat(first|refine wDB ?_|refine awp_seq_k fun K hK=>?_|refine wN fun bx=>?_|refine wC g1' ?_|refine wC g2 ?_|refine wC g3 ?_|(refine wH ?_;clear hK))
  refine r1 ?_
  exact e
 have a4':¬(proof.length:Int)=0:=by
  have:=List.length_pos_iff.2 a4
  omega
 have hrow:=rows_of hhp a1
 have srow:=rows_of hb.shown a2
 have crow:=rows_of hb.cnd a3
 have hnp:0<proof.length:=List.length_pos_iff.2 a4
 have eA:acceptsP hs x.shown conds proof=(List.range proof.length).all fun i=>nodeP (x.shown.map pz) (conds.map pz) proof i (sysF (hs.map pz) proof i) (cntF proof i):=by
  unfold acceptsP
  rw[a1,a2,a3,a5,decide_eq_true (show proof≠[] from a4)]
  rfl
 have ehs:polysV hs=rowV (hs.map pz):=rows_raw (fun p hp=>(hhp p hp).ok) a1
 have ek:∀gs gp,kR x.shown conds proof gs gp=kE (x.shown.map pz) (conds.map pz) proof gs gp:=fun gs gp=>by
  unfold kR kE
  rw[rows_raw (fun p hp=>(hb.shown p hp).ok) a2,rows_raw (fun p hp=>(hb.cnd p hp).ok) a3]
 repeat(first|refine wKB ?_|refine awp_seq_k fun K hK=>?_|refine wN fun bx=>?_|refine wC g1' ?_|refine wC g2 ?_|refine wC g3 ?_|(refine wH ?_;clear hK))
 refine awp_weak (T':=[(1,polysV conds),(2,nodesV proof),(3,.rptr (sysE x)),(7,rowV (hs.map pz))]) ⟨⟨_,rfl,Sub.refl _⟩,⟨_,rfl,Sub.refl _⟩,⟨_,rfl,Sub.refl _⟩,⟨_,rfl,(Sub.view _ _ _ _).trans (Sub.of_eq ehs)⟩,trivial⟩ ?_
 refine(have hr:∀gs gp b T' H',Weak T' [(2,nodesV proof),(7,rowV (hs.map pz)),(11,.ptr b 0)]→
  List.Perm H' [.box b 73 (.agg (kR x.shown conds proof gs gp)),rowM gs 27 (proof.length*1) (fun j=>[AV.nils].getD (j%1) .any),rowI gp 3 (List.replicate (proof.length*1) 0),.tok ad cp hs.length 1 41]→K T' H':=fun gs gp b=>cutKP hK ?_;?_)
 rotate_left
 ·clear hK
  refine areg_softAllocs mixed tyok [] [(6,[]),(9,[])] [0,1,2,3,4,5,7,8] [6,9] [10,11,12] (by decide +kernel) (by decide +kernel) ?_
  repeat(first|refine wD ?_|refine awp_seq_k fun K hK=>?_|refine wN fun bx=>?_|(refine wH ?_;clear hK))
  intro z hz
  have hz':z∈([6,9]:List Nat):=hz
  simp only[List.mem_cons,List.mem_nil_iff,or_false]at hz'
  rcases hz' with rfl|rfl
  ·refine one_make tyok rfl rfl rfl rfl True.intro rfl rfl rfl rfl rfl rfl ⟨show 24*proof.length≤281474976710656 by omega,by omega⟩ fun gs=>?_
   intro z hz
   have hz':z∈([9]:List Nat):=hz
   simp only[List.mem_cons,List.mem_nil_iff,or_false]at hz'
   subst hz'
   refine one_makeI tyok 1 rfl rfl rfl rfl True.intro rfl rfl rfl rfl (by decide) rfl rfl rfl ⟨show 8*proof.length≤281474976710656 by omega,by omega⟩ fun gp=>?_
   refine allO_zero ?_
   ((repeat(first|refine wD ?_|refine awp_seq_k fun K hK=>?_|(refine wH ?_;clear hK)));refine wN fun b=>?_;(repeat(first|refine wD ?_|refine awp_seq_k fun K hK=>?_|refine wN fun bx=>?_|(refine wH ?_;clear hK))))
   refine hr gs gp b _ _ wk ?_
   exact List.Perm.cons _ (List.Perm.swap _ _ _)
  ·refine one_makeI tyok 1 rfl rfl rfl rfl True.intro rfl rfl rfl rfl (by decide) rfl rfl rfl ⟨show 8*proof.length≤281474976710656 by omega,by omega⟩ fun gp=>?_
   intro z hz
   have hz':z∈([6]:List Nat):=hz
   simp only[List.mem_cons,List.mem_nil_iff,or_false]at hz'
   subst hz'
   refine one_make tyok rfl rfl rfl rfl True.intro rfl rfl rfl rfl rfl rfl ⟨show 24*proof.length≤281474976710656 by omega,by omega⟩ fun gs=>?_
   refine allO_zero ?_
   ((repeat(first|refine wD ?_|refine awp_seq_k fun K hK=>?_|(refine wH ?_;clear hK)));refine wN fun b=>?_;(repeat(first|refine wD ?_|refine awp_seq_k fun K hK=>?_|refine wN fun bx=>?_|(refine wH ?_;clear hK))))
   refine hr gs gp b _ _ wk ?_
   exact List.Perm.refl _
 clear hK
 rw[ek]
 unfold rowM
 refine awp_boxSub [_] (v':=rowVec rowVE 1 proof.length (List.replicate proof.length [])) (rowS_new rowVE [] (by decide) rfl (.cons (Sub.nilsv _ _) .nil)) ?_
 refine awp_freeze [] (s:=11) rfl rfl ?_
 rw[Nat.mul_one]
 refine awp_drop (H:=[_,_]) (F:=[_]) ?_
 refine(fun(h:AWP _ _ _ _ [rowS gs 27 rowVE 1 proof.length (List.replicate proof.length []),rowI gp 3 (List.replicate proof.length 0)] _)=>h) ?_
 have S0:=sysF_zero (proof:=proof) hrow (by rw[List.length_map];omega)
 repeat(first|refine wDB ?_|refine awp_seq_k fun K hK=>?_|refine wN fun bx=>?_|(refine wH ?_;clear hK))
 refine qstG (cap:=proof.length) tyok rowVE (List.replicate proof.length []) 0 (hs.map pz) rfl ?_ (by rw[List.length_replicate];omega) (by rw[List.length_replicate];omega)
 refine(fun(h:TR _ _ _ _ _ _ _ _ _ (arH gs gp proof.length (sysF (hs.map pz) proof 0) (cntF proof 0)))=>h) ?_
 repeat(first|refine wDB ?_|refine awp_seq_k fun K hK=>?_|refine wN fun bx=>?_|(refine wH ?_;clear hK))
 refine awp_loop0 (ι:={i:Nat//i≤proof.length∧∀q,q<i→nodeP (x.shown.map pz) (conds.map pz) proof q (sysF (hs.map pz) proof q) (cntF proof q)=true}) (fun i=>[(2,nodesV proof),(11,.rptr (kE (x.shown.map pz) (conds.map pz) proof gs gp)),(69,.int .i64 proof.length),(70,.int .i64 i.1)])
  (fun i=>arH gs gp proof.length (sysF (hs.map pz) proof i.1) (cntF proof i.1)) (fun i=>proof.length-i.1) ⟨0,Nat.zero_le _,fun j hj=>absurd hj (Nat.not_lt_zero j)⟩ wk ⟨0,rfl⟩ ?_
 rintro⟨i,hi,hok⟩
 simp only at hi hok ⊢
 by_cases hlt:i<proof.length
 rotate_left
 ·have hige:¬(i:Int)<proof.length:=by omega
  obtain rfl:i=proof.length:=by omega
  have e:acceptsP hs x.shown conds proof=true:=by
   rw[eA]
   exact List.all_eq_true.2 fun q hq=>hok q (List.mem_range.1 hq)
  repeat(first|refine wDB ?_|refine awp_seq_k fun K hK=>?_|refine wN fun bx=>?_|(refine wH ?_;clear hK))
  refine r1 ?_
  exact Sub.of_eq (by rw[e])
 have hlt':(i:Int)<proof.length:=by omega
 have hS:=sysF_ok (shown:=x.shown.map pz) (conds:=conds.map pz) hrow (by rw[List.length_map];omega) hb.nodes i hi fun q hq=>by
  have:=hok q hq
  unfold nodeP at this
  exact(Bool.and_eq_true_iff.1 this).2
 have gN:=node_c (x.shown.map pz) (conds.map pz) proof gs gp i (sysF (hs.map pz) proof i) (cntF proof i) hlt hnl (hb.nodes _ (getD_mem hlt)) srow (by rw[List.length_map];omega) crow (by rw[List.length_map];omega) hS (cntF_len proof i) (fun j hj=>by
  rw[cntF_get proof hj i hi]
  have:=parF_le (proof:=proof) (fun n hn=>(hb.nodes n hn).headl) j i hi
  omega)
 repeat(first|refine wDB ?_|refine awp_seq_k fun K hK=>?_|refine wN fun bx=>?_|(refine wH ?_;clear hK))
 refine qcallXV (G:=[]) (H2:=fun y=>arH gs gp proof.length y.1.1 y.1.2) gN ?_
 rintro⟨⟨S2,c2⟩,hy⟩
 simp only at hy ⊢
 cases hnp:nodeP (x.shown.map pz) (conds.map pz) proof i (sysF (hs.map pz) proof i) (cntF proof i)with
 |false=>
  have e:=no (by rw[eA];exact List.all_eq_false.2 ⟨i,List.mem_range.2 hlt,by rw[hnp];decide⟩)
  repeat(first|refine wDB ?_|refine awp_seq_k fun K hK=>?_|refine wN fun bx=>?_|(refine wH ?_;clear hK))
  refine r1 ?_
  exact e
 |true=>
  have hy:=hy hnp
  repeat(first|refine wDB ?_|refine awp_seq_k fun K hK=>?_|refine wN fun bx=>?_|(refine wH ?_;clear hK))
  refine⟨⟨i+1,hlt,fun q hq=>?_⟩,wk,⟨0,?_⟩,by simp only;omega⟩
  ·by_cases eq:q=i
   ·rw[eq];exact hnp
   ·exact hok q (by omega)
  ·rw[Prod.mk.injEq]at hy
   rw[hy.1,hy.2]
   rfl
end Go.Proofs.YtkbdklmdcbmgkaaGreat
