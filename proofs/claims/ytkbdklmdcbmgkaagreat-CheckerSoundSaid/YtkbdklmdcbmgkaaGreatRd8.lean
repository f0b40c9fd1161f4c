/-
  The document's checker: whether a proof is accepted.
-/
import Derived.Test.YtkbdklmdcbmgkaaGreatRdC
set_option maxRecDepth 100000
set_option maxHeartbeats 25600000
namespace Go.Proofs.YtkbdklmdcbmgkaaGreat
open Go.Ab
def pZsE (l:List PZ):List AV:=[pZs l]
theorem cbAcc31:Callable Tryz.prog 8:=fun _ _=>by kernel_rfl
theorem r31acc_c (x:SysR) (conds:List (List TermR)) (proof:List NodeR) (hb:SysB x conds proof):
  PCalls Tryz.prog 8 [.agg (sysE x),polysV conds,nodesV proof] (.bool (acceptsR (x.hypos.map (·.1)) x.shown conds proof)):=by
 refine pcalls_of_awp tyok cbAcc31 Tryz.func8 rfl rfl ?_
 have hhl:=hb.hypol
 have hsl:=hb.shownl
 have hcl:=hb.condl
 have hnl:=hb.nodel
 have no:acceptsR (x.hypos.map (·.1)) x.shown conds proof=false→Sub (AV.bool false) (AV.bool (acceptsR (x.hypos.map (·.1)) x.shown conds proof)):=fun h=>Sub.of_eq (by rw[h])
 ((repeat(first|refine wDB ?_|refine awp_seq_k fun K hK=>?_|(refine wH ?_;clear hK)));refine wN fun b3=>?_;(repeat(first|refine wDB ?_|refine awp_seq_k fun K hK=>?_|refine wN fun bx=>?_|(refine wH ?_;clear hK))))
 refine awp_tok0 1 41 ?_
 refine awp_loopP (ι:={y:TimS//y.i≤x.hypos.length}) (fun y=>[(1,polysV conds),(2,nodesV proof),(3,.ptr b3 0),(7,sl polyE 1 ((x.hypos.take y.1.i).map (·.1)) (.own y.1.a y.1.cp)),(8,.int .i64 y.1.i)])
  (fun y=>[.tok y.1.a y.1.cp ((x.hypos.take y.1.i).map (·.1)).length 1 41,.box b3 30 (.agg (sysE x))]) (fun y=>x.hypos.length-y.1.i) ⟨⟨0,none,0⟩,Nat.zero_le _⟩ wk qpm ?_
 rintro⟨⟨i,ad,cp⟩,hi⟩
 simp only at hi ⊢
 by_cases hlt:i<x.hypos.length
 ·have hlt':(i:Int)<x.hypos.length:=by omega
  repeat(first|refine wDB ?_|refine awp_seq_k fun K hK=>?_|refine wN fun bx=>?_|(refine wH ?_;clear hK))
  refine qapp tyok polyE ((x.hypos.take i).map (·.1)) (x.hypos.getD i default).1 (SubL.refl _) ?_ fun ad3 cp3=>?_
  ·simp only[List.length_map,List.length_take]
   omega
  rw[←map_snoc (fun h:HypR=>h.1) hlt]
  repeat(first|refine wDB ?_|refine awp_seq_k fun K hK=>?_|refine wN fun bx=>?_|(refine wH ?_;clear hK))
  exact⟨⟨⟨i+1,ad3,cp3⟩,hlt⟩,wk,qpm,by simp only;omega⟩
 have hge:¬(i:Int)<x.hypos.length:=by omega
 obtain rfl:i=x.hypos.length:=by omega
 rw[List.take_length]
 have hhp:∀p∈x.hypos.map (·.1),PolR 4 40 p:=fun p hp=>by
  obtain⟨h,hh,rfl⟩:=List.mem_map.1 hp
  exact hb.hypos h hh
 have hhl2:(x.hypos.map (·.1)).length≤6:=by rw[List.length_map];exact hhl
 generalize x.hypos.map (·.1)=hs at*
 have g1:=rplain_c hs 4 (by decide) (by omega) fun p hp=>(hhp p hp).ok
 have g1':=g1.sub (vs:=[sl polyE 1 hs (.own ad cp)]) (.cons (Sub.view _ _ _ _) .nil)
 clear g1
 have g2:=rplain_c x.shown 4 (by decide) (by omega) fun p hp=>(hb.shown p hp).ok
 have g3:=rplain_c conds 4 (by decide) (by omega) fun p hp=>(hb.cnd p hp).ok
 by_cases a1:hs.all mayP=true
 rotate_left
 ·have a1:=Bool.eq_false_iff.2 a1
  have e:=no (by unfold acceptsR;rw[a1];simp)
  rw[a1]at g1'
  repeat(first|refine wDB ?_|refine awp_seq_k fun K hK=>?_|refine wN fun bx=>?_|refine wC g1' ?_|refine wC g2 ?_|refine wC g3 ?_|(refine wH ?_;clear hK))
  refine r1 ?_
  exact e
 rw[a1,if_pos rfl]at g1'
 by_cases a2:x.shown.all mayP=true
 rotate_left
 ·have a2:=Bool.eq_false_iff.2 a2
  have e:=no (by unfold acceptsR;rw[a2];simp)
  rw[a2]at g2
  repeat(first|refine wDB ?_|refine awp_seq_k fun K hK=>?_|refine wN fun bx=>?_|refine wC g1' ?_|refine wC g2 ?_|refine wC g3 ?_|(refine wH ?_;clear hK))
  refine r1 ?_
  exact e
 rw[a2,if_pos rfl]at g2
 by_cases a3:conds.all mayP=true
 rotate_left
 ·have a3:=Bool.eq_false_iff.2 a3
  have e:=no (by unfold acceptsR;rw[a3];simp)
  rw[a3]at g3
  repeat(first|refine wDB ?_|refine awp_seq_k fun K hK=>?_|refine wN fun bx=>?_|refine wC g1' ?_|refine wC g2 ?_|refine wC g3 ?_|(refine wH ?_;clear hK))
  refine r1 ?_
  exact e
 rw[a3,if_pos rfl]at g3
 by_cases a4:proof=[]
 ·have e:=no (by unfold acceptsR;rw[decide_eq_false (p:=proof≠[]) fun h=>h a4];simp)
  have a4':(proof.length:Int)=0:=by rw[a4];rfl
  repeat(first|refine wDB ?_|refine awp_seq_k fun K hK=>?_|refine wN fun bx=>?_|refine wC g1' ?_|refine wC g2 ?_|refine wC g3 ?_|(refine wH ?_;clear hK))
  refine r1 ?_
  exact e
 have a4':¬(proof.length:Int)=0:=by
  have:=List.length_pos_iff.2 a4
  omega
 have hrow:=rows_of hhp a1
 have srow:=rows_of hb.shown a2
 have crow:=rows_of hb.cnd a3
 have hnp:0<proof.length:=List.length_pos_iff.2 a4
 have hce:∀j,j<conds.length→(((conds.map pz).getD j default).length:Int)=0→acceptsR hs x.shown conds proof=false:=fun j hj h=>by
  have:decide (∀c∈conds,c≠[])=false:=decide_eq_false fun k=>by
   refine k _ (getD_mem hj) ?_
   rw[map_getF pz hj,List.length_map]at h
   exact List.eq_nil_of_length_eq_zero (by omega)
  unfold acceptsR
  rw[this]
  simp
 have hcl2:(conds.map pz).length=conds.length:=List.length_map _
 repeat(first|refine wDB ?_|refine awp_seq_k fun K hK=>?_|refine wN fun bx=>?_|refine wC g1' ?_|refine wC g2 ?_|refine wC g3 ?_|(refine wH ?_;clear hK))
 refine awp_loop0 (ι:={j:Nat//j≤conds.length∧∀q,q<j→conds.getD q default≠[]}) (fun j=>[(2,nodesV proof),(9,pZs (hs.map pz)),(11,pZs (x.shown.map pz)),(13,pZs (conds.map pz)),(15,.int .i64 j.1)])
  (fun _=>[]) (fun j=>conds.length-j.1) ⟨0,Nat.zero_le _,fun j hj=>absurd hj (Nat.not_lt_zero j)⟩ wk dp ?_
 rintro⟨j,hj,hje⟩
 simp only at hj hje ⊢
 by_cases hjl:j<conds.length
 ·have hjl':(j:Int)<(conds.map pz).length:=by omega
  by_cases h0:(((conds.map pz).getD j default).length:Int)=0
  ·have e:=no (hce j hjl h0)
   have h0':(((conds.map pz).getD ((j:Int)).toNat default).length:Int)=0:=h0
   repeat(first|refine wDB ?_|refine awp_seq_k fun K hK=>?_|refine wN fun bx=>?_|(refine wH ?_;clear hK))
   refine r1 ?_
   exact e
  ·have h0':¬(((conds.map pz).getD ((j:Int)).toNat default).length:Int)=0:=h0
   repeat(first|refine wDB ?_|refine awp_seq_k fun K hK=>?_|refine wN fun bx=>?_|(refine wH ?_;clear hK))
   refine⟨⟨j+1,hjl,fun q hq=>?_⟩,wk,dp,by simp only;omega⟩
   by_cases eq:q=j
   ·rw[eq]
    intro h
    rw[map_getF pz hjl,h]at h0
    exact h0 rfl
   ·exact hje q (by omega)
 have hjge:¬(j:Int)<(conds.map pz).length:=by omega
 obtain rfl:j=conds.length:=by omega
 have a5:decide (∀c∈conds,c≠[])=true:=decide_eq_true fun c hc=>by
  obtain⟨q,hq,e⟩:=List.getElem_of_mem hc
  have:=hje q hq
  rw[getD_get hq]at this
  exact e▸this
 have eA:acceptsR hs x.shown conds proof=(((List.range proof.length).all fun i=>decide (parentsF proof i=if i=0 then 0 else 1))&&(List.range proof.length).all fun i=>nodeF ((sysF (hs.map pz) proof i).getD i []) (x.shown.map pz) (conds.map pz) i proof.length (proof.getD i default)):=by
  unfold acceptsR
  rw[a1,a2,a3,a5,decide_eq_true (show proof≠[] from a4)]
  rfl
 repeat(first|refine wDB ?_|refine awp_seq_k fun K hK=>?_|refine wN fun bx=>?_|(refine wH ?_;clear hK))
 refine qmake tyok (m:=proof.length) (fun g=>?_) ⟨show 24*proof.length≤281474976710656 by omega,by omega⟩
 (((repeat(first|refine wT ?_|refine wN fun bx=>?_)));(try refine wP ?_);repeat(refine wH ?_;clear hK))
 unfold rowM
 refine awp_boxSub [] (v':=rowVec pZsE 1 proof.length (List.replicate proof.length [])) (rowS_new pZsE [] (by decide) rfl (.cons (Sub.nilsv _ _) .nil)) ?_
 refine(fun(h:AWP _ _ _ _ [rowS g 75 pZsE 1 proof.length (List.replicate proof.length [])] _)=>h) ?_
 repeat(first|refine wDB ?_|refine awp_seq_k fun K hK=>?_|refine wN fun bx=>?_|(refine wH ?_;clear hK))
 refine qstG (cap:=proof.length) tyok pZsE (List.replicate proof.length []) 0 (hs.map pz) rfl ?_ (by rw[List.length_replicate];omega) (by rw[List.length_replicate];omega)
 refine(fun(h:TR _ _ _ _ _ _ _ _ _ [rowS g 75 pZsE 1 proof.length (sysF (hs.map pz) proof 0)])=>h) ?_
 have S0:=sysF_zero (proof:=proof) hrow (by rw[List.length_map];omega)
 have hpb:ParB proof:=⟨hnl,fun n hn=>(hb.nodes n hn).headl⟩
 repeat(first|refine wDB ?_|refine awp_seq_k fun K hK=>?_|refine wN fun bx=>?_|(refine wH ?_;clear hK))
 refine awp_loopP (ι:={i:Nat//i≤proof.length∧∀q,q<i→parentsF proof q=if q=0 then 0 else 1}) (fun i=>[(2,nodesV proof),(11,pZs (x.shown.map pz)),(13,pZs (conds.map pz)),(16,.mslice g 0 proof.length proof.length),(17,.int .i64 i.1)])
  (fun _=>[rowS g 75 pZsE 1 proof.length (sysF (hs.map pz) proof 0)]) (fun i=>proof.length-i.1) ⟨0,Nat.zero_le _,fun j hj=>absurd hj (Nat.not_lt_zero j)⟩ wk qpm ?_
 rintro⟨i,hi,hpi⟩
 simp only at hi hpi ⊢
 by_cases hlt:i<proof.length
 ·have hlt':(i:Int)<proof.length:=by omega
  have gP:=r31par_c proof i hpb
  have pno:parentsF proof i≠(if i=0 then 0 else 1)→acceptsR hs x.shown conds proof=false:=fun h=>by
   rw[eA,List.all_eq_false.2 ⟨i,List.mem_range.2 hlt,by rw[decide_eq_false h];decide⟩,Bool.false_and]
  have pyes:parentsF proof i=(if i=0 then 0 else 1)→∀q,q<i+1→parentsF proof q=if q=0 then 0 else 1:=fun h q hq=>by
   by_cases eq:q=i
   ·rw[eq];exact h
   ·exact hpi q (by omega)
  by_cases hi0:i=0
  ·have hi0':(i:Int)=0:=by omega
   have hi1':¬(i:Int)>0:=by omega
   by_cases hp0:parentsF proof i=0
   ·have hp0':((parentsF proof i:Nat):Int)=0:=by omega
    repeat(first|refine wDB ?_|refine awp_seq_k fun K hK=>?_|refine wN fun bx=>?_|refine wC gP ?_|(refine wH ?_;clear hK))
    exact⟨⟨i+1,hlt,pyes (by rw[if_pos hi0];exact hp0)⟩,wk,qpm,by simp only;omega⟩
   ·have hp0':¬((parentsF proof i:Nat):Int)=0:=by omega
    have e:=no (pno (by rw[if_pos hi0];exact hp0))
    repeat(first|refine wDB ?_|refine awp_seq_k fun K hK=>?_|refine wN fun bx=>?_|refine wC gP ?_|(refine wH ?_;clear hK))
    refine r1 ?_
    exact e
  ·have hi0':¬(i:Int)=0:=by omega
   have hi1':(i:Int)>0:=by omega
   by_cases hp0:parentsF proof i=1
   ·have hp0':((parentsF proof i:Nat):Int)=1:=by omega
    repeat(first|refine wDB ?_|refine awp_seq_k fun K hK=>?_|refine wN fun bx=>?_|refine wC gP ?_|(refine wH ?_;clear hK))
    exact⟨⟨i+1,hlt,pyes (by rw[if_neg hi0];exact hp0)⟩,wk,qpm,by simp only;omega⟩
   ·have hp0':¬((parentsF proof i:Nat):Int)=1:=by omega
    have e:=no (pno (by rw[if_neg hi0];exact hp0))
    repeat(first|refine wDB ?_|refine awp_seq_k fun K hK=>?_|refine wN fun bx=>?_|refine wC gP ?_|(refine wH ?_;clear hK))
    refine r1 ?_
    exact e
 have hige:¬(i:Int)<proof.length:=by omega
 obtain rfl:i=proof.length:=by omega
 have eP:((List.range proof.length).all fun i=>decide (parentsF proof i=if i=0 then 0 else 1))=true:=List.all_eq_true.2 fun q hq=>decide_eq_true (hpi q (List.mem_range.1 hq))
 rw[eP,Bool.true_and]at eA
 repeat(first|refine wDB ?_|refine awp_seq_k fun K hK=>?_|refine wN fun bx=>?_|(refine wH ?_;clear hK))
 refine awp_loopP (ι:={i:Nat//i≤proof.length∧∀q,q<i→nodeF ((sysF (hs.map pz) proof q).getD q []) (x.shown.map pz) (conds.map pz) q proof.length (proof.getD q default)=true}) (fun i=>[(2,nodesV proof),(11,pZs (x.shown.map pz)),(13,pZs (conds.map pz)),(16,.mslice g 0 proof.length proof.length),(19,.int .i64 i.1)])
  (fun i=>[rowS g 75 pZsE 1 proof.length (sysF (hs.map pz) proof i.1)]) (fun i=>proof.length-i.1) ⟨0,Nat.zero_le _,fun j hj=>absurd hj (Nat.not_lt_zero j)⟩ wk qpm ?_
 rintro⟨i,hi,hok⟩
 simp only at hi hok ⊢
 by_cases hlt:i<proof.length
 rotate_left
 ·have hige:¬(i:Int)<proof.length:=by omega
  obtain rfl:i=proof.length:=by omega
  have e:acceptsR hs x.shown conds proof=true:=by
   rw[eA]
   exact List.all_eq_true.2 fun q hq=>hok q (List.mem_range.1 hq)
  repeat(first|refine wDB ?_|refine awp_seq_k fun K hK=>?_|refine wN fun bx=>?_|(refine wH ?_;clear hK))
  refine r1 ?_
  exact Sub.of_eq (by rw[e])
 have hlt':(i:Int)<proof.length:=by omega
 have hS:=sysF_ok hrow (by rw[List.length_map];omega) hb.nodes i hi hok
 have hSi:=hS.get hlt
 have hSl:=hS.len
 have hni:=hb.nodes _ (getD_mem hlt)
 have gH:=r31holds_c (proof.getD i default) i proof.length ((sysF (hs.map pz) proof i).getD i []) (x.shown.map pz) (conds.map pz) hni hSi.1 (by have:=hSi.2;omega) srow (by rw[List.length_map];omega) crow (by rw[List.length_map];omega) hlt hnl
 have hno:nodeF ((sysF (hs.map pz) proof i).getD i []) (x.shown.map pz) (conds.map pz) i proof.length (proof.getD i default)=false→acceptsR hs x.shown conds proof=false:=fun h=>by
  rw[eA]
  exact List.all_eq_false.2 ⟨i,List.mem_range.2 hlt,by rw[h];decide⟩
 repeat(first|refine wKB ?_|refine awp_seq_k fun K hK=>?_|refine wN fun bx=>?_|(refine wH ?_;clear hK))
 refine areg_soft mixed tyok [13] [] (List.range 19) (by decide +kernel) ?_
 repeat(first|refine wDB ?_|refine awp_seq_k fun K hK=>?_|refine wN fun bx=>?_|(refine wH ?_;clear hK))
 refine qldG (cap:=proof.length) (sz:=1) pZsE (sysF (hs.map pz) proof i) i 0 ?_ ?_ (by omega) (by omega) (by decide)
 ·simp
 cases hnf:nodeF ((sysF (hs.map pz) proof i).getD i []) (x.shown.map pz) (conds.map pz) i proof.length (proof.getD i default)with
 |false=>
  rw[hnf]at gH
  have e:=no (hno hnf)
  repeat(first|refine wDB ?_|refine awp_seq_k fun K hK=>?_|refine wN fun bx=>?_|refine wC gH ?_|(refine wH ?_;clear hK))
  refine r1 ?_
  exact e
 |true=>
 rw[hnf,if_pos rfl]at gH
 have hset:RowZ 4 40 ((proof.getD i default).set.map fun d=>pz d.p):=fun q hq=>by
  obtain⟨d,hd,rfl⟩:=List.mem_map.1 hq
  exact(hni.set d hd).p.pol (nodeF_setm hnf d hd)
 have hsetl:=hni.setl
 have hheadl:=hni.headl
 have hHS:=headSys_ok (m:=6+7*i) (many:=proof.length) (i:=i) (conds:=conds.map pz) (S:=(sysF (hs.map pz) proof i).getD i []) (set:=(proof.getD i default).set.map fun d=>pz d.p) (Ss:=sysF (hs.map pz) proof i) (hs:=(proof.getD i default).heads) (hS.mono (by omega)) hSi.1 hSi.2 hset (by rw[List.length_map];exact hsetl) (fun x hx=>⟨hni.heads x hx,nodeF_heads hnf x hx⟩)
 have hsys:headSys ((sysF (hs.map pz) proof i).getD i []) ((proof.getD i default).set.map fun d=>pz d.p) (sysF (hs.map pz) proof i) (proof.getD i default).heads=sysF (hs.map pz) proof (i+1):=rfl
 repeat(first|refine wDB ?_|refine awp_seq_k fun K hK=>?_|refine wN fun bx=>?_|refine wC gH ?_|(refine wH ?_;clear hK))
 refine awp_loopP (ι:={k:Nat//k≤(proof.getD i default).heads.length}) (fun k=>[(2,nodesV proof),(11,pZs (x.shown.map pz)),(13,pZs (conds.map pz)),(16,.mslice g 0 proof.length proof.length),(19,.int .i64 i),(20,pZs ((proof.getD i default).heads.map fun h=>pz h.p)),(22,.int .i64 k.1)])
  (fun k=>[rowS g 75 pZsE 1 proof.length (headSys ((sysF (hs.map pz) proof i).getD i []) ((proof.getD i default).set.map fun d=>pz d.p) (sysF (hs.map pz) proof i) ((proof.getD i default).heads.take k.1))]) (fun k=>(proof.getD i default).heads.length-k.1) ⟨0,Nat.zero_le _⟩ wk qpm ?_
 rintro⟨k,hk⟩
 simp only at hk ⊢
 have hlm:((proof.getD i default).heads.map fun h=>pz h.p).length=(proof.getD i default).heads.length:=List.length_map _
 by_cases hkl:k<(proof.getD i default).heads.length
 rotate_left
 ·have hkge:¬(k:Int)<((proof.getD i default).heads.map fun h=>pz h.p).length:=by omega
  obtain rfl:k=(proof.getD i default).heads.length:=by omega
  rw[List.take_length,hsys]
  repeat(first|refine wDB ?_|refine awp_seq_k fun K hK=>?_|refine wN fun bx=>?_|(refine wH ?_;clear hK))
  refine⟨⟨i+1,hlt,fun q hq=>?_⟩,wk,qpm,by simp only;omega⟩
  by_cases eq:q=i
  ·rw[eq];exact hnf
  ·exact hok q (by omega)
 have hkl':(k:Int)<((proof.getD i default).heads.map fun h=>pz h.p).length:=by omega
 have hkl2:(k:Int)<(proof.getD ((i:Int)).toNat default).heads.length:=by
  rw[Int.toNat_natCast]
  omega
 have hst:=headSys_step ((sysF (hs.map pz) proof i).getD i []) ((proof.getD i default).set.map fun d=>pz d.p) (sysF (hs.map pz) proof i) hkl
 obtain⟨hSk,hSk2⟩:=hHS k hk
 have hSki:=hSk2 i (Nat.le_refl _)
 have hSkl:=hSk.len
 have hhead:=nodeF_heads hnf _ (getD_mem hkl)
 have hhp:=(hni.heads _ (getD_mem hkl)).pol (headF_may hhead)
 have hnx:((proof.getD ((i:Int)).toNat default).heads.getD ((k:Int)).toNat default).next=((proof.getD i default).heads.getD k default).next:=rfl
 by_cases h0:0≤((proof.getD i default).heads.getD k default).next
 rotate_left
 ·rw[if_neg h0]at hst
  have h0':((proof.getD ((i:Int)).toNat default).heads.getD ((k:Int)).toNat default).next<0:=by omega
  repeat(first|refine wDB ?_|refine awp_seq_k fun K hK=>?_|refine wN fun bx=>?_|(refine wH ?_;clear hK))
  refine⟨⟨k+1,hkl⟩,wk,?_,by simp only;omega⟩
  simp only
  rw[hst]
  exact qpm
 rw[if_pos h0]at hst
 have h0':¬((proof.getD ((i:Int)).toNat default).heads.getD ((k:Int)).toNat default).next<0:=by omega
 have hnb:=headF_next hhead h0
 have hSS:=headSys_ok (m:=6+7*i) (many:=proof.length) (i:=i) (conds:=conds.map pz) (S:=(sysF (hs.map pz) proof i).getD i []) (set:=(proof.getD i default).set.map fun d=>pz d.p) (Ss:=sysF (hs.map pz) proof i) (hs:=(proof.getD i default).heads) (hS.mono (by omega)) hSi.1 hSi.2 hset (by rw[List.length_map];exact hsetl) (fun x hx=>⟨hni.heads x hx,nodeF_heads hnf x hx⟩)
 clear hSS
 repeat(first|refine wDB ?_|refine awp_seq_k fun K hK=>?_|refine wN fun bx=>?_|(refine wH ?_;clear hK))
 refine qldG (cap:=proof.length) (sz:=1) pZsE (headSys ((sysF (hs.map pz) proof i).getD i []) ((proof.getD i default).set.map fun d=>pz d.p) (sysF (hs.map pz) proof i) ((proof.getD i default).heads.take k)) i 0 ?_ ?_ (by omega) (by omega) (by decide)
 ·simp
 rw[show(headSys ((sysF (hs.map pz) proof i).getD i []) ((proof.getD i default).set.map fun d=>pz d.p) (sysF (hs.map pz) proof i) ((proof.getD i default).heads.take k)).getD i default=(sysF (hs.map pz) proof i).getD i [] from hSki]
 generalize hSeq:(sysF (hs.map pz) proof i).getD i []=S0' at*
 have hsm:((proof.getD i default).set.map fun d=>pz d.p).length=(proof.getD i default).set.length:=List.length_map _
 have hlast:=hSi.2
 repeat(first|refine wDB ?_|refine awp_seq_k fun K hK=>?_|refine wN fun bx=>?_|(refine wH ?_;clear hK))
 refine awp_loopP (ι:={j:Nat//j≤(proof.getD i default).set.length}) (fun j=>[(2,nodesV proof),(11,pZs (x.shown.map pz)),(13,pZs (conds.map pz)),(16,.mslice g 0 proof.length proof.length),(19,.int .i64 i),(20,pZs ((proof.getD i default).heads.map fun h=>pz h.p)),(22,.int .i64 k),(23,.int .i64 ((proof.getD i default).heads.getD k default).next),(24,pZs (belowF S0' (((proof.getD i default).set.map fun d=>pz d.p).take j.1))),(25,.int .i64 j.1)])
  (fun _=>[rowS g 75 pZsE 1 proof.length (headSys S0' ((proof.getD i default).set.map fun d=>pz d.p) (sysF (hs.map pz) proof i) ((proof.getD i default).heads.take k))]) (fun j=>(proof.getD i default).set.length-j.1) ⟨0,Nat.zero_le _⟩ wk qpm ?_
 rintro⟨j,hj⟩
 simp only at hj ⊢
 have hbr:=belowF_row (more:=((proof.getD i default).set.map fun d=>pz d.p).take j) hSi.1 fun q hq=>hset q (mem_take' hq)
 have hbl:=belowF_len (((proof.getD i default).set.map fun d=>pz d.p).take j) S0'
 rw[List.length_take]at hbl
 by_cases hjl:j<(proof.getD i default).set.length
 ·have hjl':(j:Int)<(proof.getD ((i:Int)).toNat default).set.length:=by
   rw[Int.toNat_natCast]
   omega
  have hd:=hni.set _ (getD_mem hjl)
  have hm:=nodeF_setm hnf _ (getD_mem hjl)
  have gO:=rpof_c ((proof.getD i default).set.getD j default).p 4 (by decide) hd.p.ok (mayP_m hm)
  rw[colZ_self (canon_of hm)]at gO
  have gA:=r31add_c (belowF S0' (((proof.getD i default).set.map fun d=>pz d.p).take j)) (pz ((proof.getD i default).set.getD j default).p) hbr (hd.p.pol hm) (by omega)
  rw[←belowF_snoc,←map_getF (fun d:DerR=>pz d.p) hjl,←take_snoc (by omega)]at gA
  rw[show((proof.getD i default).set.map fun d=>pz d.p).getD j default=pz ((proof.getD i default).set.getD j default).p from map_getF (fun d:DerR=>pz d.p) hjl]at gA
  repeat(first|refine wDB ?_|refine awp_seq_k fun K hK=>?_|refine wN fun bx=>?_|refine wC gO ?_|refine wC gA ?_|(refine wH ?_;clear hK))
  exact⟨⟨j+1,hjl⟩,wk,qpm,by simp only;omega⟩
 have hjge:¬(j:Int)<(proof.getD ((i:Int)).toNat default).set.length:=by
  rw[Int.toNat_natCast]
  omega
 obtain rfl:j=(proof.getD i default).set.length:=by omega
 rw[←hsm,List.take_length]
 rw[←hsm,List.take_length]at hbr hbl
 have gA:=r31add_c (belowF S0' ((proof.getD i default).set.map fun d=>pz d.p)) (pz ((proof.getD i default).heads.getD k default).p) hbr hhp (by omega)
 rw[←belowF_snoc]at gA
 rw[show pz ((proof.getD i default).heads.getD k default).p=((proof.getD i default).heads.map fun h=>pz h.p).getD k default from (map_getF (fun h:HeadR=>pz h.p) hkl).symm]at gA
 repeat(first|refine wDB ?_|refine awp_seq_k fun K hK=>?_|refine wN fun bx=>?_|refine wC gA ?_|(refine wH ?_;clear hK))
 refine qstG (cap:=proof.length) tyok pZsE (headSys S0' ((proof.getD i default).set.map fun d=>pz d.p) (sysF (hs.map pz) proof i) ((proof.getD i default).heads.take k)) (0+((proof.getD i default).heads.getD k default).next.toNat) (belowF S0' (((proof.getD i default).set.map fun d=>pz d.p)++[((proof.getD i default).heads.map fun h=>pz h.p).getD k default])) rfl ?_ (by omega) (by omega)
 rw[Nat.zero_add ((proof.getD i default).heads.getD k default).next.toNat,map_getF (fun h:HeadR=>pz h.p) hkl,←hst]
 repeat(first|refine wDB ?_|refine awp_seq_k fun K hK=>?_|refine wN fun bx=>?_|(refine wH ?_;clear hK))
 exact⟨⟨k+1,hkl⟩,wk,qpm,by simp only;omega⟩
end Go.Proofs.YtkbdklmdcbmgkaaGreat
