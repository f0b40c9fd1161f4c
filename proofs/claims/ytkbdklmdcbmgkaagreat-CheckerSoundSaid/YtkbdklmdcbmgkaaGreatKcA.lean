/-
  Layer 31 (checker): what is contained, may all be, products that are noted, their sums.
-/
import Derived.Test.YtkbdklmdcbmgkaaGreatRdC
import Derived.Test.YtkbdklmdcbmgkaaGreatRd8
set_option maxRecDepth 100000
set_option maxHeartbeats 12800000
namespace Go.Proofs.YtkbdklmdcbmgkaaGreat
open Go.Ab
def polyZE (p:PZ):List AV:=[polyV (rawZ p)]
abbrev rowV (l:List PZ):AV:=sl polyZE 1 l .view
theorem rowV_eq (l:List PZ):polysV (l.map rawZ)=rowV l:=by
 unfold polysV rowV sl
 rw[List.length_map]
 congr 1
 funext i
 unfold polyE polyZE
 by_cases h:i<l.length
 ·rw[map_getF rawZ h]
 ·rw[List.getD_eq_getElem?_getD,List.getD_eq_getElem?_getD,List.getElem?_eq_none (by rw[List.length_map];omega),List.getElem?_eq_none (by omega)]
  rfl
theorem rawZ_pz {k:Nat} {p:List TermR} (h:PolyOk k p) (hm:mayP p=true):rawZ (pz p)=p:=zR_map h hm
theorem rows_raw {k:Nat} {ps:List (List TermR)} (h:∀p∈ps,PolyOk k p) (hm:ps.all mayP=true):polysV ps=rowV (ps.map pz):=by
 rw[←rowV_eq,List.map_map]
 refine congrArg polysV ?_
 exact((List.map_congr_left fun p hp=>rawZ_pz (h p hp) (List.all_eq_true.1 hm p hp)).trans (List.map_id ps)).symm
def idxF {α:Type} (pb:α→Bool) (xs:List α):Int:=if xs.any pb then(xs.findIdx pb:Int) else -1
theorem idxF_at {α:Type} [Inhabited α] {pb:α→Bool} {xs:List α} {i:Nat} (hi:i<xs.length) (h:pb (xs.getD i default)=true) (hn:∀j,j<i→pb (xs.getD j default)=false):idxF pb xs=i:=by
 unfold idxF
 rw[if_pos (List.any_eq_true.2 ⟨_,getD_mem hi,h⟩)]
 have:xs.findIdx pb=i:=(List.findIdx_eq hi).2 ⟨by rw[getD_get hi]at h;exact h,fun j hj=>by
  have:=hn j hj
  rwa [getD_get (by omega)]at this⟩
 rw[this]
theorem idxF_no {α:Type} [Inhabited α] {pb:α→Bool} {xs:List α} (hn:∀j,j<xs.length→pb (xs.getD j default)=false):idxF pb xs= -1:=by
 unfold idxF
 rw[if_neg]
 intro h
 obtain⟨x,hx,hp⟩:=List.any_eq_true.1 h
 obtain⟨j,hj,e⟩:=List.getElem_of_mem hx
 have:=hn j hj
 rw[getD_get hj,e,hp]at this
 cases this
theorem idxF_any {α:Type} (pb:α→Bool) (xs:List α):decide (idxF pb xs≥0)=xs.any pb:=by
 unfold idxF
 cases xs.any pb with
 |true=>rw[if_pos rfl];exact decide_eq_true (by omega)
 |false=>rw[if_neg (by decide)];rfl
theorem cbIdxP:Callable Tryz.prog 29:=fun _ _=>by kernel_rfl
theorem idxP_c {α:Type} [Inhabited α] (v:α→List TermR) (xs:List α) (o:Ab.Own) (hl:xs.length≤5864062014635) (f:FuncId) (cap:List AV) (HO:AHeap) (pb:α→Bool)
  (hf:∀x∈xs,ACalls Tryz.prog f ([polyV (v x)]++cap) HO fun r H'=>r=.ret (.bool (pb x))∧H'=HO):
  ACalls Tryz.prog 29 [sl (fun x=>[polyV (v x)]) 1 xs o,.func (.func f) [] cap] HO fun r H'=>r=.ret (.int .i64 (idxF pb xs))∧H'=HO:=by
 refine acalls_of_awp tyok cbIdxP Tryz.func29 rfl rfl ?_
 repeat(first|refine wDB ?_|refine awp_seq_k fun K hK=>?_|refine wN fun bx=>?_|(refine wH ?_;clear hK))
 refine awp_loop0 (ι:={i:Nat//i≤xs.length∧∀j,j<i→pb (xs.getD j default)=false}) (fun i=>[(0,sl (fun x=>[polyV (v x)]) 1 xs o),(1,.func (.func f) [] cap),(7,.int .i64 xs.length),(8,.int .i64 i.1)])
  (fun _=>HO) (fun i=>xs.length-i.1) ⟨0,Nat.zero_le _,fun j hj=>absurd hj (Nat.not_lt_zero j)⟩ wk ⟨0,rfl⟩ ?_
 rintro⟨i,hi,hn⟩
 simp only at hi hn ⊢
 by_cases hlt:i<xs.length
 rotate_left
 ·have hge:¬(i:Int)<xs.length:=by omega
  obtain rfl:i=xs.length:=by omega
  repeat(first|refine wDB ?_|refine awp_seq_k fun K hK=>?_|refine wN fun bx=>?_|(refine wH ?_;clear hK))
  exact fnQ_ret 0 rfl (.tmp rfl .nil) (Sub.of_eq (by rw[idxF_no hn];rfl)) ⟨rfl,rfl⟩
 have hlt':(i:Int)<xs.length:=by omega
 have hf1:=hf _ (getD_mem hlt)
 repeat(first|refine wDB ?_|refine awp_seq_k fun K hK=>?_|refine wN fun bx=>?_|(refine wH ?_;clear hK))
 refine qcallH (G:=[]) hf1 ?_
 cases hb:pb (xs.getD i default)with
 |true=>
  repeat(first|refine wDB ?_|refine awp_seq_k fun K hK=>?_|refine wN fun bx=>?_|(refine wH ?_;clear hK))
  exact fnQ_ret 0 rfl (.tmp rfl .nil) (Sub.of_eq (by rw[idxF_at hlt hb hn];rfl)) ⟨rfl,rfl⟩
 |false=>
  repeat(first|refine wDB ?_|refine awp_seq_k fun K hK=>?_|refine wN fun bx=>?_|(refine wH ?_;clear hK))
  refine⟨⟨i+1,hlt,fun j hj=>?_⟩,wk,⟨0,rfl⟩,by simp only;omega⟩
  by_cases e:j=i
  ·rw[e];exact hb
  ·exact hn j (by omega)
theorem cbConP:Callable Tryz.prog 14:=fun _ _=>by kernel_rfl
theorem conP_c {α:Type} [Inhabited α] (v:α→List TermR) (xs:List α) (o:Ab.Own) (hl:xs.length≤5864062014635) (f:FuncId) (cap:List AV) (HO:AHeap) (pb:α→Bool)
  (hf:∀x∈xs,ACalls Tryz.prog f ([polyV (v x)]++cap) HO fun r H'=>r=.ret (.bool (pb x))∧H'=HO):
  ACalls Tryz.prog 14 [sl (fun x=>[polyV (v x)]) 1 xs o,.func (.func f) [] cap] HO fun r H'=>r=.ret (.bool (xs.any pb))∧H'=HO:=by
 refine acalls_of_awp tyok cbConP Tryz.func14 rfl rfl ?_
 have g:=idxP_c v xs o hl f cap HO pb hf
 repeat(first|refine wDB ?_|refine awp_seq_k fun K hK=>?_|refine wN fun bx=>?_|(refine wH ?_;clear hK))
 refine qcallH (G:=[]) g ?_
 repeat(first|refine wDB ?_|refine awp_seq_k fun K hK=>?_|refine wN fun bx=>?_|(refine wH ?_;clear hK))
 exact fnQ_ret 0 rfl (.tmp rfl .nil) (Sub.of_eq (by rw[←idxF_any];rfl)) ⟨rfl,rfl⟩
theorem cbIdxH:Callable Tryz.prog 145:=fun _ _=>by kernel_rfl
theorem idxH_c (xs:List HeadR) (o:Ab.Own) (hl:xs.length≤5864062014635) (f:FuncId) (cap:List AV) (HO:AHeap) (pb:HeadR→Bool)
  (hf:∀x∈xs,ACalls Tryz.prog f ([.agg (headE x)]++cap) HO fun r H'=>r=.ret (.bool (pb x))∧H'=HO):
  ACalls Tryz.prog 145 [sl headE 3 xs o,.func (.func f) [] cap] HO fun r H'=>r=.ret (.int .i64 (idxF pb xs))∧H'=HO:=by
 refine acalls_of_awp tyok cbIdxH Tryz.func145 rfl rfl ?_
 repeat(first|refine wDB ?_|refine awp_seq_k fun K hK=>?_|refine wN fun bx=>?_|(refine wH ?_;clear hK))
 refine awp_loop0 (ι:={i:Nat//i≤xs.length∧∀j,j<i→pb (xs.getD j default)=false}) (fun i=>[(0,sl headE 3 xs o),(1,.func (.func f) [] cap),(7,.int .i64 xs.length),(8,.int .i64 i.1)])
  (fun _=>HO) (fun i=>xs.length-i.1) ⟨0,Nat.zero_le _,fun j hj=>absurd hj (Nat.not_lt_zero j)⟩ wk ⟨0,rfl⟩ ?_
 rintro⟨i,hi,hn⟩
 simp only at hi hn ⊢
 by_cases hlt:i<xs.length
 rotate_left
 ·have hge:¬(i:Int)<xs.length:=by omega
  obtain rfl:i=xs.length:=by omega
  repeat(first|refine wDB ?_|refine awp_seq_k fun K hK=>?_|refine wN fun bx=>?_|(refine wH ?_;clear hK))
  exact fnQ_ret 0 rfl (.tmp rfl .nil) (Sub.of_eq (by rw[idxF_no hn];rfl)) ⟨rfl,rfl⟩
 have hlt':(i:Int)<xs.length:=by omega
 have hf1:=hf _ (getD_mem hlt)
 repeat(first|refine wDB ?_|refine awp_seq_k fun K hK=>?_|refine wN fun bx=>?_|(refine wH ?_;clear hK))
 refine qcallH (G:=[]) hf1 ?_
 cases hb:pb (xs.getD i default)with
 |true=>
  repeat(first|refine wDB ?_|refine awp_seq_k fun K hK=>?_|refine wN fun bx=>?_|(refine wH ?_;clear hK))
  exact fnQ_ret 0 rfl (.tmp rfl .nil) (Sub.of_eq (by rw[idxF_at hlt hb hn];rfl)) ⟨rfl,rfl⟩
 |false=>
  repeat(first|refine wDB ?_|refine awp_seq_k fun K hK=>?_|refine wN fun bx=>?_|(refine wH ?_;clear hK))
  refine⟨⟨i+1,hlt,fun j hj=>?_⟩,wk,⟨0,rfl⟩,by simp only;omega⟩
  by_cases e:j=i
  ·rw[e];exact hb
  ·exact hn j (by omega)
theorem cbConH:Callable Tryz.prog 104:=fun _ _=>by kernel_rfl
theorem conH_c (xs:List HeadR) (o:Ab.Own) (hl:xs.length≤5864062014635) (f:FuncId) (cap:List AV) (HO:AHeap) (pb:HeadR→Bool)
  (hf:∀x∈xs,ACalls Tryz.prog f ([.agg (headE x)]++cap) HO fun r H'=>r=.ret (.bool (pb x))∧H'=HO):
  ACalls Tryz.prog 104 [sl headE 3 xs o,.func (.func f) [] cap] HO fun r H'=>r=.ret (.bool (xs.any pb))∧H'=HO:=by
 refine acalls_of_awp tyok cbConH Tryz.func104 rfl rfl ?_
 have g:=idxH_c xs o hl f cap HO pb hf
 repeat(first|refine wDB ?_|refine awp_seq_k fun K hK=>?_|refine wN fun bx=>?_|(refine wH ?_;clear hK))
 refine qcallH (G:=[]) g ?_
 repeat(first|refine wDB ?_|refine awp_seq_k fun K hK=>?_|refine wN fun bx=>?_|(refine wH ?_;clear hK))
 exact fnQ_ret 0 rfl (.tmp rfl .nil) (Sub.of_eq (by rw[←idxF_any];rfl)) ⟨rfl,rfl⟩
theorem cbAll31:Callable Tryz.prog 16:=fun _ _=>by kernel_rfl
theorem cbAll311:Callable Tryz.prog 30:=fun _ _=>by kernel_rfl
theorem all311_c (p:List TermR) (h:PolyOk 100000000 p):PCalls Tryz.prog 30 [polyV p] (.bool (!mayP p)):=by
 refine pcalls_of_awp tyok cbAll311 Tryz.func30 rfl rfl ?_
 have g:=pmay_c p h
 repeat(first|refine wDB ?_|refine awp_seq_k fun K hK=>?_|refine wN fun bx=>?_|refine wC g ?_|(refine wH ?_;clear hK))
 refine r1 ?_
 exact Sub.refl _
theorem all31_c (ps:List (List TermR)) (hl:ps.length≤5864062014635) (h:∀p∈ps,PolyOk 100000000 p):PCalls Tryz.prog 16 [polysV ps] (.bool (ps.all mayP)):=by
 refine pcalls_of_awp tyok cbAll31 Tryz.func16 rfl rfl ?_
 have g:=conP_c (fun p=>p) ps .view hl 30 [] [] (fun p=> !mayP p) fun p hp=>all311_c p (h p hp)
 have e:(!ps.any fun p=> !mayP p)=ps.all mayP:=by
  rw[List.not_any_eq_all_not]
  simp
 unfold polysV polyE
 repeat(first|refine wDB ?_|refine awp_seq_k fun K hK=>?_|refine wN fun bx=>?_|(refine wH ?_;clear hK))
 refine qcallH (G:=[]) g ?_
 repeat(first|refine wDB ?_|refine awp_seq_k fun K hK=>?_|refine wN fun bx=>?_|(refine wH ?_;clear hK))
 refine r1 ?_
 exact Sub.of_eq (by rw[←e])
theorem cbAcc1:Callable Tryz.prog 15:=fun _ _=>by kernel_rfl
theorem acc1_c (p:List TermR):PCalls Tryz.prog 15 [polyV p] (.bool (decide (p=[]))):=by
 refine pcalls_of_awp tyok cbAcc1 Tryz.func15 rfl rfl ?_
 by_cases h:p=[]
 ·have h':(p.length:Int)=0:=by rw[h];rfl
  repeat(first|refine wDB ?_|refine awp_seq_k fun K hK=>?_|refine wN fun bx=>?_|(refine wH ?_;clear hK))
  refine r1 ?_
  exact Sub.of_eq (by rw[decide_eq_true h])
 ·have h':¬(p.length:Int)=0:=by
   have:=List.length_pos_iff.2 h
   omega
  repeat(first|refine wDB ?_|refine awp_seq_k fun K hK=>?_|refine wN fun bx=>?_|(refine wH ?_;clear hK))
  refine r1 ?_
  exact Sub.of_eq (by rw[decide_eq_false h])
theorem cbTimes3:Callable Tryz.prog 60:=fun _ _=>by kernel_rfl
theorem ctimes_c (bad:Bool) (p q:PZ) (j k b:Nat) (hj:j+k+1≤4000) (hp:PolZ j 16777216 p) (hq:PolZ k 100000 q):
  ACalls Tryz.prog 60 [.ptr b 0,polyV (rawZ p),polyV (rawZ q)] [.box b 128 (.agg [.bool bad])] fun r H'=>r=.ret (polyV (rawZ (timesS bad p q).1))∧H'=[.box b 128 (.agg [.bool (timesS bad p q).2])]:=by
 refine acalls_of_awp tyok cbTimes3 Tryz.func60 rfl rfl ?_
 have lp:=hp.len
 have lq:=hq.len
 have op:=hp.ok.ok (by omega)
 have oq:=hq.ok.ok (by omega)
 have mp:=hp.ok.may
 have mq:=hq.ok.may
 have g1:=plimbs_c (rawZ p) (op.mono (by omega)) mp
 have g2:=plimbs_c (rawZ q) (oq.mono (by omega)) mq
 have k1:limR (rawZ p)≤j:=limZ_le hp.ok.bd
 have k2:limR (rawZ q)≤k:=limZ_le hq.ok.bd
 have ep:(rawZ p).length=p.length:=List.length_map _
 have eq:(rawZ q).length=q.length:=List.length_map _
 have hw:=work_bnd (a:=(rawZ p).length) (b:=(rawZ q).length) (c:=limR (rawZ p)+limR (rawZ q)) (by omega) (by omega) (by omega)
 rw[Int.natCast_add]at hw
 obtain⟨w1,w2,w3,w4⟩:=hw
 cases bad with
 |true=>
  rw[timesS_bad]
  repeat(first|refine wDB ?_|refine awp_seq_k fun K hK=>?_|refine wN fun bx=>?_|(refine wH ?_;clear hK))
  exact fnQ_ret 0 rfl (.tmp rfl .nil) (Sub.nilsv _ _) ⟨rfl,rfl⟩
 |false=>
  have ew:workZ p q=((rawZ p).length:Int)*(rawZ q).length*(limR (rawZ p)+limR (rawZ q)):=by
   rw[ep,eq]
   rfl
  unfold timesS
  by_cases hg:workZ p q>16777216
  ·have hg':=hg
   rw[ew]at hg'
   rw[if_pos (.inr hg)]
   repeat(first|refine wDB ?_|refine awp_seq_k fun K hK=>?_|refine wN fun bx=>?_|refine wC g1 ?_|refine wC g2 ?_|(refine wH ?_;clear hK))
   exact fnQ_ret 0 rfl (.tmp rfl .nil) (Sub.nilsv _ _) ⟨rfl,rfl⟩
  ·have hg':=hg
   rw[ew]at hg'
   rw[if_neg (by rintro(h|h);cases h;exact hg h)]
   have g3:=ptimes_c (rawZ p) (rawZ q) (j+k) (by omega) (op.mono (by omega)) (oq.mono (by omega)) mp mq (by rw[ep,eq];exact work_len hp.ok.can hg)
   rw[ptimesF_z]at g3
   unfold rawZ at g3
   rw[zT_map,zT_map]at g3
   cases hb:(tmZ p q).2 with
   |true=>
    rw[hb]at g3
    repeat(first|refine wDB ?_|refine awp_seq_k fun K hK=>?_|refine wN fun bx=>?_|refine wC g1 ?_|refine wC g2 ?_|refine wC g3 ?_|(refine wH ?_;clear hK))
    exact fnQ_ret 0 rfl (.tmp rfl .nil) (Sub.refl _) ⟨rfl,rfl⟩
   |false=>
    rw[hb]at g3
    repeat(first|refine wDB ?_|refine awp_seq_k fun K hK=>?_|refine wN fun bx=>?_|refine wC g1 ?_|refine wC g2 ?_|refine wC g3 ?_|(refine wH ?_;clear hK))
    exact fnQ_ret 0 rfl (.tmp rfl .nil) (Sub.refl _) ⟨rfl,rfl⟩
theorem cbSum3:Callable Tryz.prog 62:=fun _ _=>by kernel_rfl
theorem csum_c (bad:Bool) (a c:List PZ) (k n b:Nat) (hk:k≤100) (hn:n≤100) (ha:RowZ k n a) (hc:RowZ k n c) (hl:a.length≤1000) (hac:a.length=c.length):
  ACalls Tryz.prog 62 [.ptr b 0,rowV a,rowV c] [.box b 128 (.agg [.bool bad])] fun r H'=>r=.ret (polyV (rawZ (sumS bad a c a.length).1))∧H'=[.box b 128 (.agg [.bool (sumS bad a c a.length).2])]:=by
 refine acalls_of_awp tyok cbSum3 Tryz.func62 rfl rfl ?_
 unfold rowV polyZE
 repeat(first|refine wDB ?_|refine awp_seq_k fun K hK=>?_|refine wN fun bx=>?_|(refine wH ?_;clear hK))
 refine awp_loop0 (ι:={i:Nat//i≤a.length}) (fun i=>[(1,sl (fun p:PZ=>[polyV (rawZ p)]) 1 a .view),(2,sl (fun p:PZ=>[polyV (rawZ p)]) 1 c .view),(6,polyV (rawZ (sumS bad a c i.1).1)),(7,.func (.func 60) [.ptr b 0] []),(12,.int .i64 a.length),(13,.int .i64 i.1)])
  (fun i=>[.box b 128 (.agg [.bool (sumS bad a c i.1).2])]) (fun i=>a.length-i.1) ⟨0,Nat.zero_le _⟩ ?_ ⟨0,rfl⟩ ?_
 ·exact⟨⟨_,rfl,Sub.refl _⟩,⟨_,rfl,Sub.refl _⟩,⟨_,rfl,Sub.nilsv _ _⟩,⟨_,rfl,Sub.refl _⟩,⟨_,rfl,Sub.refl _⟩,⟨_,rfl,Sub.refl _⟩,trivial⟩
 rintro⟨i,hi⟩
 simp only at hi ⊢
 by_cases hlt:i<a.length
 rotate_left
 ·have hge:¬(i:Int)<a.length:=by omega
  obtain rfl:i=a.length:=by omega
  repeat(first|refine wDB ?_|refine awp_seq_k fun K hK=>?_|refine wN fun bx=>?_|(refine wH ?_;clear hK))
  exact fnQ_ret 0 rfl (.tmp rfl .nil) (Sub.refl _) ⟨rfl,rfl⟩
 have hlt':(i:Int)<a.length:=by omega
 have hlt2:(i:Int)<c.length:=by omega
 have pa:=ha.at' hlt
 have pc:=hc.at' (i:=i) (by omega)
 have gT:=ctimes_c (sumS bad a c i).2 (a.getD i default) (c.getD i default) k k b (by omega) (pa.mono (Nat.le_refl _) (by omega)) (pc.mono (Nat.le_refl _) (by omega))
 have hstep:sumS bad a c (i+1)=(addZ (sumS bad a c i).1 (timesS (sumS bad a c i).2 (a.getD i default) (c.getD i default)).1,(timesS (sumS bad a c i).2 (a.getD i default) (c.getD i default)).2):=rfl
 have p1:=sumS_pol (bad:=bad) ha hc hn i (by omega)
 have p2:=timesS_pol (bad:=(sumS bad a c i).2) pa pc
 have l1:=p1.len
 have l4:n*n*i≤100*100*1000:=mul3 hn hn (by omega)
 have l2:=p2.len
 generalize hx:timesS (sumS bad a c i).2 (a.getD i default) (c.getD i default)=x at*
 have gA:=padd_c (rawZ (sumS bad a c i).1) (rawZ x.1) 3000 (by omega) ((p1.ok.ok (by omega)).mono (by omega)) ((p2.ok.ok (by omega)).mono (by omega)) p1.ok.may p2.ok.may
 have e:colZ ((rawZ (sumS bad a c i).1++rawZ x.1).map zT)=addZ (sumS bad a c i).1 x.1:=by
  unfold rawZ
  rw[List.map_append,zT_map,zT_map]
  exact(addZ_col p1.ok.can p2.ok.can.may).symm
 rw[e]at gA
 repeat(first|refine wKB ?_|refine awp_seq_k fun K hK=>?_|refine wN fun bx=>?_|(refine wH ?_;clear hK))
 refine areg_soft mixed tyok [11] [] (List.range 16) (by decide +kernel) ?_
 repeat(first|refine wDB ?_|refine awp_seq_k fun K hK=>?_|refine wN fun bx=>?_|(refine wH ?_;clear hK))
 refine qcallH (G:=[]) gT ?_
 repeat(first|refine wDB ?_|refine awp_seq_k fun K hK=>?_|refine wN fun bx=>?_|refine wC gA ?_|(refine wH ?_;clear hK))
 exact⟨⟨i+1,hlt⟩,⟨⟨_,rfl,Sub.refl _⟩,⟨_,rfl,Sub.refl _⟩,⟨_,rfl,Sub.of_eq (by rw[hstep];rfl)⟩,⟨_,rfl,Sub.refl _⟩,⟨_,rfl,Sub.refl _⟩,⟨_,rfl,Sub.refl _⟩,trivial⟩,⟨0,by simp only[hstep];rfl⟩,by simp only;omega⟩
end Go.Proofs.YtkbdklmdcbmgkaaGreat
namespace Go.Proofs.YtkbdklmdcbmgkaaGreat
open Go.Ab
theorem cbMade31:Callable Tryz.prog 102:=fun _ _=>by kernel_rfl
theorem made31_c (p:List TermR) (h:PolyOk 1000000 p) (hm:mayP p=true):PCalls Tryz.prog 102 [polyV p] (polyV (rawZ (wholeZ (pz p)))):=by
 refine pcalls_of_awp tyok cbMade31 Tryz.func102 rfl rfl ?_
 have g:=pwhole_c p h hm
 rw[wholeP_z]at g
 repeat(first|refine wDB ?_|refine awp_seq_k fun K hK=>?_|refine wN fun bx=>?_|refine wC g ?_|(refine wH ?_;clear hK))
 refine r1 ?_
 exact Sub.refl _
theorem pz_rawZ (q:PZ):pz (rawZ q)=q:=zT_map q
theorem madeZ_c {k:Nat} (q:PZ) (h:CanK k q) (hk:k≤1000000) (hl:q.length≤400000000):PCalls Tryz.prog 102 [polyV (rawZ q)] (polyV (rawZ (wholeZ q))):=by
 have g:=made31_c (rawZ q) ((h.ok hl).mono hk) h.may
 rwa [pz_rawZ]at g
theorem psameZ_c {k:Nat} (p q:PZ) (hp:CanK k p) (hq:CanK k q) (hk:k≤1000000) (lp:p.length≤400000000) (lq:q.length≤400000000):PCalls Tryz.prog 59 [polyV (rawZ p),polyV (rawZ q)] (.bool (decide (p=q))):=by
 have g:=psame_c (rawZ p) (rawZ q) ((hp.ok lp).mono (by omega)) ((hq.ok lq).mono (by omega))
 unfold rawZ at g ⊢
 rwa [same_z]at g
theorem vclassZ_c {k:Nat} (q:PZ) (h:CanK k q) (hk:k≤1000000) (hl:q.length≤400000000):PCalls Tryz.prog 43 [polyV (rawZ q)] (.int .i64 (clsZ q)):=by
 have o:=(h.ok hl).mono hk
 have e:=classP_z h.may
 rw[zT_map]at e
 have g:=vclass_c (rawZ q) o h.may
 unfold rawZ at g ⊢
 rwa [e]at g
theorem vinitZ_c {k:Nat} (q:PZ) (h:CanK k q) (hk:k≤1000000) (hl:q.length≤400000000):PCalls Tryz.prog 103 [polyV (rawZ q)] (polyV (rawZ (initZ q))):=by
 have o:=(h.ok hl).mono hk
 have hr:=clsZ_range h.can
 have e:=classP_z h.may
 rw[zT_map]at e
 have e2:=initP_z o h.may
 rw[zT_map]at e2
 have g:=vinit_c (rawZ q) o h.may (fun h0=>by
  unfold rawZ at h0 ⊢
  omega)
 unfold rawZ at g ⊢
 rwa [e2]at g
theorem plain_step {l:List DerR} {i:Nat} (hi:i<l.length):(l.take (i+1)).map (·.p)=(l.take i).map (·.p)++[(l.getD i default).p]:=map_snoc (fun d:DerR=>d.p) hi
theorem cbPlain31:Callable Tryz.prog 64:=fun _ _=>by kernel_rfl
theorem plain31_c (l:List DerR) (hl:l.length≤1000000):PCalls Tryz.prog 64 [sl derE 4 l .view] (polysV (l.map (·.p))):=by
 refine pcalls_of_awp tyok cbPlain31 Tryz.func64 rfl rfl ?_
 repeat(first|refine wDB ?_|refine awp_seq_k fun K hK=>?_|refine wN fun bx=>?_|(refine wH ?_;clear hK))
 refine awp_tok0 1 41 ?_
 refine awp_loopP (ι:={y:TimS//y.i≤l.length}) (fun y=>[(2,sl polyE 1 ((l.take y.1.i).map (·.p)) (.own y.1.a y.1.cp)),(5,sl derE 4 l .view),(6,.int .i64 l.length),(7,.int .i64 y.1.i)])
  (fun y=>[.tok y.1.a y.1.cp ((l.take y.1.i).map (·.p)).length 1 41]) (fun y=>l.length-y.1.i) ⟨⟨0,none,0⟩,Nat.zero_le _⟩ wk qpm ?_
 rintro⟨⟨i,ad,cp⟩,hi⟩
 simp only at hi ⊢
 by_cases hlt:i<l.length
 rotate_left
 ·have hge:¬(i:Int)<l.length:=by omega
  obtain rfl:i=l.length:=by omega
  rw[List.take_length]
  repeat(first|refine wDB ?_|refine awp_seq_k fun K hK=>?_|refine wN fun bx=>?_|(refine wH ?_;clear hK))
  refine r1 ?_
  exact Sub.view _ _ _ _
 have hlt':(i:Int)<l.length:=by omega
 have hol:((l.take i).map (·.p)).length≤1000000:=by
  rw[List.length_map,List.length_take]
  omega
 ((repeat(first|refine wDB ?_|refine awp_seq_k fun K hK=>?_|(refine wH ?_;clear hK)));refine wN fun b4=>?_;(repeat(first|refine wDB ?_|refine awp_seq_k fun K hK=>?_|refine wN fun bx=>?_|(refine wH ?_;clear hK))))
 refine qapp tyok polyE ((l.take i).map (·.p)) (l.getD i default).p (SubL.refl _) ?_ fun ad3 cp3=>?_
 ·simp only
  omega
 rw[←plain_step hlt]
 repeat(first|refine wDB ?_|refine awp_seq_k fun K hK=>?_|refine wN fun bx=>?_|(refine wH ?_;clear hK))
 exact⟨⟨⟨i+1,ad3,cp3⟩,hlt⟩,wk,qpm,by simp only;omega⟩
theorem cbClone31:Callable Tryz.prog 68:=fun _ _=>by kernel_rfl
theorem clone31_c {α:Type} [Inhabited α] (v:α→List TermR) (xs:List α) (hl:xs.length≤1000000):ACalls Tryz.prog 68 [sl (fun x=>[polyV (v x)]) 1 xs .view] []
  (fun r H'=>∃i:Option Addr×Nat,r=.ret (sl (fun x=>[polyV (v x)]) 1 xs (.own i.1 i.2))∧H'=[.tok i.1 i.2 xs.length 1 41]):=by
 refine acalls_of_awp tyok cbClone31 Tryz.func68 rfl rfl ?_
 repeat(first|refine wDB ?_|refine awp_seq_k fun K hK=>?_|refine wN fun bx=>?_|(refine wH ?_;clear hK))
 refine qnilU tyok fun b hb=>?_
 cases b with
 |true=>
  have h0:xs=[]:=List.eq_nil_of_length_eq_zero (hb rfl)
  subst h0
  (((repeat(first|refine wT ?_|refine wN fun bx=>?_)));(try refine wP ?_);repeat(refine wH ?_;clear hK))
  refine awp_tok0 1 41 ?_
  repeat(first|refine wDB ?_|refine awp_seq_k fun K hK=>?_|refine wN fun bx=>?_|(refine wH ?_;clear hK))
  exact fnQ_ret 0 rfl (.tmp rfl .nil) (Sub.nilso _ _) ⟨⟨none,0⟩,rfl,rfl⟩
 |false=>
  repeat(first|refine wDB ?_|refine awp_seq_k fun K hK=>?_|refine wN fun bx=>?_|(refine wH ?_;clear hK))
  refine qappF tyok (fun x=>[polyV (v x)]) xs (fun _ _=>SubL.refl _) ?_ fun a1 c1=>?_
  ·constructor<;>(first|omega|(simp only;omega))
  repeat(first|refine wDB ?_|refine awp_seq_k fun K hK=>?_|refine wN fun bx=>?_|(refine wH ?_;clear hK))
  exact fnQ_ret 0 rfl (.tmp rfl .nil) (Sub.refl _) ⟨⟨a1,c1⟩,rfl,rfl⟩
theorem cbBelow1:Callable Tryz.prog 106:=fun _ _=>by kernel_rfl
theorem below1_c (p q:PZ) (b:Nat) (hp:PolZ 4 40 p) (hq:PolZ 4 40 q):
  ACalls Tryz.prog 106 [polyV (rawZ q),.ptr b 0] [.box b 41 (polyV (rawZ p))] fun r H'=>r=.ret (.bool (decide (p=q)))∧H'=[.box b 41 (polyV (rawZ p))]:=by
 refine acalls_of_awp tyok cbBelow1 Tryz.func106 rfl rfl ?_
 have lp:=hp.len
 have lq:=hq.len
 have g:=psameZ_c p q hp.ok hq.ok (by decide) (by omega) (by omega)
 repeat(first|refine wDB ?_|refine awp_seq_k fun K hK=>?_|refine wN fun bx=>?_|refine wC g ?_|(refine wH ?_;clear hK))
 exact fnQ_ret 0 rfl (.tmp rfl .nil) (Sub.refl _) ⟨rfl,rfl⟩
theorem any_mem (p:PZ) (l:List PZ):(l.any fun q=>decide (p=q))=decide (p∈l):=by
 rw[Bool.eq_iff_iff,List.any_eq_true,decide_eq_true_eq]
 constructor
 ·rintro⟨q,hq,h⟩
  rw[of_decide_eq_true h]
  exact hq
 ·exact fun h=>⟨p,h,decide_eq_true rfl⟩
theorem below_step (l more:List PZ) {i:Nat} (hi:i<more.length):belowF l (more.take (i+1))=addL (belowF l (more.take i)) (more.getD i default):=by
 rw[take_snoc hi,belowF_snoc]
theorem cbBelow:Callable Tryz.prog 67:=fun _ _=>by kernel_rfl
theorem below_c2 (l more:List PZ) (hl:RowZ 4 40 l) (hm:RowZ 4 40 more) (hll:l.length≤1000) (hml:more.length≤1000):PCalls Tryz.prog 67 [rowV l,rowV more] (rowV (belowF l more)):=by
 refine pcalls_of_awp tyok cbBelow Tryz.func67 rfl rfl ?_
 unfold rowV polyZE
 repeat(first|refine wDB ?_|refine awp_seq_k fun K hK=>?_|refine wN fun bx=>?_|(refine wH ?_;clear hK))
 refine qcallXV (G:=[]) (H2:=fun i=>[.tok i.1 i.2 l.length 1 41]) (clone31_c rawZ l (by omega)) ?_
 rintro⟨a0,c0⟩
 simp only
 repeat(first|refine wDB ?_|refine awp_seq_k fun K hK=>?_|refine wN fun bx=>?_|(refine wH ?_;clear hK))
 refine awp_loopP (ι:={y:TimS//y.i≤more.length}) (fun y=>[(5,sl (fun p:PZ=>[polyV (rawZ p)]) 1 (belowF l (more.take y.1.i)) (.own y.1.a y.1.cp)),(10,sl (fun p:PZ=>[polyV (rawZ p)]) 1 more .view),(11,.int .i64 more.length),(12,.int .i64 y.1.i)])
  (fun y=>[.tok y.1.a y.1.cp (belowF l (more.take y.1.i)).length 1 41]) (fun y=>more.length-y.1.i) ⟨⟨0,a0,c0⟩,Nat.zero_le _⟩ wk qpm ?_
 rintro⟨⟨i,ad,cp⟩,hi⟩
 simp only at hi ⊢
 by_cases hlt:i<more.length
 rotate_left
 ·have hge:¬(i:Int)<more.length:=by omega
  obtain rfl:i=more.length:=by omega
  rw[List.take_length]
  repeat(first|refine wDB ?_|refine awp_seq_k fun K hK=>?_|refine wN fun bx=>?_|(refine wH ?_;clear hK))
  refine r1 ?_
  exact Sub.view _ _ _ _
 have hlt':(i:Int)<more.length:=by omega
 have hp:=hm.at' hlt
 have hbr:=belowF_row (more:=more.take i) hl fun q hq=>hm q (mem_take' hq)
 have hbl:=belowF_len (more.take i) l
 rw[List.length_take]at hbl
 have hst:=below_step l more hlt
 generalize hbb:belowF l (more.take i)=bb at*
 ((repeat(first|refine wDB ?_|refine awp_seq_k fun K hK=>?_|(refine wH ?_;clear hK)));refine wN fun b7=>?_)
 (((repeat(first|refine wT ?_|refine wN fun bx=>?_)));(try refine wP ?_);repeat(refine wH ?_;clear hK))
 have gC:=conP_c rawZ bb (.own ad cp) (by omega) 106 [.ptr b7 0] [.box b7 41 (polyV (rawZ (more.getD i default)))] (fun q=>decide (more.getD i default=q)) fun q hq=>below1_c _ _ b7 hp (hbr q hq)
 rw[any_mem]at gC
 refine awp_perm (List.Perm.swap _ _ _) ?_
 repeat(first|refine wDB ?_|refine awp_seq_k fun K hK=>?_|refine wN fun bx=>?_|(refine wH ?_;clear hK))
 refine qcallH (G:=[_]) gC ?_
 by_cases hin:more.getD i default∈bb
 ·rw[decide_eq_true hin]
  have hs:belowF l (more.take (i+1))=bb:=by rw[hst];exact if_pos hin
  repeat(first|refine wDB ?_|refine awp_seq_k fun K hK=>?_|refine wN fun bx=>?_|(refine wH ?_;clear hK))
  refine⟨⟨⟨i+1,ad,cp⟩,hlt⟩,⟨⟨_,rfl,Sub.of_eq (by rw[hs])⟩,⟨_,rfl,Sub.refl _⟩,⟨_,rfl,Sub.refl _⟩,⟨_,rfl,Sub.refl _⟩,trivial⟩,?_,by simp only;omega⟩
  simp only
  rw[hs]
  exact qpm
 ·rw[decide_eq_false hin]
  have hs:belowF l (more.take (i+1))=bb++[more.getD i default]:=by rw[hst];exact if_neg hin
  repeat(first|refine wDB ?_|refine awp_seq_k fun K hK=>?_|refine wN fun bx=>?_|(refine wH ?_;clear hK))
  refine qapp tyok (fun p:PZ=>[polyV (rawZ p)]) bb (more.getD i default) (SubL.refl _) ?_ fun ad3 cp3=>?_
  ·simp only
   omega
  rw[←hs]
  repeat(first|refine wDB ?_|refine awp_seq_k fun K hK=>?_|refine wN fun bx=>?_|(refine wH ?_;clear hK))
  exact⟨⟨⟨i+1,ad3,cp3⟩,hlt⟩,wk,qpm,by simp only;omega⟩
end Go.Proofs.YtkbdklmdcbmgkaaGreat
namespace Go.Proofs.YtkbdklmdcbmgkaaGreat
open Go.Ab
theorem pnumZ_c (x:IntR) (h:IntOk 4 x):PCalls Tryz.prog 61 [.agg (intEs x)] (polyV (rawZ (numZ x.z))):=pnumber_c x 4 (by decide) h
theorem cbDer:Callable Tryz.prog 32:=fun _ _=>by kernel_rfl
theorem der_c (l:List PZ) (d:DerR) (hd:DerB d) (hl:RowZ 4 40 l) (hll:l.length≤1000):PCalls Tryz.prog 32 [rowV l,.agg (derE d)] (.bool (derivedF l d)):=by
 refine pcalls_of_awp tyok cbDer Tryz.func32 rfl rfl ?_
 ((repeat(first|refine wDB ?_|refine awp_seq_k fun K hK=>?_|(refine wH ?_;clear hK)));refine wN fun b3=>?_)
 (((repeat(first|refine wT ?_|refine wN fun bx=>?_)));(try refine wP ?_);repeat(refine wH ?_;clear hK))
 refine awp_freeze [] (s:=3) rfl rfl ?_
 have no:derivedF l d=false→Sub (AV.bool false) (AV.bool (derivedF l d)):=fun h=>Sub.of_eq (by rw[h])
 have hdl:=hd.ok.len
 have hpl:=hd.p.ok.len
 by_cases h1:d.p=[]
 ·have e:=no (by unfold derivedF;simp[h1])
  have h1':(d.p.length:Int)=0:=by rw[h1];rfl
  repeat(first|refine wDB ?_|refine awp_seq_k fun K hK=>?_|refine wN fun bx=>?_|(refine wH ?_;clear hK))
  refine r1 ?_
  exact e
 have h1':¬(d.p.length:Int)=0:=by
  have:=List.length_pos_iff.2 h1
  omega
 have gM:=pmay_c d.p (hd.p.ok.mono (by omega))
 cases m1:mayP d.p with
 |false=>
  rw[m1]at gM
  have e:=no (by unfold derivedF;rw[m1];simp)
  repeat(first|refine wDB ?_|refine awp_seq_k fun K hK=>?_|refine wN fun bx=>?_|refine wC gM ?_|(refine wH ?_;clear hK))
  refine r1 ?_
  exact e
 |true=>
 rw[m1]at gM
 by_cases h2:d.by'.length=l.length
 rotate_left
 ·have e:=no (by unfold derivedF;simp[h2])
  have h2':¬(d.by'.length:Int)=l.length:=by omega
  repeat(first|refine wDB ?_|refine awp_seq_k fun K hK=>?_|refine wN fun bx=>?_|refine wC gM ?_|(refine wH ?_;clear hK))
  refine r1 ?_
  exact e
 have h2':(d.by'.length:Int)=l.length:=by omega
 have gA:=all31_c d.by' (by omega) fun p hp=>(hd.ok.by' p hp).mono (by omega)
 cases m2:d.by'.all mayP with
 |false=>
  rw[m2]at gA
  have e:=no (by unfold derivedF;rw[m2];simp)
  repeat(first|refine wDB ?_|refine awp_seq_k fun K hK=>?_|refine wN fun bx=>?_|refine wC gM ?_|refine wC gA ?_|(refine wH ?_;clear hK))
  refine r1 ?_
  exact e
 |true=>
 rw[m2]at gA
 have gW:=wmay_c d.n (by have:=hd.ok.n.len;omega)
 cases h3:mayZ d.n with
 |false=>
  rw[h3]at gW
  have e:=no (by unfold derivedF;simp[h3])
  repeat(first|refine wDB ?_|refine awp_seq_k fun K hK=>?_|refine wN fun bx=>?_|refine wC gM ?_|refine wC gA ?_|refine wC gW ?_|(refine wH ?_;clear hK))
  refine r1 ?_
  exact e
 |true=>
 rw[h3]at gW
 have gS:=sign1_c d.n (hd.ok.n.mono (by omega))
 have hsg:=signZ_pos d.n.z
 by_cases h4:0<d.n.z
 rotate_left
 ·have e:=no (by unfold derivedF;simp[h4])
  have h4':signZ d.n.z≤0:=hsg.2 h4
  repeat(first|refine wDB ?_|refine awp_seq_k fun K hK=>?_|refine wN fun bx=>?_|refine wC gM ?_|refine wC gA ?_|refine wC gW ?_|refine wC gS ?_|(refine wH ?_;clear hK))
  refine r1 ?_
  exact e
 have h4':¬signZ d.n.z≤0:=fun e=>hsg.1 e h4
 have hrow:=hd.row m2
 have hpp:=hd.p.pol m1
 have hnn:=numZ_pol (intR_zok hd.ok.n)
 have e:derivedF l d=(let x:=timesS false (pz d.p) (numZ d.n.z);let y:=sumS x.2 l (d.by'.map pz) l.length;decide (x.1=y.1)&& !y.2):=by
  unfold derivedF
  rw[decide_eq_true (show d.p≠[] from h1),m1,decide_eq_true h2,m2,h3,decide_eq_true h4]
  rfl
 have gN:=pnumZ_c d.n hd.ok.n
 have epv:polyV (rawZ (pz d.p))=polyV d.p:=by rw[rawZ_pz hd.p.ok m1]
 have ebv:rowV (d.by'.map pz)=polysV d.by':=(rows_raw (fun p hp=>(hd.by' p hp).ok) m2).symm
 have gT:=fun b=>ctimes_c false (pz d.p) (numZ d.n.z) 4 5 b (by decide) (hpp.mono (Nat.le_refl _) (by decide)) (hnn.mono (Nat.le_refl _) (by decide))
 have gU:=fun b=>csum_c (timesS false (pz d.p) (numZ d.n.z)).2 l (d.by'.map pz) 4 40 b (by decide) (by decide) hl hrow hll (by rw[List.length_map];exact h2.symm)
 rw[epv]at gT
 rw[ebv]at gU
 have pT:=timesS_pol (bad:=false) hpp hnn
 have pU:=sumS_pol (bad:=(timesS false (pz d.p) (numZ d.n.z)).2) hl hrow (by decide) l.length hll
 have l1:=pT.len
 have l2:40*40*l.length≤40*40*1000:=Nat.mul_le_mul_left _ hll
 have l3:=pU.len
 have gE:=psameZ_c (k:=2000) (timesS false (pz d.p) (numZ d.n.z)).1 (sumS (timesS false (pz d.p) (numZ d.n.z)).2 l (d.by'.map pz) l.length).1 (pT.ok.mono (by omega)) (pU.ok.mono (by omega)) (by decide) (by omega) (by omega)
 simp only at e
 generalize (timesS false (pz d.p) (numZ d.n.z))=x at*
 generalize (sumS x.2 l (d.by'.map pz) l.length)=y at*
 have ef:∀b,(decide (x.1=y.1)&& !y.2)=b→Sub (AV.bool b) (AV.bool (derivedF l d)):=fun b h=>Sub.of_eq (by rw[e,h])
 ((repeat(first|refine wDB ?_|refine awp_seq_k fun K hK=>?_|refine wC gM ?_|refine wC gA ?_|refine wC gW ?_|refine wC gS ?_|(refine wH ?_;clear hK)));refine wN fun b5=>?_)
 (((repeat(first|refine wT ?_|refine wN fun bx=>?_)));(try refine wP ?_);repeat(refine wH ?_;clear hK))
 cases hxy:decide (x.1=y.1)with
 |false=>
  rw[hxy]at gE
  have e2:=ef false (by rw[hxy];rfl)
  repeat(first|refine wKB ?_|refine awp_seq_k fun K hK=>?_|refine wN fun bx=>?_|(refine wH ?_;clear hK))
  refine areg_soft mixed tyok [5,12] [(5,[])] [0,1,2,3,4,7,8,9,10,5,6,11,12,13,14,15,16,17,18,19,20] (by decide +kernel) ?_
  repeat(first|refine wDB ?_|refine awp_seq_k fun K hK=>?_|refine wN fun bx=>?_|refine wC gN ?_|(refine wH ?_;clear hK))
  refine qcallH (G:=[]) (gT b5) ?_
  repeat(first|refine wDB ?_|refine awp_seq_k fun K hK=>?_|refine wN fun bx=>?_|(refine wH ?_;clear hK))
  refine qcallH (G:=[]) (gU b5) ?_
  repeat(first|refine wDB ?_|refine awp_seq_k fun K hK=>?_|refine wN fun bx=>?_|refine wC gE ?_|(refine wH ?_;clear hK))
  refine r1 ?_
  exact e2
 |true=>
  rw[hxy]at gE
  have e2:=ef (!y.2) (by rw[hxy];rfl)
  repeat(first|refine wKB ?_|refine awp_seq_k fun K hK=>?_|refine wN fun bx=>?_|(refine wH ?_;clear hK))
  refine areg_soft mixed tyok [5,12] [(5,[])] [0,1,2,3,4,7,8,9,10,5,6,11,12,13,14,15,16,17,18,19,20] (by decide +kernel) ?_
  repeat(first|refine wDB ?_|refine awp_seq_k fun K hK=>?_|refine wN fun bx=>?_|refine wC gN ?_|(refine wH ?_;clear hK))
  refine qcallH (G:=[]) (gT b5) ?_
  repeat(first|refine wDB ?_|refine awp_seq_k fun K hK=>?_|refine wN fun bx=>?_|(refine wH ?_;clear hK))
  refine qcallH (G:=[]) (gU b5) ?_
  repeat(first|refine wDB ?_|refine awp_seq_k fun K hK=>?_|refine wN fun bx=>?_|refine wC gE ?_|(refine wH ?_;clear hK))
  refine r1 ?_
  exact e2
theorem cbUsed1:Callable Tryz.prog 105:=fun _ _=>by kernel_rfl
theorem used1_c (h:HeadR) (q:PZ) (b:Nat) (hh:PolR 4 40 h.p) (hq:PolZ 4 40 q):
  ACalls Tryz.prog 105 [.agg (headE h),.ptr b 0] [.box b 41 (polyV (rawZ q))] fun r H'=>r=.ret (.bool (sameP8 h.p (rawZ q)))∧H'=[.box b 41 (polyV (rawZ q))]:=by
 refine acalls_of_awp tyok cbUsed1 Tryz.func105 rfl rfl ?_
 have lq:=hq.len
 have g:=psame_c h.p (rawZ q) (hh.ok.mono (by omega)) ((hq.ok.ok (by omega)).mono (by omega))
 ((repeat(first|refine wDB ?_|refine awp_seq_k fun K hK=>?_|refine wC g ?_|(refine wH ?_;clear hK)));refine wN fun b2=>?_;(repeat(first|refine wDB ?_|refine awp_seq_k fun K hK=>?_|refine wN fun bx=>?_|refine wC g ?_|(refine wH ?_;clear hK))))
 exact fnQ_ret 1 rfl (.tmp rfl .nil) (Sub.refl _) ⟨rfl,rfl⟩
theorem cbUsed:Callable Tryz.prog 66:=fun _ _=>by kernel_rfl
theorem used_c (l:List PZ) (d:DivR) (hs:List HeadR) (hl:RowZ 4 40 l) (hll:l.length≤10) (hp:d.pw.length=l.length) (hh:∀h∈hs,PolR 4 40 h.p) (hhl:hs.length≤1000000):PCalls Tryz.prog 66 [rowV l,.agg (divE d),sl headE 3 hs .view] (.bool (usedF l d.pw (hs.map (·.p)))):=by
 refine pcalls_of_awp tyok cbUsed Tryz.func66 rfl rfl ?_
 unfold rowV polyZE
 ((repeat(first|refine wDB ?_|refine awp_seq_k fun K hK=>?_|(refine wH ?_;clear hK)));refine wN fun b4=>?_;(repeat(first|refine wDB ?_|refine awp_seq_k fun K hK=>?_|refine wN fun bx=>?_|(refine wH ?_;clear hK))))
 refine awp_loopP (ι:={i:Nat//i≤l.length∧∀j,j<i→usedAt l d.pw (hs.map (·.p)) j=true}) (fun i=>[(0,sl (fun p:PZ=>[polyV (rawZ p)]) 1 l .view),(2,sl headE 3 hs .view),(4,.ptr b4 0),(11,pwsV d.pw),(12,.int .i64 d.pw.length),(13,.int .i64 i.1)])
  (fun _=>[.box b4 58 (.agg (divE d))]) (fun i=>l.length-i.1) ⟨0,Nat.zero_le _,fun j hj=>absurd hj (Nat.not_lt_zero j)⟩ wk qpm ?_
 rintro⟨i,hi,hu⟩
 simp only at hi hu ⊢
 by_cases hlt:i<l.length
 rotate_left
 ·have hge:¬(i:Int)<d.pw.length:=by omega
  obtain rfl:i=l.length:=by omega
  repeat(first|refine wDB ?_|refine awp_seq_k fun K hK=>?_|refine wN fun bx=>?_|(refine wH ?_;clear hK))
  refine r1 ?_
  exact Sub.of_eq (congrArg AV.bool (List.all_eq_true.2 fun j hj=>hu j (List.mem_range.1 hj)).symm)
 have hlt':(i:Int)<l.length:=by omega
 have hlt2:(i:Int)<d.pw.length:=by omega
 have hq:=(hl.at' hlt).init
 have lq:=hq.len
 have lli:=(hl.at' hlt).len
 have gI:=vinitZ_c (l.getD i default) (hl.at' hlt).ok (by decide) (by omega)
 have next:usedAt l d.pw (hs.map (·.p)) i=true→∀j,j<i+1→usedAt l d.pw (hs.map (·.p)) j=true:=fun h j hj=>by
  by_cases e:j=i
  ·rw[e];exact h
  ·exact hu j (by omega)
 by_cases h1:d.pw.getD i default=0
 ·have h1':d.pw.getD ((i:Int)).toNat default=0:=h1
  ((repeat(first|refine wDB ?_|refine awp_seq_k fun K hK=>?_|refine wC gI ?_|(refine wH ?_;clear hK)));refine wN fun b9=>?_;(repeat(first|refine wDB ?_|refine awp_seq_k fun K hK=>?_|refine wN fun bx=>?_|refine wC gI ?_|(refine wH ?_;clear hK))))
  exact⟨⟨i+1,hlt,next (by unfold usedAt;rw[decide_eq_true h1];rfl)⟩,wk,qpm,by simp only;omega⟩
 have h1':¬d.pw.getD ((i:Int)).toNat default=0:=h1
 have gC:=vclassZ_c (initZ (l.getD i default)) hq.ok (by decide) (by omega)
 by_cases h2:clsZ (initZ (l.getD i default))=0
 ·((repeat(first|refine wDB ?_|refine awp_seq_k fun K hK=>?_|refine wC gI ?_|refine wC gC ?_|(refine wH ?_;clear hK)));refine wN fun b9=>?_;(repeat(first|refine wDB ?_|refine awp_seq_k fun K hK=>?_|refine wN fun bx=>?_|refine wC gI ?_|refine wC gC ?_|(refine wH ?_;clear hK))))
  exact⟨⟨i+1,hlt,next (by unfold usedAt;rw[decide_eq_true h2,Bool.or_true];rfl)⟩,wk,qpm,by simp only;omega⟩
 have eu:usedAt l d.pw (hs.map (·.p)) i=hs.any fun h=>sameP8 h.p (rawZ (wholeZ (initZ (l.getD i default)))):=by
  unfold usedAt
  rw[decide_eq_false h1,decide_eq_false h2,Bool.false_or,Bool.false_or,List.any_map]
  rfl
 have gW:=madeZ_c (initZ (l.getD i default)) hq.ok (by decide) (by omega)
 have hw:PolZ 4 40 (wholeZ (initZ (l.getD i default))):=⟨wholeZ_canK hq.ok,by rw[wholeZ_len];exact hq.len⟩
 have gF:=fun b=>conH_c hs .view (by omega) 105 [.ptr b 0] [.box b 41 (polyV (rawZ (wholeZ (initZ (l.getD i default)))))] (fun h=>sameP8 h.p (rawZ (wholeZ (initZ (l.getD i default))))) fun h hx=>used1_c h _ b (hh h hx) hw
 rw[←eu]at gF
 ((repeat(first|refine wDB ?_|refine awp_seq_k fun K hK=>?_|refine wC gI ?_|(refine wH ?_;clear hK)));refine wN fun b9=>?_)
 (((repeat(first|refine wT ?_|refine wN fun bx=>?_)));(try refine wP ?_);repeat(refine wH ?_;clear hK))
 refine awp_perm (List.Perm.swap _ _ _) ?_
 repeat(first|refine wDB ?_|refine awp_seq_k fun K hK=>?_|refine wN fun bx=>?_|refine wC gC ?_|refine wC gW ?_|(refine wH ?_;clear hK))
 refine qcallH (G:=[_]) (gF b9) ?_
 cases hc:usedAt l d.pw (hs.map (·.p)) i with
 |true=>
  repeat(first|refine wDB ?_|refine awp_seq_k fun K hK=>?_|refine wN fun bx=>?_|(refine wH ?_;clear hK))
  exact⟨⟨i+1,hlt,next hc⟩,wk,qpm,by simp only;omega⟩
 |false=>
  repeat(first|refine wDB ?_|refine awp_seq_k fun K hK=>?_|refine wN fun bx=>?_|(refine wH ?_;clear hK))
  refine r1 ?_
  exact Sub.of_eq (congrArg AV.bool (List.all_eq_false.2 ⟨i,List.mem_range.2 hlt,by rw[hc];decide⟩).symm)
end Go.Proofs.YtkbdklmdcbmgkaaGreat
namespace Go.Proofs.YtkbdklmdcbmgkaaGreat
open Go.Ab
structure IdP (l:List PZ) (d:DivR) (i:Nat):Prop where
 le:i≤l.length
 pw:∀j,j<i→0≤d.pw.getD j default∧d.pw.getD j default≤4
theorem cbIdent:Callable Tryz.prog 65:=fun _ _=>by kernel_rfl
theorem ident_c (f:PZ) (l:List PZ) (d:DivR) (hd:DivB d) (hf:PolZ 4 16777216 f) (hl:RowZ 4 40 l) (hll:l.length≤10):PCalls Tryz.prog 65 [polyV (rawZ f),rowV l,.agg (divE d)] (.bool (identityF f l d)):=by
 refine pcalls_of_awp tyok cbIdent Tryz.func65 rfl rfl ?_
 ((repeat(first|refine wDB ?_|refine awp_seq_k fun K hK=>?_|(refine wH ?_;clear hK)));refine wN fun b5=>?_)
 (((repeat(first|refine wT ?_|refine wN fun bx=>?_)));(try refine wP ?_);repeat(refine wH ?_;clear hK))
 refine awp_freeze [] (s:=5) rfl rfl ?_
 have no:identityF f l d=false→Sub (AV.bool false) (AV.bool (identityF f l d)):=fun h=>Sub.of_eq (by rw[h])
 have hdr:=hd.rest
 have hdc:=hd.len
 by_cases h2:d.rest=[]
 rotate_left
 ·have e:=no (by unfold identityF;rw[decide_eq_false h2];simp)
  have h2':=len_nil h2
  repeat(first|refine wDB ?_|refine awp_seq_k fun K hK=>?_|refine wN fun bx=>?_|(refine wH ?_;clear hK))
  refine r1 ?_
  exact e
 have h2':¬(d.rest.length:Int)>0:=by rw[h2];decide
 by_cases h3:d.pw.length=l.length
 rotate_left
 ·have e:=no (by unfold identityF;rw[decide_eq_false h3];simp)
  have h3':¬(d.pw.length:Int)=l.length:=by omega
  repeat(first|refine wDB ?_|refine awp_seq_k fun K hK=>?_|refine wN fun bx=>?_|(refine wH ?_;clear hK))
  refine r1 ?_
  exact e
 have h3':(d.pw.length:Int)=l.length:=by omega
 by_cases h4:d.cof.length=l.length
 rotate_left
 ·have e:=no (by unfold identityF;rw[decide_eq_false h4];simp)
  have h4':¬(d.cof.length:Int)=l.length:=by omega
  repeat(first|refine wDB ?_|refine awp_seq_k fun K hK=>?_|refine wN fun bx=>?_|(refine wH ?_;clear hK))
  refine r1 ?_
  exact e
 have h4':(d.cof.length:Int)=l.length:=by omega
 have gA:=all31_c d.cof (by omega) fun p hp=>((hd.cof p hp).ok).mono (by omega)
 cases h1:d.cof.all mayP with
 |false=>
  rw[h1]at gA
  have e:=no (by unfold identityF;rw[h1];simp)
  repeat(first|refine wDB ?_|refine awp_seq_k fun K hK=>?_|refine wN fun bx=>?_|refine wC gA ?_|(refine wH ?_;clear hK))
  refine r1 ?_
  exact e
 |true=>
 rw[h1]at gA
 have hrow:=hd.row h1
 have e:identityF f l d=(d.pw.all (fun n=>decide (0≤n∧n≤100))&&(let x:=powS f l d.pw l.length;let y:=sumS x.2 l (d.cof.map pz) l.length;decide (x.1=y.1)&& !y.2)):=by
  unfold identityF
  rw[decide_eq_true h2,decide_eq_true h3,decide_eq_true h4,h1]
  rfl
 have ebv:rowV (d.cof.map pz)=polysV d.cof:=(rows_raw (fun p hp=>(hd.cof p hp).ok) h1).symm
 have gU:=fun b=>csum_c (powS f l d.pw l.length).2 l (d.cof.map pz) 4 40 b (by decide) (by decide) hl hrow (by omega) (by rw[List.length_map];exact h4.symm)
 rw[ebv]at gU
 ((repeat(first|refine wDB ?_|refine awp_seq_k fun K hK=>?_|refine wC gA ?_|(refine wH ?_;clear hK)));refine wN fun b7=>?_)
 (((repeat(first|refine wT ?_|refine wN fun bx=>?_)));(try refine wP ?_);repeat(refine wH ?_;clear hK))
 unfold rowV polyZE at gU ⊢
 repeat(first|refine wDB ?_|refine awp_seq_k fun K hK=>?_|refine wN fun bx=>?_|(refine wH ?_;clear hK))
 refine awp_loop0 (ι:={i:Nat//IdP l d i}) (fun i=>[(0,polyV (rawZ (powS f l d.pw i.1).1)),(1,sl (fun p:PZ=>[polyV (rawZ p)]) 1 l .view),(5,.rptr (divE d)),(7,.ptr b7 0),(39,pwsV d.pw),(40,.int .i64 d.pw.length),(41,.int .i64 i.1)])
  (fun i=>[.box b7 128 (.agg [.bool (powS f l d.pw i.1).2])]) (fun i=>l.length-i.1) ⟨0,⟨Nat.zero_le _,fun j hj=>absurd hj (Nat.not_lt_zero j)⟩⟩ wk ⟨0,rfl⟩ ?_
 rintro⟨i,hI⟩
 have hi:=hI.le
 simp only at hi ⊢
 have hpol:PolZ 204 16777216 (powS f l d.pw i).1:=(powS_pol hf (hl.mono (Nat.le_refl _) (by decide)) i fun q hq=>by have:=hI.pw q hq;omega).mono (by omega) (Nat.le_refl _)
 by_cases hlt:i<l.length
 rotate_left
 ·have hge:¬(i:Int)<d.pw.length:=by omega
  obtain rfl:i=l.length:=by omega
  have hall:d.pw.all (fun n=>decide (0≤n∧n≤100))=true:=all_take fun j hj=>decide_eq_true (by have:=hI.pw j (by omega);omega)
  simp only[hall,Bool.true_and]at e
  have pU:=sumS_pol (bad:=(powS f l d.pw l.length).2) hl hrow (by decide) l.length (by omega)
  have l1:=hpol.len
  have l2:40*40*l.length≤40*40*10:=Nat.mul_le_mul_left _ hll
  have l3:=pU.len
  have gE:=psameZ_c (k:=2000) (powS f l d.pw l.length).1 (sumS (powS f l d.pw l.length).2 l (d.cof.map pz) l.length).1 (hpol.ok.mono (by omega)) (pU.ok.mono (by omega)) (by decide) (by omega) (by omega)
  generalize (powS f l d.pw l.length)=x at*
  generalize (sumS x.2 l (d.cof.map pz) l.length)=y at*
  have ef:∀b,(decide (x.1=y.1)&& !y.2)=b→Sub (AV.bool b) (AV.bool (identityF f l d)):=fun b h=>Sub.of_eq (by rw[e,h])
  cases hxy:decide (x.1=y.1)with
  |false=>
   rw[hxy]at gE
   have e2:=ef false (by rw[hxy];rfl)
   repeat(first|refine wDB ?_|refine awp_seq_k fun K hK=>?_|refine wN fun bx=>?_|(refine wH ?_;clear hK))
   refine qcallH (G:=[]) (gU b7) ?_
   repeat(first|refine wDB ?_|refine awp_seq_k fun K hK=>?_|refine wN fun bx=>?_|refine wC gE ?_|(refine wH ?_;clear hK))
   refine r1 ?_
   exact e2
  |true=>
   rw[hxy]at gE
   have e2:=ef (!y.2) (by rw[hxy];rfl)
   repeat(first|refine wDB ?_|refine awp_seq_k fun K hK=>?_|refine wN fun bx=>?_|(refine wH ?_;clear hK))
   refine qcallH (G:=[]) (gU b7) ?_
   repeat(first|refine wDB ?_|refine awp_seq_k fun K hK=>?_|refine wN fun bx=>?_|refine wC gE ?_|(refine wH ?_;clear hK))
   refine r1 ?_
   exact e2
 have hlt':(i:Int)<l.length:=by omega
 have hlt2:(i:Int)<d.pw.length:=by omega
 have hmem:d.pw.getD i default∈d.pw:=getD_mem (by omega)
 have eno:¬(0≤d.pw.getD i default∧d.pw.getD i default≤100)→identityF f l d=false:=fun h=>by
  rw[e,all_hit (f:=fun n=>decide (0≤n∧n≤100)) (i:=i) (by omega) (decide_eq_false h)]
  rfl
 have hn':d.pw.getD ((i:Int)).toNat default=d.pw.getD i default:=rfl
 by_cases h5:d.pw.getD i default<0
 ·have e2:=no (eno (by omega))
  repeat(first|refine wDB ?_|refine awp_seq_k fun K hK=>?_|refine wN fun bx=>?_|(refine wH ?_;clear hK))
  refine r1 ?_
  exact e2
 by_cases h6:d.pw.getD i default>100
 ·have e2:=no (eno (by omega))
  repeat(first|refine wDB ?_|refine awp_seq_k fun K hK=>?_|refine wN fun bx=>?_|(refine wH ?_;clear hK))
  refine r1 ?_
  exact e2
 have h7:d.pw.getD i default≤4:=by
  rcases hd.pws _ hmem with h|h
  ·exact h
  ·exact absurd h h6
 have hpi:=(hl.at' hlt).init
 have lli:=(hl.at' hlt).len
 have gI:=vinitZ_c (l.getD i default) (hl.at' hlt).ok (by decide) (by omega)
 have estep:powS f l d.pw (i+1)=mulS (powS f l d.pw i).2 (powS f l d.pw i).1 (initZ (l.getD i default)) (d.pw.getD i default).toNat:=rfl
 repeat(first|refine wDB ?_|refine awp_seq_k fun K hK=>?_|refine wN fun bx=>?_|(refine wH ?_;clear hK))
 refine awp_loop0 (ι:={m:Nat//m≤(d.pw.getD i default).toNat}) (fun m=>[(0,polyV (rawZ (mulS (powS f l d.pw i).2 (powS f l d.pw i).1 (initZ (l.getD i default)) m.1).1)),(1,sl (fun p:PZ=>[polyV (rawZ p)]) 1 l .view),(5,.rptr (divE d)),(7,.ptr b7 0),(8,.int .i64 i),(39,pwsV d.pw),(40,.int .i64 d.pw.length),(41,.int .i64 i),(52,.int .i64 (d.pw.getD i default)),(53,.int .i64 m.1)])
  (fun m=>[.box b7 128 (.agg [.bool (mulS (powS f l d.pw i).2 (powS f l d.pw i).1 (initZ (l.getD i default)) m.1).2])]) (fun m=>(d.pw.getD i default).toNat-m.1) ⟨0,Nat.zero_le _⟩ wk ⟨0,rfl⟩ ?_
 rintro⟨m,hm⟩
 simp only at hm ⊢
 by_cases hmt:m<(d.pw.getD i default).toNat
 rotate_left
 ·have hge:¬(m:Int)<d.pw.getD i default:=by omega
  obtain rfl:m=(d.pw.getD i default).toNat:=by omega
  rw[←estep]
  repeat(first|refine wDB ?_|refine awp_seq_k fun K hK=>?_|refine wN fun bx=>?_|(refine wH ?_;clear hK))
  refine⟨⟨i+1,⟨hlt,fun j hj=>?_⟩⟩,wk,⟨0,rfl⟩,by simp only;omega⟩
  by_cases ej:j=i
  ·rw[ej]
   omega
  ·exact hI.pw j (by omega)
 have hmt':(m:Int)<d.pw.getD i default:=by omega
 have pm:=(mulS_pol (bad:=(powS f l d.pw i).2) hpol (hpi.mono (Nat.le_refl _) (by decide)) m).mono (k:=300) (by omega) (Nat.le_refl _)
 have gT:=ctimes_c (mulS (powS f l d.pw i).2 (powS f l d.pw i).1 (initZ (l.getD i default)) m).2 _ _ 300 4 b7 (by decide) pm (hpi.mono (Nat.le_refl _) (by decide))
 repeat(first|refine wDB ?_|refine awp_seq_k fun K hK=>?_|refine wN fun bx=>?_|refine wC gI ?_|(refine wH ?_;clear hK))
 refine qcallH (G:=[]) gT ?_
 repeat(first|refine wDB ?_|refine awp_seq_k fun K hK=>?_|refine wN fun bx=>?_|(refine wH ?_;clear hK))
 exact⟨⟨m+1,hmt⟩,wk,⟨0,rfl⟩,by simp only;omega⟩
end Go.Proofs.YtkbdklmdcbmgkaaGreat
namespace Go.Proofs.YtkbdklmdcbmgkaaGreat
open Go.Ab
def kE (shown conds:List PZ) (proof:List NodeR) (gs gp:Nat):List AV:=[rowV shown,rowV conds,nodesV proof,.mslice gs 0 proof.length proof.length,.mslice gp 0 proof.length proof.length]
theorem cbCond3:Callable Tryz.prog 63:=fun _ _=>by kernel_rfl
theorem cond3_c (shown conds:List PZ) (proof:List NodeR) (gs gp:Nat) (p:PZ) (at':Int) (hc:RowZ 4 40 conds) (hp:PolZ 4 40 p) (_:conds.length≤1000000):
  PCalls Tryz.prog 63 [.rptr (kE shown conds proof gs gp),polyV (rawZ p),.int .i64 at'] (.bool (conditionF conds p at')):=by
 refine pcalls_of_awp tyok cbCond3 Tryz.func63 rfl rfl ?_
 have lp:=hp.len
 have no:conditionF conds p at'=false→Sub (AV.bool false) (AV.bool (conditionF conds p at')):=fun h=>Sub.of_eq (by rw[h])
 by_cases h0:at'≥0
 rotate_left
 ·have e:=no (decide_eq_false fun h=>h0 h.1)
  repeat(first|refine wKB ?_|refine awp_seq_k fun K hK=>?_|refine wN fun bx=>?_|(refine wH ?_;clear hK))
  refine areg_soft mixed tyok [13,21,22] [] [0,1,2,3,4,5,6,7,8,9,10,11,12,14,15,16,17,18,19,20,13,21,22,23,24] (by decide +kernel) ?_
  repeat(first|refine wDB ?_|refine awp_seq_k fun K hK=>?_|refine wN fun bx=>?_|(refine wH ?_;clear hK))
  refine r1 ?_
  exact e
 by_cases h1:at'<conds.length
 rotate_left
 ·have e:=no (decide_eq_false fun h=>h1 h.2.1)
  repeat(first|refine wKB ?_|refine awp_seq_k fun K hK=>?_|refine wN fun bx=>?_|(refine wH ?_;clear hK))
  refine areg_soft mixed tyok [13,21,22] [] [0,1,2,3,4,5,6,7,8,9,10,11,12,14,15,16,17,18,19,20,13,21,22,23,24] (by decide +kernel) ?_
  repeat(first|refine wDB ?_|refine awp_seq_k fun K hK=>?_|refine wN fun bx=>?_|(refine wH ?_;clear hK))
  refine r1 ?_
  exact e
 have hc1:=hc.at' (i:=at'.toNat) (by omega)
 have lc:=hc1.len
 have g1:=madeZ_c p hp.ok (by decide) (by omega)
 have g2:=madeZ_c (conds.getD at'.toNat default) hc1.ok (by decide) (by omega)
 have g3:=psameZ_c (wholeZ p) (wholeZ (conds.getD at'.toNat default)) (wholeZ_canK hp.ok) (wholeZ_canK hc1.ok) (by decide) (by rw[wholeZ_len];omega) (by rw[wholeZ_len];omega)
 have e:conditionF conds p at'=decide (wholeZ p=wholeZ (conds.getD at'.toNat default)):=by
  unfold conditionF
  rw[Bool.eq_iff_iff,decide_eq_true_eq,decide_eq_true_eq]
  exact⟨fun h=>h.2.2,fun h=>⟨h0,h1,h⟩⟩
 rw[e]
 repeat(first|refine wKB ?_|refine awp_seq_k fun K hK=>?_|refine wN fun bx=>?_|(refine wH ?_;clear hK))
 refine areg_soft mixed tyok [13,21,22] [] [0,1,2,3,4,5,6,7,8,9,10,11,12,14,15,16,17,18,19,20,13,21,22,23,24] (by decide +kernel) ?_
 repeat(first|refine wDB ?_|refine awp_seq_k fun K hK=>?_|refine wN fun bx=>?_|refine wC g1 ?_|refine wC g2 ?_|refine wC g3 ?_|(refine wH ?_;clear hK))
 refine r1 ?_
 exact Sub.refl _
def endedF (conds:List PZ) (n:NodeR):Bool:=
 decide (0≤n.at'∧n.at'<n.set.length∧n.divs=[]∧n.heads=[])&&
 (if n.kind=1 then decide (clsZ (pz (n.set.getD n.at'.toNat default).p)=0) else if n.kind=2 then conditionF conds (pz (n.set.getD n.at'.toNat default).p) n.cond else false)
def provF (shown conds:List PZ) (i many:Nat) (n:NodeR):Bool:=
 decide (n.kind=3∧n.divs.length=shown.length)&&n.heads.all (headF conds i many)&&
  (List.range shown.length).all fun j=>identityF (shown.getD j default) (n.set.map fun d=>pz d.p) (n.divs.getD j default)&&usedF (n.set.map fun d=>pz d.p) (n.divs.getD j default).pw (n.heads.map (·.p))
theorem nodeF_split (S shown conds:List PZ) (i many:Nat) (n:NodeR):nodeF S shown conds i many n=(n.set.all (derivedF S)&&(endedF conds n || provF shown conds i many n)):=by
 unfold nodeF
 refine congrArg (and _) ?_
 by_cases hk:n.kind=1∨n.kind=2
 ·have hp:provF shown conds i many n=false:=by
   unfold provF
   rw[decide_eq_false (p:=n.kind=3∧n.divs.length=shown.length) (fun h=>by omega)]
   rfl
  rw[if_pos hk,hp,Bool.or_false]
  unfold endedF
  rcases hk with h|h
  ·rw[if_pos h,if_pos h]
  ·rw[if_neg (by omega),if_neg (by omega),if_pos h]
 ·have he:endedF conds n=false:=by
   unfold endedF
   rw[if_neg (fun h=>hk (.inl h)),if_neg (fun h=>hk (.inr h)),Bool.and_false]
  rw[if_neg hk,he,Bool.false_or]
  rfl
theorem cbEnded:Callable Tryz.prog 33:=fun _ _=>by kernel_rfl
theorem ended_c (shown conds:List PZ) (proof:List NodeR) (gs gp:Nat) (n:NodeR) (hn:NodeB n) (hm:∀d∈n.set,mayP d.p=true) (hc:RowZ 4 40 conds) (hl:conds.length≤1000000):
  PCalls Tryz.prog 33 [.rptr (kE shown conds proof gs gp),.agg (nodeE n)] (.bool (endedF conds n)):=by
 refine pcalls_of_awp tyok cbEnded Tryz.func33 rfl rfl ?_
 have hsl:=hn.setl
 have hdl:=hn.divl
 have hhl:=hn.headl
 ((repeat(first|refine wDB ?_|refine awp_seq_k fun K hK=>?_|(refine wH ?_;clear hK)));refine wN fun b3=>?_)
 (((repeat(first|refine wT ?_|refine wN fun bx=>?_)));(try refine wP ?_);repeat(refine wH ?_;clear hK))
 refine awp_freeze [] (s:=3) rfl rfl ?_
 have no:endedF conds n=false→Sub (AV.bool false) (AV.bool (endedF conds n)):=fun h=>Sub.of_eq (by rw[h])
 have eno:¬(0≤n.at'∧n.at'<n.set.length∧n.divs=[]∧n.heads=[])→endedF conds n=false:=fun h=>by
  unfold endedF
  rw[decide_eq_false h,Bool.false_and]
 by_cases a1:n.at'<0
 ·have e:=no (eno fun h=>by omega)
  repeat(first|refine wDB ?_|refine awp_seq_k fun K hK=>?_|refine wN fun bx=>?_|(refine wH ?_;clear hK))
  refine r1 ?_
  exact e
 by_cases a2:n.at'≥(n.set.length:Int)
 ·have e:=no (eno fun h=>by omega)
  repeat(first|refine wDB ?_|refine awp_seq_k fun K hK=>?_|refine wN fun bx=>?_|(refine wH ?_;clear hK))
  refine r1 ?_
  exact e
 by_cases a3:(n.divs.length:Int)+n.heads.length>0
 ·have e:=no (eno fun h=>by rw[h.2.2.1,h.2.2.2]at a3;simp at a3)
  repeat(first|refine wDB ?_|refine awp_seq_k fun K hK=>?_|refine wN fun bx=>?_|(refine wH ?_;clear hK))
  refine r1 ?_
  exact e
 have a4:n.divs=[]:=List.eq_nil_of_length_eq_zero (by omega)
 have a5:n.heads=[]:=List.eq_nil_of_length_eq_zero (by omega)
 have hatn:n.at'.toNat<n.set.length:=by omega
 have e:endedF conds n=(if n.kind=1 then decide (clsZ (pz (n.set.getD n.at'.toNat default).p)=0) else if n.kind=2 then conditionF conds (pz (n.set.getD n.at'.toNat default).p) n.cond else false):=by
  unfold endedF
  rw[decide_eq_true (show 0≤n.at'∧n.at'<n.set.length∧n.divs=[]∧n.heads=[] from ⟨by omega,by omega,a4,a5⟩),Bool.true_and]
 have hd:=hn.set _ (getD_mem hatn)
 have hmd:=hm _ (getD_mem hatn)
 have hpol:=hd.p.pol hmd
 have lq:=hpol.len
 have gC:=vclassZ_c (pz (n.set.getD n.at'.toNat default).p) hpol.ok (by decide) (by omega)
 rw[rawZ_pz hd.p.ok hmd]at gC
 have gK:=cond3_c shown conds proof gs gp (pz (n.set.getD n.at'.toNat default).p) n.cond hc hpol hl
 rw[rawZ_pz hd.p.ok hmd]at gK
 by_cases k1:n.kind=1
 ·rw[if_pos k1]at e
  by_cases hc0:clsZ (pz (n.set.getD n.at'.toNat default).p)=0
  ·rw[decide_eq_true hc0]at e
   repeat(first|refine wDB ?_|refine awp_seq_k fun K hK=>?_|refine wN fun bx=>?_|refine wC gC ?_|(refine wH ?_;clear hK))
   refine r1 ?_
   exact Sub.of_eq (by rw[e])
  ·rw[decide_eq_false hc0]at e
   repeat(first|refine wDB ?_|refine awp_seq_k fun K hK=>?_|refine wN fun bx=>?_|refine wC gC ?_|(refine wH ?_;clear hK))
   refine r1 ?_
   exact Sub.of_eq (by rw[e])
 rw[if_neg k1]at e
 by_cases k2:n.kind=2
 ·rw[if_pos k2]at e
  repeat(first|refine wDB ?_|refine awp_seq_k fun K hK=>?_|refine wN fun bx=>?_|refine wC gK ?_|(refine wH ?_;clear hK))
  refine r1 ?_
  exact Sub.of_eq (by rw[e])
 ·rw[if_neg k2]at e
  repeat(first|refine wDB ?_|refine awp_seq_k fun K hK=>?_|refine wN fun bx=>?_|(refine wH ?_;clear hK))
  refine r1 ?_
  exact no e
end Go.Proofs.YtkbdklmdcbmgkaaGreat
