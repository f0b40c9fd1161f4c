/-
  The document's checker: divisions, the initials that they use, parents, what is added.
-/
import Derived.Test.YtkbdklmdcbmgkaaGreatRdB
set_option maxRecDepth 100000
set_option maxHeartbeats 25600000
namespace Go.Proofs.YtkbdklmdcbmgkaaGreat
open Go.Ab
def pwE (n:Int):List AV:=[.int .i64 n]
abbrev pwsV (l:List Int):AV:=sl pwE 1 l .view
def divE (d:DivR):List AV:=[pwsV d.pw,polysV d.cof,polyV d.rest]
def headE (h:HeadR):List AV:=[polyV h.p,.int .i64 h.cond,.int .i64 h.next]
def nodeE (n:NodeR):List AV:=[.int .u8 n.kind,sl derE 4 n.set .view,.int .i64 n.at',.int .i64 n.cond,sl divE 3 n.divs .view,sl headE 3 n.heads .view]
abbrev nodesV (l:List NodeR):AV:=sl nodeE 6 l .view
structure DivB (d:DivR):Prop where
 cof:∀p∈d.cof,PolR 4 40 p
 len:d.cof.length≤5864062014634
 rest:d.rest.length≤1000000000000
 pw:d.pw.length≤6
 pws:∀n∈d.pw,n≤4∨100<n
theorem DivB.row {d:DivR} (h:DivB d) (hm:d.cof.all mayP=true):RowZ 4 40 (d.cof.map pz):=fun q hq=>by
 obtain⟨p,hp,rfl⟩:=List.mem_map.1 hq
 exact(h.cof p hp).pol (List.all_eq_true.1 hm p hp)
theorem RowZ.mono {j k m n:Nat} {l:List PZ} (h:RowZ j m l) (hk:j≤k) (hn:m≤n):RowZ k n l:=fun p hp=>(h p hp).mono hk hn
structure IdI (f:PZ) (l:List PZ) (d:DivR) (i:Nat):Prop where
 le:i≤l.length
 pw:∀j,j<i→0≤d.pw.getD j default∧d.pw.getD j default≤4
 ok:(powS f l d.pw i).2=false
theorem IdI.pol {f:PZ} {l:List PZ} {d:DivR} {i:Nat} (h:IdI f l d i) (hf:PolZ 4 16777216 f) (hl:RowZ 4 40 l) (hll:l.length≤10):PolZ 204 16777216 (powS f l d.pw i).1:=
 (powS_pol hf (hl.mono (Nat.le_refl _) (by decide)) i fun q hq=>by have:=h.pw q hq;omega).mono (by have:=h.le;omega) (Nat.le_refl _)
theorem cbId31:Callable Tryz.prog 39:=fun _ _=>by kernel_rfl
theorem r31id_c (f:PZ) (l:List PZ) (d:DivR) (hd:DivB d) (hf:PolZ 4 16777216 f) (hl:RowZ 4 40 l) (hll:l.length≤10):PCalls Tryz.prog 39 [pZ f,pZs l,.agg (divE d)] (.bool (identityF f l d)):=by
 refine pcalls_of_awp tyok cbId31 Tryz.func39 rfl rfl ?_
 have gP:=rplain_c d.cof 4 (by decide) (by have:=hd.len;omega) fun p hp=>(hd.cof p hp).ok
 have hlb:((d.cof.map pz).length:Int)=d.cof.length:=by rw[List.length_map]
 have hdr:=hd.rest
 cases h1:d.cof.all mayP with
 |false=>
  have e:identityF f l d=false:=by unfold identityF;rw[h1];simp
  rw[h1]at gP
  ((repeat(first|refine wDB ?_|refine awp_seq_k fun K hK=>?_|refine wC gP ?_|(refine wH ?_;clear hK)));refine wN fun b5=>?_;(repeat(first|refine wDB ?_|refine awp_seq_k fun K hK=>?_|refine wN fun bx=>?_|refine wC gP ?_|(refine wH ?_;clear hK))))
  refine r1 ?_
  exact Sub.of_eq (by rw[e])
 |true=>
  rw[h1,if_pos rfl]at gP
  by_cases h2:d.rest=[]
  rotate_left
  ·have e:identityF f l d=false:=by unfold identityF;rw[decide_eq_false h2];simp
   have h2':¬(d.rest.length:Int)=0:=by
    have:=List.length_pos_iff.2 h2
    omega
   ((repeat(first|refine wDB ?_|refine awp_seq_k fun K hK=>?_|refine wC gP ?_|(refine wH ?_;clear hK)));refine wN fun b5=>?_;(repeat(first|refine wDB ?_|refine awp_seq_k fun K hK=>?_|refine wN fun bx=>?_|refine wC gP ?_|(refine wH ?_;clear hK))))
   refine r1 ?_
   exact Sub.of_eq (by rw[e])
  have h2':(d.rest.length:Int)=0:=by rw[h2];rfl
  by_cases h3:d.pw.length=l.length
  rotate_left
  ·have e:identityF f l d=false:=by unfold identityF;rw[decide_eq_false h3];simp
   have h3':¬(d.pw.length:Int)=l.length:=by omega
   ((repeat(first|refine wDB ?_|refine awp_seq_k fun K hK=>?_|refine wC gP ?_|(refine wH ?_;clear hK)));refine wN fun b5=>?_;(repeat(first|refine wDB ?_|refine awp_seq_k fun K hK=>?_|refine wN fun bx=>?_|refine wC gP ?_|(refine wH ?_;clear hK))))
   refine r1 ?_
   exact Sub.of_eq (by rw[e])
  have h3':(d.pw.length:Int)=l.length:=by omega
  by_cases h4:d.cof.length=l.length
  rotate_left
  ·have e:identityF f l d=false:=by unfold identityF;rw[decide_eq_false h4];simp
   have h4':¬((d.cof.map pz).length:Int)=l.length:=by omega
   ((repeat(first|refine wDB ?_|refine awp_seq_k fun K hK=>?_|refine wC gP ?_|(refine wH ?_;clear hK)));refine wN fun b5=>?_;(repeat(first|refine wDB ?_|refine awp_seq_k fun K hK=>?_|refine wN fun bx=>?_|refine wC gP ?_|(refine wH ?_;clear hK))))
   refine r1 ?_
   exact Sub.of_eq (by rw[e])
  have h4':((d.cof.map pz).length:Int)=l.length:=by omega
  have hrow:=hd.row h1
  have e:identityF f l d=(d.pw.all (fun n=>decide (0≤n∧n≤100))&&(let x:=powS f l d.pw l.length;let y:=sumS x.2 l (d.cof.map pz) l.length;decide (x.1=y.1)&& !y.2)):=by
   unfold identityF
   rw[decide_eq_true h2,decide_eq_true h3,decide_eq_true h4,h1]
   rfl
  have ebad:(powS f l d.pw l.length).2=true→identityF f l d=false:=fun h=>by
   rw[e]
   simp only[h,sumS_bad,Bool.not_true,Bool.and_false]
  unfold pZs pZE
  ((repeat(first|refine wDB ?_|refine awp_seq_k fun K hK=>?_|refine wC gP ?_|(refine wH ?_;clear hK)));refine wN fun b5=>?_;(repeat(first|refine wDB ?_|refine awp_seq_k fun K hK=>?_|refine wN fun bx=>?_|refine wC gP ?_|(refine wH ?_;clear hK))))
  refine awp_loopP (ι:={i:Nat//IdI f l d i}) (fun i=>[(0,pZ (powS f l d.pw i.1).1),(1,sl (fun p:PZ=>[pZ p]) 1 l .view),(5,.ptr b5 0),(7,sl (fun p:PZ=>[pZ p]) 1 (d.cof.map pz) .view),(9,.int .i64 i.1)])
   (fun _=>[.box b5 58 (.agg (divE d))]) (fun i=>l.length-i.1) ⟨0,⟨Nat.zero_le _,fun j hj=>absurd hj (Nat.not_lt_zero j),rfl⟩⟩ wk qpm ?_
  rintro⟨i,hI⟩
  have hi:=hI.le
  have hok:=hI.ok
  have hpol:=hI.pol hf hl hll
  simp only at hi hok hpol ⊢
  by_cases hlt:i<l.length
  rotate_left
  ·have hge:¬(i:Int)<l.length:=by omega
   obtain rfl:i=l.length:=by omega
   have hall:d.pw.all (fun n=>decide (0≤n∧n≤100))=true:=all_take fun j hj=>decide_eq_true (by have:=hI.pw j (by omega);omega)
   simp only[hall,hok,Bool.true_and]at e
   have gU:=r31sum_c l (d.cof.map pz) 4 40 (by decide) (by decide) hl hrow (by omega) (by rw[List.length_map];exact h4.symm)
   have pU:=sumS_pol (bad:=false) hl hrow (by decide) l.length (by omega)
   cases hy:(sumS false l (d.cof.map pz) l.length).2 with
   |true=>
    rw[hy,Bool.not_true,Bool.and_false]at e
    rw[hy]at gU
    repeat(first|refine wDB ?_|refine awp_seq_k fun K hK=>?_|refine wN fun bx=>?_|refine wC gU ?_|(refine wH ?_;clear hK))
    refine r1 ?_
    exact Sub.of_eq (by rw[e])
   |false=>
    rw[hy,Bool.not_false,Bool.and_true]at e
    rw[hy]at gU
    have l1:=hpol.len
    have l2:40*40*l.length≤40*40*10:=Nat.mul_le_mul_left _ hll
    have l3:=pU.len
    have gE:=r31same_c (powS f l d.pw l.length).1 (sumS false l (d.cof.map pz) l.length).1 2000 (by decide) (hpol.ok.mono (by omega)) (pU.ok.mono (by omega)) (by omega) (by omega)
    repeat(first|refine wDB ?_|refine awp_seq_k fun K hK=>?_|refine wN fun bx=>?_|refine wC gU ?_|refine wC gE ?_|(refine wH ?_;clear hK))
    refine r1 ?_
    exact Sub.of_eq (by rw[e])
  have hlt':(i:Int)<l.length:=by omega
  have hlt2:(i:Int)<d.pw.length:=by omega
  have hmem:d.pw.getD i default∈d.pw:=getD_mem (by omega)
  have eno:¬(0≤d.pw.getD i default∧d.pw.getD i default≤100)→identityF f l d=false:=fun h=>by
   rw[e,all_hit (f:=fun n=>decide (0≤n∧n≤100)) (i:=i) (by omega) (decide_eq_false h)]
   rfl
  generalize hn:d.pw.getD i default=n at hmem eno
  have hn':d.pw.getD ((i:Int)).toNat default=n:=hn
  by_cases h5:n<0
  ·have h5':d.pw.getD ((i:Int)).toNat default<0:=by omega
   repeat(first|refine wDB ?_|refine awp_seq_k fun K hK=>?_|refine wN fun bx=>?_|(refine wH ?_;clear hK))
   refine r1 ?_
   exact Sub.of_eq (by rw[eno (by omega)])
  have h5':¬d.pw.getD ((i:Int)).toNat default<0:=by omega
  by_cases h6:n>100
  ·have h6':d.pw.getD ((i:Int)).toNat default>100:=by omega
   repeat(first|refine wDB ?_|refine awp_seq_k fun K hK=>?_|refine wN fun bx=>?_|(refine wH ?_;clear hK))
   refine r1 ?_
   exact Sub.of_eq (by rw[eno (by omega)])
  have h6':¬d.pw.getD ((i:Int)).toNat default>100:=by omega
  have h7:n≤4:=by
   rcases hd.pws n hmem with h|h
   ·exact h
   ·exact absurd h h6
  have hpi:=(hl.at' hlt).init
  have gI:=rpinit_c (l.getD i default) 4 (by decide) (hl.at' hlt).ok (by have:=(hl.at' hlt).len;omega)
  have estep:powS f l d.pw (i+1)=mulS false (powS f l d.pw i).1 (initZ (l.getD i default)) n.toNat:=by
   rw[powS,hok,hn]
  repeat(first|refine wDB ?_|refine awp_seq_k fun K hK=>?_|refine wN fun bx=>?_|(refine wH ?_;clear hK))
  refine awp_loopP (ι:={m:Nat//m≤n.toNat∧(mulS false (powS f l d.pw i).1 (initZ (l.getD i default)) m).2=false}) (fun m=>[(0,pZ (mulS false (powS f l d.pw i).1 (initZ (l.getD i default)) m.1).1),(1,sl (fun p:PZ=>[pZ p]) 1 l .view),(5,.ptr b5 0),(7,sl (fun p:PZ=>[pZ p]) 1 (d.cof.map pz) .view),(9,.int .i64 i),(10,.int .i64 m.1)])
   (fun _=>[.box b5 58 (.agg (divE d))]) (fun m=>n.toNat-m.1) ⟨0,Nat.zero_le _,rfl⟩ wk qpm ?_
  rintro⟨m,hm,hmo⟩
  simp only at hm hmo ⊢
  by_cases hmt:m<n.toNat
  rotate_left
  ·have hge:¬(m:Int)<d.pw.getD ((i:Int)).toNat default:=by omega
   obtain rfl:m=n.toNat:=by omega
   repeat(first|refine wDB ?_|refine awp_seq_k fun K hK=>?_|refine wN fun bx=>?_|(refine wH ?_;clear hK))
   refine⟨⟨i+1,⟨hlt,fun j hj=>?_,by rw[estep];exact hmo⟩⟩,⟨⟨_,rfl,Sub.of_eq (by rw[estep])⟩,⟨_,rfl,Sub.refl _⟩,⟨_,rfl,Sub.refl _⟩,⟨_,rfl,Sub.refl _⟩,⟨_,rfl,Sub.refl _⟩,trivial⟩,qpm,by simp only;omega⟩
   by_cases ej:j=i
   ·rw[ej,hn]
    omega
   ·exact hI.pw j (by omega)
  have hmt':(m:Int)<d.pw.getD ((i:Int)).toNat default:=by omega
  have pm:=(mulS_pol (bad:=false) hpol (hpi.mono (Nat.le_refl _) (by decide)) m).mono (k:=300) (by omega) (Nat.le_refl _)
  have gT:=r31times_c _ _ 300 4 (by decide) pm (hpi.mono (Nat.le_refl _) (by decide))
  have mstep:mulS false (powS f l d.pw i).1 (initZ (l.getD i default)) (m+1)=timesS false (mulS false (powS f l d.pw i).1 (initZ (l.getD i default)) m).1 (initZ (l.getD i default)):=by
   rw[mulS,hmo]
  cases hx:(timesS false (mulS false (powS f l d.pw i).1 (initZ (l.getD i default)) m).1 (initZ (l.getD i default))).2 with
  |true=>
   have hbad:=ebad (powS_stop (m:=i+1) hlt (by rw[estep];exact mulS_stop (m:=m+1) hmt (by rw[mstep];exact hx)))
   rw[hx]at gT
   repeat(first|refine wDB ?_|refine awp_seq_k fun K hK=>?_|refine wN fun bx=>?_|refine wC gI ?_|refine wC gT ?_|(refine wH ?_;clear hK))
   refine r1 ?_
   exact Sub.of_eq (by rw[hbad])
  |false=>
   rw[hx]at gT
   repeat(first|refine wDB ?_|refine awp_seq_k fun K hK=>?_|refine wN fun bx=>?_|refine wC gI ?_|refine wC gT ?_|(refine wH ?_;clear hK))
   exact⟨⟨m+1,hmt,by rw[mstep];exact hx⟩,⟨⟨_,rfl,Sub.of_eq (by rw[mstep])⟩,⟨_,rfl,Sub.refl _⟩,⟨_,rfl,Sub.refl _⟩,⟨_,rfl,Sub.refl _⟩,⟨_,rfl,Sub.refl _⟩,⟨_,rfl,Sub.refl _⟩,trivial⟩,qpm,by simp only;omega⟩
def rawZ (q:PZ):List TermR:=q.map zR
theorem cbUsed31:Callable Tryz.prog 40:=fun _ _=>by kernel_rfl
theorem r31used_c (l:List PZ) (pw:List Int) (hs:List PZ) (hl:RowZ 4 40 l) (hll:l.length≤10) (hp:pw.length=l.length) (hh:RowZ 4 40 hs) (hhl:hs.length≤1000000000):PCalls Tryz.prog 40 [pZs l,pwsV pw,pZs hs] (.bool (usedF l pw (hs.map rawZ))):=by
 refine pcalls_of_awp tyok cbUsed31 Tryz.func40 rfl rfl ?_
 unfold pZs pZE
 repeat(first|refine wDB ?_|refine awp_seq_k fun K hK=>?_|refine wN fun bx=>?_|(refine wH ?_;clear hK))
 refine awp_loop0 (ι:={i:Nat//i≤l.length∧∀j,j<i→usedAt l pw (hs.map rawZ) j=true}) (fun i=>[(0,sl (fun p:PZ=>[pZ p]) 1 l .view),(1,pwsV pw),(2,sl (fun p:PZ=>[pZ p]) 1 hs .view),(7,.int .i64 i.1)]) (fun _=>[]) (fun i=>l.length-i.1) ⟨0,Nat.zero_le _,fun j hj=>absurd hj (Nat.not_lt_zero j)⟩ wk dp ?_
 rintro⟨i,hi,hu⟩
 simp only at hi hu ⊢
 by_cases hlt:i<l.length
 rotate_left
 ·have hge:¬(i:Int)<l.length:=by omega
  obtain rfl:i=l.length:=by omega
  repeat(first|refine wDB ?_|refine awp_seq_k fun K hK=>?_|refine wN fun bx=>?_|(refine wH ?_;clear hK))
  refine r1 ?_
  exact Sub.of_eq (congrArg AV.bool (List.all_eq_true.2 fun j hj=>hu j (List.mem_range.1 hj)).symm)
 have hlt':(i:Int)<l.length:=by omega
 have hlt2:(i:Int)<pw.length:=by omega
 have hq:=(hl.at' hlt).init
 have lq:=hq.len
 have gI:=rpinit_c (l.getD i default) 4 (by decide) (hl.at' hlt).ok (by have:=(hl.at' hlt).len;omega)
 have next:usedAt l pw (hs.map rawZ) i=true→∀j,j<i+1→usedAt l pw (hs.map rawZ) j=true:=fun h j hj=>by
  by_cases e:j=i
  ·rw[e];exact h
  ·exact hu j (by omega)
 by_cases h1:pw.getD i default=0
 ·have h1':pw.getD ((i:Int)).toNat default=0:=h1
  repeat(first|refine wDB ?_|refine awp_seq_k fun K hK=>?_|refine wN fun bx=>?_|refine wC gI ?_|(refine wH ?_;clear hK))
  exact⟨⟨i+1,hlt,next (by unfold usedAt;rw[decide_eq_true h1];rfl)⟩,wk,dp,by simp only;omega⟩
 have h1':¬pw.getD ((i:Int)).toNat default=0:=h1
 have gC:=rpclass_c (initZ (l.getD i default)) hq.ok.can.may (by omega)
 by_cases h2:clsZ (initZ (l.getD i default))=0
 ·repeat(first|refine wDB ?_|refine awp_seq_k fun K hK=>?_|refine wN fun bx=>?_|refine wC gI ?_|refine wC gC ?_|(refine wH ?_;clear hK))
  exact⟨⟨i+1,hlt,next (by unfold usedAt;rw[decide_eq_true h2,Bool.or_true];rfl)⟩,wk,dp,by simp only;omega⟩
 have eu:usedAt l pw (hs.map rawZ) i=hs.any fun q=>decide (q=wholeZ (initZ (l.getD i default))):=by
  unfold usedAt
  rw[decide_eq_false h1,decide_eq_false h2,Bool.false_or,Bool.false_or,List.any_map]
  refine congrArg (fun f=>List.any hs f) (funext fun q=>?_)
  exact same_z _ _
 have gW:=rpwhole_c (initZ (l.getD i default)) 4 (by decide) hq.ok.bd hq.ok.can.nz (by omega)
 generalize hw:wholeZ (initZ (l.getD i default))=w at eu gW
 have pw4:PolZ 4 40 w:=by rw[←hw];exact⟨wholeZ_canK hq.ok,by rw[wholeZ_len];exact hq.len⟩
 have lw:=pw4.len
 repeat(first|refine wDB ?_|refine awp_seq_k fun K hK=>?_|refine wN fun bx=>?_|refine wC gI ?_|refine wC gC ?_|(refine wH ?_;clear hK))
 refine awp_loop0 (ι:={m:Nat//m≤hs.length}) (fun m=>[(0,sl (fun p:PZ=>[pZ p]) 1 l .view),(1,pwsV pw),(2,sl (fun p:PZ=>[pZ p]) 1 hs .view),(7,.int .i64 i),(8,pZ (initZ (l.getD i default))),(9,.bool ((hs.take m.1).any fun q=>decide (q=w))),(10,.int .i64 m.1)]) (fun _=>[]) (fun m=>hs.length-m.1) ⟨0,Nat.zero_le _⟩ wk dp ?_
 rintro⟨m,hm⟩
 simp only at hm ⊢
 by_cases hmt:m<hs.length
 ·have hmt':(m:Int)<hs.length:=by omega
  have ph:=hh.at' hmt
  have lh:=ph.len
  have gE:=r31same_c (hs.getD m default) w 4 (by decide) ph.ok pw4.ok (by omega) (by omega)
  have hst:((hs.take (m+1)).any fun q=>decide (q=w))=(((hs.take m).any fun q=>decide (q=w)) || decide (hs.getD m default=w)):=by
   rw[take_snoc hmt,List.any_append]
   simp
  cases hc:(hs.take m).any fun q=>decide (q=w)with
  |true=>
   rw[hc,Bool.true_or]at hst
   repeat(first|refine wDB ?_|refine awp_seq_k fun K hK=>?_|refine wN fun bx=>?_|(refine wH ?_;clear hK))
   exact⟨⟨m+1,hmt⟩,⟨⟨_,rfl,Sub.refl _⟩,⟨_,rfl,Sub.refl _⟩,⟨_,rfl,Sub.refl _⟩,⟨_,rfl,Sub.refl _⟩,⟨_,rfl,Sub.refl _⟩,⟨_,rfl,Sub.of_eq (by rw[hst])⟩,⟨_,rfl,Sub.refl _⟩,trivial⟩,dp,by simp only;omega⟩
  |false=>
   rw[hc,Bool.false_or]at hst
   repeat(first|refine wDB ?_|refine awp_seq_k fun K hK=>?_|refine wN fun bx=>?_|refine wC gW ?_|refine wC gE ?_|(refine wH ?_;clear hK))
   exact⟨⟨m+1,hmt⟩,⟨⟨_,rfl,Sub.refl _⟩,⟨_,rfl,Sub.refl _⟩,⟨_,rfl,Sub.refl _⟩,⟨_,rfl,Sub.refl _⟩,⟨_,rfl,Sub.refl _⟩,⟨_,rfl,Sub.of_eq (by rw[hst])⟩,⟨_,rfl,Sub.refl _⟩,trivial⟩,dp,by simp only;omega⟩
 have hge:¬(m:Int)<hs.length:=by omega
 obtain rfl:m=hs.length:=by omega
 rw[List.take_length,←eu]
 cases hc:usedAt l pw (hs.map rawZ) i with
 |true=>
  repeat(first|refine wDB ?_|refine awp_seq_k fun K hK=>?_|refine wN fun bx=>?_|(refine wH ?_;clear hK))
  exact⟨⟨i+1,hlt,next hc⟩,wk,dp,by simp only;omega⟩
 |false=>
  repeat(first|refine wDB ?_|refine awp_seq_k fun K hK=>?_|refine wN fun bx=>?_|(refine wH ?_;clear hK))
  refine r1 ?_
  exact Sub.of_eq (congrArg AV.bool (List.all_eq_false.2 ⟨i,List.mem_range.2 hlt,by rw[hc];decide⟩).symm)
theorem cntP_step {at':Int} {hs:List HeadR} {i:Nat} (hi:i<hs.length):(hs.take (i+1)).countP (fun h=>decide (h.next=at'))=(hs.take i).countP (fun h=>decide (h.next=at'))+if(hs.getD i default).next=at' then 1 else 0:=by
 rw[take_snoc hi,List.countP_append,List.countP_singleton]
 simp
theorem parZ_step {at':Nat} {proof:List NodeR} {i:Nat} (hi:i<proof.length):parentsF (proof.take (i+1)) at'=parentsF (proof.take i) at'+(proof.getD i default).heads.countP fun h=>decide (h.next=(at':Int)):=by
 unfold parentsF
 rw[take_snoc hi,List.map_append,List.sum_append]
 simp
structure ParB (proof:List NodeR):Prop where
 len:proof.length≤5
 heads:∀n∈proof,n.heads.length≤5
theorem parF_le {proof:List NodeR} (h:∀n∈proof,n.heads.length≤5) (at':Nat):∀i,i≤proof.length→parentsF (proof.take i) at'≤5*i
 |0,_=>Nat.le_refl _
 |i+1,hi=>by
  rw[parZ_step hi]
  have:=parF_le h at' i (by omega)
  have h1:=h _ (getD_mem hi)
  have h2:=List.countP_le_length (p:=fun h=>decide (h.next=(at':Int))) (l:=(proof.getD i default).heads)
  omega
theorem cbPar31:Callable Tryz.prog 19:=fun _ _=>by kernel_rfl
theorem r31par_c (proof:List NodeR) (at':Nat) (h:ParB proof):PCalls Tryz.prog 19 [nodesV proof,.int .i64 at'] (.int .i64 (parentsF proof at')):=by
 refine pcalls_of_awp tyok cbPar31 Tryz.func19 rfl rfl ?_
 have hl:=h.len
 repeat(first|refine wDB ?_|refine awp_seq_k fun K hK=>?_|refine wN fun bx=>?_|(refine wH ?_;clear hK))
 refine awp_loop0 (ι:={i:Nat//i≤proof.length}) (fun i=>[(0,nodesV proof),(1,.int .i64 at'),(5,.int .i64 (parentsF (proof.take i.1) at')),(6,.int .i64 i.1)]) (fun _=>[]) (fun i=>proof.length-i.1) ⟨0,Nat.zero_le _⟩ wk dp ?_
 rintro⟨i,hi⟩
 simp only at hi ⊢
 by_cases hlt:i<proof.length
 rotate_left
 ·have hge:¬(i:Int)<proof.length:=by omega
  obtain rfl:i=proof.length:=by omega
  rw[List.take_length]
  repeat(first|refine wDB ?_|refine awp_seq_k fun K hK=>?_|refine wN fun bx=>?_|(refine wH ?_;clear hK))
  refine r1 ?_
  exact Sub.refl _
 have hlt':(i:Int)<proof.length:=by omega
 have hst:=parZ_step (at':=at') hlt
 have hhl:=h.heads _ (getD_mem hlt)
 have hpl:=parF_le h.heads at' i hi
 repeat(first|refine wDB ?_|refine awp_seq_k fun K hK=>?_|refine wN fun bx=>?_|(refine wH ?_;clear hK))
 refine awp_loop0 (ι:={m:Nat//m≤(proof.getD i default).heads.length}) (fun m=>[(0,nodesV proof),(1,.int .i64 at'),(5,.int .i64 (parentsF (proof.take i) at'+((proof.getD i default).heads.take m.1).countP (fun h=>decide (h.next=(at':Int))):Nat)),(6,.int .i64 i),(7,.int .i64 m.1)]) (fun _=>[]) (fun m=>(proof.getD i default).heads.length-m.1) ⟨0,Nat.zero_le _⟩ wk dp ?_
 rintro⟨m,hm⟩
 simp only at hm ⊢
 by_cases hmt:m<(proof.getD i default).heads.length
 rotate_left
 ·have hge:¬(m:Int)<(proof.getD ((i:Int)).toNat default).heads.length:=by
   rw[Int.toNat_natCast]
   omega
  obtain rfl:m=(proof.getD i default).heads.length:=by omega
  rw[List.take_length,←hst]
  repeat(first|refine wDB ?_|refine awp_seq_k fun K hK=>?_|refine wN fun bx=>?_|(refine wH ?_;clear hK))
  exact⟨⟨i+1,hlt⟩,wk,dp,by simp only;omega⟩
 have hmt':(m:Int)<(proof.getD ((i:Int)).toNat default).heads.length:=by
  rw[Int.toNat_natCast]
  omega
 have hcs:=cntP_step (at':=(at':Int)) hmt
 have hle:=List.countP_le_length (p:=fun h=>decide (h.next=(at':Int))) (l:=(proof.getD i default).heads.take m)
 rw[List.length_take]at hle
 by_cases hc:((proof.getD i default).heads.getD m default).next=at'
 ·rw[if_pos hc]at hcs
  have hc':((proof.getD ((i:Int)).toNat default).heads.getD ((m:Int)).toNat default).next=at':=hc
  repeat(first|refine wDB ?_|refine awp_seq_k fun K hK=>?_|refine wN fun bx=>?_|(refine wH ?_;clear hK))
  refine⟨⟨m+1,hmt⟩,⟨⟨_,rfl,Sub.refl _⟩,⟨_,rfl,Sub.refl _⟩,⟨_,rfl,Sub.of_eq (by rw[hcs];rfl)⟩,⟨_,rfl,Sub.refl _⟩,⟨_,rfl,Sub.refl _⟩,trivial⟩,dp,by simp only;omega⟩
 ·rw[if_neg hc]at hcs
  have hc':¬((proof.getD ((i:Int)).toNat default).heads.getD ((m:Int)).toNat default).next=at':=hc
  repeat(first|refine wDB ?_|refine awp_seq_k fun K hK=>?_|refine wN fun bx=>?_|(refine wH ?_;clear hK))
  refine⟨⟨m+1,hmt⟩,⟨⟨_,rfl,Sub.refl _⟩,⟨_,rfl,Sub.refl _⟩,⟨_,rfl,Sub.of_eq (by rw[hcs];rfl)⟩,⟨_,rfl,Sub.refl _⟩,⟨_,rfl,Sub.refl _⟩,trivial⟩,dp,by simp only;omega⟩
theorem cbAdd31:Callable Tryz.prog 21:=fun _ _=>by kernel_rfl
theorem r31add_c (l:List PZ) (p:PZ) (hl:RowZ 4 40 l) (hp:PolZ 4 40 p) (hll:l.length≤1000000):PCalls Tryz.prog 21 [pZs l,pZ p] (pZs (addL l p)):=by
 refine pcalls_of_awp tyok cbAdd31 Tryz.func21 rfl rfl ?_
 have lp:=hp.len
 unfold pZs pZE
 repeat(first|refine wDB ?_|refine awp_seq_k fun K hK=>?_|refine wN fun bx=>?_|(refine wH ?_;clear hK))
 refine awp_loop0 (ι:={i:Nat//i≤l.length∧∀j,j<i→l.getD j default≠p}) (fun i=>[(0,sl (fun p:PZ=>[pZ p]) 1 l .view),(1,pZ p),(5,.int .i64 i.1)]) (fun _=>[]) (fun i=>l.length-i.1) ⟨0,Nat.zero_le _,fun j hj=>absurd hj (Nat.not_lt_zero j)⟩ wk dp ?_
 rintro⟨i,hi,hs⟩
 simp only at hi hs ⊢
 by_cases hlt:i<l.length
 rotate_left
 ·have hge:¬(i:Int)<l.length:=by omega
  obtain rfl:i=l.length:=by omega
  have hno:p∉l:=fun hm=>by
   obtain⟨j,hj,e⟩:=List.getElem_of_mem hm
   have:=hs j hj
   rw[getD_get hj]at this
   exact this e
  have e:addL l p=l++[p]:=if_neg hno
  repeat(first|refine wDB ?_|refine awp_seq_k fun K hK=>?_|refine wN fun bx=>?_|(refine wH ?_;clear hK))
  refine qappF tyok (fun p:PZ=>[pZ p]) l (fun _ _=>SubL.refl _) ?_ fun a1 c1=>?_
  ·constructor<;>(first|omega|(simp only;omega))
  repeat(first|refine wDB ?_|refine awp_seq_k fun K hK=>?_|refine wN fun bx=>?_|(refine wH ?_;clear hK))
  refine qapp tyok (fun p:PZ=>[pZ p]) l p (SubL.refl _) ?_ fun a2 c2=>?_
  ·simp only
   omega
  repeat(first|refine wDB ?_|refine awp_seq_k fun K hK=>?_|refine wN fun bx=>?_|(refine wH ?_;clear hK))
  refine r1 ?_
  exact(Sub.view _ _ _ _).trans (Sub.of_eq (by rw[e];rfl))
 have hlt':(i:Int)<l.length:=by omega
 have pl:=hl.at' hlt
 have ll:=pl.len
 have gE:=r31same_c (l.getD i default) p 4 (by decide) pl.ok hp.ok (by omega) (by omega)
 by_cases hc:l.getD i default=p
 ·rw[decide_eq_true hc]at gE
  have e:addL l p=l:=if_pos (hc▸getD_mem hlt)
  repeat(first|refine wDB ?_|refine awp_seq_k fun K hK=>?_|refine wN fun bx=>?_|refine wC gE ?_|(refine wH ?_;clear hK))
  refine r1 ?_
  exact Sub.of_eq (by rw[e])
 ·rw[decide_eq_false hc]at gE
  repeat(first|refine wDB ?_|refine awp_seq_k fun K hK=>?_|refine wN fun bx=>?_|refine wC gE ?_|(refine wH ?_;clear hK))
  refine⟨⟨i+1,hlt,fun j hj=>?_⟩,wk,dp,by simp only;omega⟩
  by_cases ej:j=i
  ·rw[ej];exact hc
  ·exact hs j (by omega)
end Go.Proofs.YtkbdklmdcbmgkaaGreat
namespace Go.Proofs.YtkbdklmdcbmgkaaGreat
open Go.Ab
structure NodeB (n:NodeR):Prop where
 set:∀d∈n.set,DerB d
 setl:n.set.length≤6
 divs:∀d∈n.divs,DivB d
 divl:n.divs.length≤4
 heads:∀h∈n.heads,PolR 4 40 h.p
 headl:n.heads.length≤5
theorem nodeF_set {S shown conds:List PZ} {i many:Nat} {n:NodeR} {j:Nat} (hj:j<n.set.length) (h:derivedF S (n.set.getD j default)=false):nodeF S shown conds i many n=false:=by
 unfold nodeF
 rw[all_hit hj h,Bool.false_and]
theorem derivedF_may {S:List PZ} {d:DerR} (h:derivedF S d=true):mayP d.p=true:=by
 unfold derivedF at h
 simp only[Bool.and_eq_true]at h
 exact h.1.1.1.1.1.2
theorem map_getF {α β:Type} [Inhabited α] [Inhabited β] (f:α→β) {l:List α} {i:Nat} (hi:i<l.length):(l.map f).getD i default=f (l.getD i default):=by
 rw[List.getD_eq_getElem?_getD,List.getElem?_map,List.getD_eq_getElem?_getD,List.getElem?_eq_getElem hi]
 rfl
theorem len_nil {α:Type} {l:List α} (h:l≠[]):(l.length:Int)>0:=by
 have:=List.length_pos_iff.2 h
 omega
theorem cbHolds31:Callable Tryz.prog 20:=fun _ _=>by kernel_rfl
theorem r31holds_c (n:NodeR) (i many:Nat) (S shown conds:List PZ) (hn:NodeB n) (hS:RowZ 4 40 S) (hSl:S.length≤1000) (hsh:RowZ 4 40 shown) (hshl:shown.length≤3) (hc:RowZ 4 40 conds) (hcl:conds.length≤6) (hi:i<many) (hmany:many≤5):
  PCalls Tryz.prog 20 [.agg (nodeE n),.int .i64 i,.int .i64 many,pZs S,pZs shown,pZs conds] (.tuple [pZs (if nodeF S shown conds i many n=true then n.heads.map (fun h=>pz h.p) else []),.bool (nodeF S shown conds i many n)]):=by
 refine pcalls_of_awp tyok cbHolds31 Tryz.func20 rfl rfl ?_
 have hsl:=hn.setl
 have hdl:=hn.divl
 have hhl:=hn.headl
 have no:nodeF S shown conds i many n=false→Sub (AV.nils) (pZs (if nodeF S shown conds i many n=true then n.heads.map (fun h=>pz h.p) else []))∧Sub (AV.bool false) (AV.bool (nodeF S shown conds i many n)):=fun h=>by
  rw[h]
  exact⟨Sub.nilsv _ _,Sub.refl _⟩
 ((repeat(first|refine wDB ?_|refine awp_seq_k fun K hK=>?_|(refine wH ?_;clear hK)));refine wN fun b6=>?_;(repeat(first|refine wDB ?_|refine awp_seq_k fun K hK=>?_|refine wN fun bx=>?_|(refine wH ?_;clear hK))))
 refine awp_tok0 1 62 ?_
 refine awp_loopP (ι:={y:TimS//y.i≤n.set.length∧∀j,j<y.i→derivedF S (n.set.getD j default)=true}) (fun y=>[(1,.int .i64 i),(2,.int .i64 many),(3,pZs S),(4,pZs shown),(5,pZs conds),(6,.ptr b6 0),(14,sl pZE 1 ((n.set.take y.1.i).map fun d=>pz d.p) (.own y.1.a y.1.cp)),(15,.nils),(16,.int .i64 y.1.i)])
  (fun y=>[.tok y.1.a y.1.cp ((n.set.take y.1.i).map fun d=>pz d.p).length 1 62,.box b6 53 (.agg (nodeE n))]) (fun y=>n.set.length-y.1.i) ⟨⟨0,none,0⟩,Nat.zero_le _,fun j hj=>absurd hj (Nat.not_lt_zero j)⟩ wk qpm ?_
 rintro⟨⟨si,ad,cp⟩,hsi,hs⟩
 simp only at hsi hs ⊢
 by_cases hlt:si<n.set.length
 ·have hlt':(si:Int)<n.set.length:=by omega
  have hd:=hn.set _ (getD_mem hlt)
  have gD:=r31der_c S (n.set.getD si default) hd hS hSl
  cases hde:derivedF S (n.set.getD si default)with
  |false=>
   rw[hde]at gD
   have e:=no (nodeF_set hlt hde)
   repeat(first|refine wDB ?_|refine awp_seq_k fun K hK=>?_|refine wN fun bx=>?_|refine wC gD ?_|(refine wH ?_;clear hK))
   refine r2 ?_ ?_
   ·exact e.1
   ·exact e.2
  |true=>
   rw[hde]at gD
   have hm:=derivedF_may hde
   have gO:=rpof_c (n.set.getD si default).p 4 (by decide) hd.p.ok (mayP_m hm)
   rw[colZ_self (canon_of hm)]at gO
   repeat(first|refine wDB ?_|refine awp_seq_k fun K hK=>?_|refine wN fun bx=>?_|refine wC gD ?_|refine wC gO ?_|(refine wH ?_;clear hK))
   refine qapp tyok pZE ((n.set.take si).map fun d=>pz d.p) (pz (n.set.getD si default).p) (SubL.refl _) ?_ fun ad3 cp3=>?_
   ·simp only[List.length_map,List.length_take]
    omega
   rw[←map_snoc (fun d:DerR=>pz d.p) hlt]
   repeat(first|refine wDB ?_|refine awp_seq_k fun K hK=>?_|refine wN fun bx=>?_|(refine wH ?_;clear hK))
   refine⟨⟨⟨si+1,ad3,cp3⟩,hlt,fun j hj=>?_⟩,wk,qpm,by simp only;omega⟩
   have hj:j<si+1:=hj
   by_cases e:j=si
   ·rw[e];exact hde
   ·exact hs j (by omega)
 have hge:¬(si:Int)<n.set.length:=by omega
 obtain rfl:si=n.set.length:=by omega
 have hset:n.set.all (derivedF S)=true:=all_take hs
 rw[List.take_length]
 have hml:((n.set.map fun d=>pz d.p).length:Int)=n.set.length:=by rw[List.length_map]
 have hrow:RowZ 4 40 (n.set.map fun d=>pz d.p):=fun q hq=>by
  obtain⟨d,hd,rfl⟩:=List.mem_map.1 hq
  exact(hn.set d hd).p.pol (derivedF_may (List.all_eq_true.1 hset d hd))
 have hat:∀j,j<n.set.length→(n.set.map fun d=>pz d.p).getD j default=pz (n.set.getD j default).p:=fun j hj=>map_getF _ hj
 by_cases hk:n.kind=1∨n.kind=2
 ·have e:=show nodeF S shown conds i many n=_ by
   unfold nodeF
   rw[hset,Bool.true_and,if_pos hk]
  have eno:¬(0≤n.at'∧n.at'<n.set.length∧n.divs=[]∧n.heads=[])→nodeF S shown conds i many n=false:=fun h=>by
   rw[e,decide_eq_false h,Bool.false_and]
  by_cases a1:n.at'<0
  ·have e:=no (eno fun h=>by omega)
   rcases hk with hk|hk
   all_goals
    repeat(first|refine wDB ?_|refine awp_seq_k fun K hK=>?_|refine wN fun bx=>?_|(refine wH ?_;clear hK))
    refine r2 ?_ ?_
    ·exact e.1
    ·exact e.2
  by_cases a2:n.at'≥((n.set.map fun d=>pz d.p).length:Int)
  ·have e:=no (eno fun h=>by omega)
   rcases hk with hk|hk
   all_goals
    repeat(first|refine wDB ?_|refine awp_seq_k fun K hK=>?_|refine wN fun bx=>?_|(refine wH ?_;clear hK))
    refine r2 ?_ ?_
    ·exact e.1
    ·exact e.2
  by_cases a3:n.divs=[]
  rotate_left
  ·have e:=no (eno fun h=>a3 h.2.2.1)
   have a3':=len_nil a3
   rcases hk with hk|hk
   all_goals
    repeat(first|refine wDB ?_|refine awp_seq_k fun K hK=>?_|refine wN fun bx=>?_|(refine wH ?_;clear hK))
    refine r2 ?_ ?_
    ·exact e.1
    ·exact e.2
  have a3':¬(n.divs.length:Int)>0:=by rw[a3];decide
  by_cases a4:n.heads=[]
  rotate_left
  ·have e:=no (eno fun h=>a4 h.2.2.2)
   have a4':=len_nil a4
   rcases hk with hk|hk
   all_goals
    repeat(first|refine wDB ?_|refine awp_seq_k fun K hK=>?_|refine wN fun bx=>?_|(refine wH ?_;clear hK))
    refine r2 ?_ ?_
    ·exact e.1
    ·exact e.2
  have a4':¬(n.heads.length:Int)>0:=by rw[a4];decide
  have hatn:n.at'.toNat<n.set.length:=by omega
  have hq:=hat _ hatn
  have hpol:=hrow.at' (i:=n.at'.toNat) (by omega)
  rw[hq]at hpol
  have lq:=hpol.len
  rw[decide_eq_true (show 0≤n.at'∧n.at'<n.set.length∧n.divs=[]∧n.heads=[] from ⟨by omega,by omega,a3,a4⟩),Bool.true_and]at e
  have yes:∀b:Bool,nodeF S shown conds i many n=b→Sub (AV.nils) (pZs (if nodeF S shown conds i many n=true then n.heads.map (fun h=>pz h.p) else []))∧Sub (AV.bool b) (AV.bool (nodeF S shown conds i many n)):=fun b h=>by
   rw[h,a4]
   refine⟨?_,Sub.refl _⟩
   cases b
   ·exact Sub.nilsv _ _
   ·exact Sub.nilsv _ _
  have gC:=rpclass_c (pz (n.set.getD n.at'.toNat default).p) hpol.ok.can.may (by omega)
  rw[←hq]at gC
  rcases hk with hk|hk
  ·rw[if_pos hk]at e
   by_cases hc0:clsZ (pz (n.set.getD n.at'.toNat default).p)=0
   ·rw[decide_eq_true hc0]at e
    have e2:=yes _ e
    rw[←hq]at hc0
    repeat(first|refine wDB ?_|refine awp_seq_k fun K hK=>?_|refine wN fun bx=>?_|refine wC gC ?_|(refine wH ?_;clear hK))
    refine r2 ?_ ?_
    ·exact e2.1
    ·exact e2.2
   ·rw[decide_eq_false hc0]at e
    have e2:=yes _ e
    rw[←hq]at hc0
    repeat(first|refine wDB ?_|refine awp_seq_k fun K hK=>?_|refine wN fun bx=>?_|refine wC gC ?_|(refine wH ?_;clear hK))
    refine r2 ?_ ?_
    ·exact e2.1
    ·exact e2.2
  ·rw[if_neg (by omega)]at e
   have gK:=r31cond_c conds (pz (n.set.getD n.at'.toNat default).p) n.cond 4 40 (by decide) (by decide) hc hpol (by omega)
   rw[←hq]at gK
   have e2:=yes _ e
   rw[←hq]at e2
   repeat(first|refine wDB ?_|refine awp_seq_k fun K hK=>?_|refine wN fun bx=>?_|refine wC gK ?_|(refine wH ?_;clear hK))
   refine r2 ?_ ?_
   ·exact e2.1
   ·exact e2.2
 have hk1:¬n.kind=1:=fun h=>hk (.inl h)
 have hk2:¬n.kind=2:=fun h=>hk (.inr h)
 have e:=show nodeF S shown conds i many n=_ by
  unfold nodeF
  rw[hset,Bool.true_and,if_neg hk]
 by_cases hk3:n.kind=3
 rotate_left
 ·have e2:=no (by rw[e,decide_eq_false fun h=>hk3 h.1];rfl)
  repeat(first|refine wDB ?_|refine awp_seq_k fun K hK=>?_|refine wN fun bx=>?_|(refine wH ?_;clear hK))
  refine r2 ?_ ?_
  ·exact e2.1
  ·exact e2.2
 by_cases hds:n.divs.length=shown.length
 rotate_left
 ·have e2:=no (by rw[e,decide_eq_false fun h=>hds h.2];rfl)
  have hds':¬(n.divs.length:Int)=shown.length:=by omega
  repeat(first|refine wDB ?_|refine awp_seq_k fun K hK=>?_|refine wN fun bx=>?_|(refine wH ?_;clear hK))
  refine r2 ?_ ?_
  ·exact e2.1
  ·exact e2.2
 have hds':(n.divs.length:Int)=shown.length:=by omega
 rw[decide_eq_true (show n.kind=3∧n.divs.length=shown.length from ⟨hk3,hds⟩),Bool.true_and]at e
 repeat(first|refine wDB ?_|refine awp_seq_k fun K hK=>?_|refine wN fun bx=>?_|(refine wH ?_;clear hK))
 refine awp_tok0 1 62 ?_
 refine awp_loopP (ι:={y:TimS//y.i≤n.heads.length∧∀j,j<y.i→headF conds i many (n.heads.getD j default)=true}) (fun y=>[(1,.int .i64 i),(2,.int .i64 many),(4,pZs shown),(5,pZs conds),(6,.ptr b6 0),(14,pZs (n.set.map fun d=>pz d.p)),(15,sl pZE 1 ((n.heads.take y.1.i).map fun h=>pz h.p) (.own y.1.a y.1.cp)),(18,.int .i64 y.1.i)])
  (fun y=>[.tok y.1.a y.1.cp ((n.heads.take y.1.i).map fun h=>pz h.p).length 1 62,.box b6 53 (.agg (nodeE n))]) (fun y=>n.heads.length-y.1.i) ⟨⟨0,none,0⟩,Nat.zero_le _,fun j hj=>absurd hj (Nat.not_lt_zero j)⟩ wk qpm ?_
 rintro⟨⟨si,ad2,cp2⟩,hsi,hs2⟩
 simp only at hsi hs2 ⊢
 by_cases hlt:si<n.heads.length
 ·have hlt':(si:Int)<n.heads.length:=by omega
  have hh:=hn.heads _ (getD_mem hlt)
  have gM:=rpmay_c (n.heads.getD si default).p (hh.ok.mono (by omega))
  have hno:headF conds i many (n.heads.getD si default)=false→nodeF S shown conds i many n=false:=fun h=>by
   rw[e,all_hit hlt h,Bool.false_and]
  cases hm:mayP (n.heads.getD si default).p with
  |false=>
   rw[hm]at gM
   have e2:=no (hno (by unfold headF;rw[hm];rfl))
   ((repeat(first|refine wDB ?_|refine awp_seq_k fun K hK=>?_|refine wC gM ?_|(refine wH ?_;clear hK)));refine wN fun b19=>?_;(repeat(first|refine wDB ?_|refine awp_seq_k fun K hK=>?_|refine wN fun bx=>?_|refine wC gM ?_|(refine wH ?_;clear hK))))
   refine r2 ?_ ?_
   ·exact e2.1
   ·exact e2.2
  |true=>
   rw[hm]at gM
   have gO:=rpof_c (n.heads.getD si default).p 4 (by decide) hh.ok (mayP_m hm)
   rw[colZ_self (canon_of hm)]at gO
   have hhp:=hh.pol hm
   have gK:=r31cond_c conds (pz (n.heads.getD si default).p) (n.heads.getD si default).cond 4 40 (by decide) (by decide) hc hhp (by omega)
   have eh:headF conds i many (n.heads.getD si default)=(decide ((n.heads.getD si default).next<0)&&conditionF conds (pz (n.heads.getD si default).p) (n.heads.getD si default).cond || decide ((n.heads.getD si default).cond<0∧(i:Int)<(n.heads.getD si default).next∧(n.heads.getD si default).next<many)):=by
    unfold headF
    rw[hm,Bool.true_and]
   have hol:((n.heads.take si).map fun h=>pz h.p).length≤5:=by
    rw[List.length_map,List.length_take]
    omega
   have hmap:=map_snoc (fun h:HeadR=>pz h.p) hlt
   have hnx:headF conds i many (n.heads.getD si default)=true→∀j,j<si+1→headF conds i many (n.heads.getD j default)=true:=fun h j hj=>by
    by_cases e:j=si
    ·rw[e];exact h
    ·exact hs2 j (by omega)
   have f1:(n.heads.getD ((si:Int)).toNat default).next=(n.heads.getD si default).next:=rfl
   have f2:(n.heads.getD ((si:Int)).toNat default).cond=(n.heads.getD si default).cond:=rfl
   obtain⟨hnext,hne⟩:∃x,x=(n.heads.getD si default).next:=⟨_,rfl⟩
   obtain⟨hcond,hce⟩:∃x,x=(n.heads.getD si default).cond:=⟨_,rfl⟩
   rw[←hne,←hce]at eh
   ((repeat(first|refine wDB ?_|refine awp_seq_k fun K hK=>?_|refine wC gM ?_|refine wC gO ?_|(refine wH ?_;clear hK)));refine wN fun b19=>?_;(repeat(first|refine wDB ?_|refine awp_seq_k fun K hK=>?_|refine wN fun bx=>?_|refine wC gM ?_|refine wC gO ?_|(refine wH ?_;clear hK))))
   refine qapp tyok pZE ((n.heads.take si).map fun h=>pz h.p) (pz (n.heads.getD si default).p) (SubL.refl _) ?_ fun ad3 cp3=>?_
   ·simp only
    omega
   rw[←hmap]
   by_cases n1:hnext<0
   ·rw[decide_eq_true n1,Bool.true_and,decide_eq_false (fun h:hcond<0∧(i:Int)<hnext∧hnext<many=>by omega),Bool.or_false]at eh
    have n2:¬hnext>(i:Int):=by omega
    rw[hce]at eh
    cases hcv:conditionF conds (pz (n.heads.getD si default).p) (n.heads.getD si default).cond with
    |false=>
     rw[hcv]at gK eh
     by_cases n3:hcond<0
     all_goals
      have e2:=no (hno eh)
      repeat(first|refine wDB ?_|refine awp_seq_k fun K hK=>?_|refine wN fun bx=>?_|refine wC gK ?_|(refine wH ?_;clear hK))
      refine r2 ?_ ?_
      ·exact e2.1
      ·exact e2.2
    |true=>
     rw[hcv]at gK eh
     by_cases n3:hcond<0
     all_goals
      repeat(first|refine wDB ?_|refine awp_seq_k fun K hK=>?_|refine wN fun bx=>?_|refine wC gK ?_|(refine wH ?_;clear hK))
      exact⟨⟨⟨si+1,ad3,cp3⟩,hlt,hnx eh⟩,wk,qpm,by simp only;omega⟩
   ·rw[decide_eq_false n1,Bool.false_and,Bool.false_or]at eh
    by_cases n3:hcond<0
    rotate_left
    ·rw[decide_eq_false (fun h:hcond<0∧(i:Int)<hnext∧hnext<many=>n3 h.1)]at eh
     have e2:=no (hno eh)
     repeat(first|refine wDB ?_|refine awp_seq_k fun K hK=>?_|refine wN fun bx=>?_|refine wC gK ?_|(refine wH ?_;clear hK))
     refine r2 ?_ ?_
     ·exact e2.1
     ·exact e2.2
    by_cases n4:hnext>(i:Int)
    rotate_left
    ·rw[decide_eq_false (fun h:hcond<0∧(i:Int)<hnext∧hnext<many=>n4 h.2.1)]at eh
     have e2:=no (hno eh)
     repeat(first|refine wDB ?_|refine awp_seq_k fun K hK=>?_|refine wN fun bx=>?_|refine wC gK ?_|(refine wH ?_;clear hK))
     refine r2 ?_ ?_
     ·exact e2.1
     ·exact e2.2
    by_cases n5:hnext<(many:Int)
    rotate_left
    ·rw[decide_eq_false (fun h:hcond<0∧(i:Int)<hnext∧hnext<many=>n5 h.2.2)]at eh
     have e2:=no (hno eh)
     repeat(first|refine wDB ?_|refine awp_seq_k fun K hK=>?_|refine wN fun bx=>?_|refine wC gK ?_|(refine wH ?_;clear hK))
     refine r2 ?_ ?_
     ·exact e2.1
     ·exact e2.2
    rw[decide_eq_true (show hcond<0∧(i:Int)<hnext∧hnext<many from ⟨n3,n4,n5⟩)]at eh
    repeat(first|refine wDB ?_|refine awp_seq_k fun K hK=>?_|refine wN fun bx=>?_|refine wC gK ?_|(refine wH ?_;clear hK))
    exact⟨⟨⟨si+1,ad3,cp3⟩,hlt,hnx eh⟩,wk,qpm,by simp only;omega⟩
 have hge2:¬(si:Int)<n.heads.length:=by omega
 obtain rfl:si=n.heads.length:=by omega
 have hheads:n.heads.all (headF conds i many)=true:=all_take hs2
 rw[hheads,Bool.true_and]at e
 rw[List.take_length]
 have hmayh:∀h∈n.heads,mayP h.p=true:=fun h hh=>by
  have:=List.all_eq_true.1 hheads h hh
  unfold headF at this
  exact(Bool.and_eq_true_iff.1 this).1
 have hraw:(n.heads.map fun h=>pz h.p).map rawZ=n.heads.map (·.p):=by
  rw[List.map_map]
  exact List.map_congr_left fun h hh=>zR_map (hn.heads h hh).ok (hmayh h hh)
 have hrowh:RowZ 4 40 (n.heads.map fun h=>pz h.p):=fun q hq=>by
  obtain⟨h,hh,rfl⟩:=List.mem_map.1 hq
  exact(hn.heads h hh).pol (hmayh h hh)
 have hfin:nodeF S shown conds i many n=true→(if nodeF S shown conds i many n=true then n.heads.map (fun h=>pz h.p) else [])=n.heads.map fun h=>pz h.p:=fun h=>if_pos h
 repeat(first|refine wDB ?_|refine awp_seq_k fun K hK=>?_|refine wN fun bx=>?_|(refine wH ?_;clear hK))
 refine awp_loopP (ι:={j:Nat//j≤shown.length∧∀q,q<j→(identityF (shown.getD q default) (n.set.map fun d=>pz d.p) (n.divs.getD q default)&&usedF (n.set.map fun d=>pz d.p) (n.divs.getD q default).pw (n.heads.map (·.p)))=true}) (fun j=>[(4,pZs shown),(6,.ptr b6 0),(14,pZs (n.set.map fun d=>pz d.p)),(15,pZs (n.heads.map fun h=>pz h.p)),(23,.int .i64 j.1)])
  (fun _=>[.box b6 53 (.agg (nodeE n))]) (fun j=>shown.length-j.1) ⟨0,Nat.zero_le _,fun j hj=>absurd hj (Nat.not_lt_zero j)⟩ wk qpm ?_
 rintro⟨j,hj,hs3⟩
 simp only at hj hs3 ⊢
 by_cases hlt:j<shown.length
 rotate_left
 ·have hge3:¬(j:Int)<shown.length:=by omega
  obtain rfl:j=shown.length:=by omega
  have hall:nodeF S shown conds i many n=true:=by
   rw[e]
   exact List.all_eq_true.2 fun q hq=>hs3 q (List.mem_range.1 hq)
  repeat(first|refine wDB ?_|refine awp_seq_k fun K hK=>?_|refine wN fun bx=>?_|(refine wH ?_;clear hK))
  refine r2 ?_ ?_
  ·exact Sub.of_eq (by rw[hfin hall])
  ·exact Sub.of_eq (by rw[hall])
 have hlt':(j:Int)<shown.length:=by omega
 have hlt2:(j:Int)<n.divs.length:=by omega
 have hno:(identityF (shown.getD j default) (n.set.map fun d=>pz d.p) (n.divs.getD j default)&&usedF (n.set.map fun d=>pz d.p) (n.divs.getD j default).pw (n.heads.map (·.p)))=false→nodeF S shown conds i many n=false:=fun h=>by
  rw[e]
  exact List.all_eq_false.2 ⟨j,List.mem_range.2 hlt,by rw[h];decide⟩
 have hdv:=hn.divs _ (getD_mem (l:=n.divs) (i:=j) (by omega))
 have gI:=r31id_c (shown.getD j default) (n.set.map fun d=>pz d.p) (n.divs.getD j default) hdv ((hsh.at' hlt).mono (Nat.le_refl _) (by decide)) hrow (by omega)
 cases hid:identityF (shown.getD j default) (n.set.map fun d=>pz d.p) (n.divs.getD j default)with
 |false=>
  rw[hid]at gI
  have e2:=no (hno (by rw[hid];rfl))
  repeat(first|refine wDB ?_|refine awp_seq_k fun K hK=>?_|refine wN fun bx=>?_|refine wC gI ?_|(refine wH ?_;clear hK))
  refine r2 ?_ ?_
  ·exact e2.1
  ·exact e2.2
 |true=>
  rw[hid]at gI
  have hpwl:(n.divs.getD j default).pw.length=(n.set.map fun d=>pz d.p).length:=by
   unfold identityF at hid
   simp only[Bool.and_eq_true,decide_eq_true_eq]at hid
   exact hid.1.1.1.1.2
  have gU:=r31used_c (n.set.map fun d=>pz d.p) (n.divs.getD j default).pw (n.heads.map fun h=>pz h.p) hrow (by omega) hpwl hrowh (by rw[List.length_map];omega)
  rw[hraw]at gU
  cases hus:usedF (n.set.map fun d=>pz d.p) (n.divs.getD j default).pw (n.heads.map (·.p))with
  |false=>
   rw[hus]at gU
   have e2:=no (hno (by rw[hid,hus];rfl))
   repeat(first|refine wDB ?_|refine awp_seq_k fun K hK=>?_|refine wN fun bx=>?_|refine wC gI ?_|refine wC gU ?_|(refine wH ?_;clear hK))
   refine r2 ?_ ?_
   ·exact e2.1
   ·exact e2.2
  |true=>
   rw[hus]at gU
   repeat(first|refine wDB ?_|refine awp_seq_k fun K hK=>?_|refine wN fun bx=>?_|refine wC gI ?_|refine wC gU ?_|(refine wH ?_;clear hK))
   refine⟨⟨j+1,hlt,fun q hq=>?_⟩,wk,qpm,by simp only;omega⟩
   by_cases eq:q=j
   ·rw[eq,hid,hus];rfl
   ·exact hs3 q (by omega)
end Go.Proofs.YtkbdklmdcbmgkaaGreat
namespace Go.Proofs.YtkbdklmdcbmgkaaGreat
open Go.Ab
abbrev HypR:Type:=List TermR×Int
structure SysR where
 pts:Option Addr×Nat×Nat
 at':Option Addr×Nat×Nat
 params:Int
 vars:Int
 hypos:List HypR
 shown:List (List TermR)
 built:Option Addr×Nat×Nat
def hypE (h:HypR):List AV:=[polyV h.1,.int .i64 h.2]
def concS (v:Option Addr×Nat×Nat):AV:=.conc (.slice v.1 v.2.1 v.2.2)
def sysE (x:SysR):List AV:=[concS x.pts,concS x.at',.int .i64 x.params,.int .i64 x.vars,sl hypE 2 x.hypos .view,polysV x.shown,concS x.built]
structure SysB (x:SysR) (conds:List (List TermR)) (proof:List NodeR):Prop where
 hypos:∀h∈x.hypos,PolR 4 40 h.1
 hypol:x.hypos.length≤6
 shown:∀p∈x.shown,PolR 4 40 p
 shownl:x.shown.length≤3
 cnd:∀p∈conds,PolR 4 40 p
 condl:conds.length≤6
 nodes:∀n∈proof,NodeB n
 nodel:proof.length≤5
theorem rows_of {ps:List (List TermR)} (h:∀p∈ps,PolR 4 40 p) (hm:ps.all mayP=true):RowZ 4 40 (ps.map pz):=fun q hq=>by
 obtain⟨p,hp,rfl⟩:=List.mem_map.1 hq
 exact(h p hp).pol (List.all_eq_true.1 hm p hp)
theorem nodeF_setm {S shown conds:List PZ} {i many:Nat} {n:NodeR} (h:nodeF S shown conds i many n=true):∀d∈n.set,mayP d.p=true:=fun d hd=>by
 unfold nodeF at h
 rw[Bool.and_eq_true]at h
 exact derivedF_may (List.all_eq_true.1 h.1 d hd)
theorem nodeF_heads {S shown conds:List PZ} {i many:Nat} {n:NodeR} (h:nodeF S shown conds i many n=true):∀x∈n.heads,headF conds i many x=true:=fun x hx=>by
 unfold nodeF at h
 rw[Bool.and_eq_true]at h
 have h2:=h.2
 split at h2
 ·rw[Bool.and_eq_true,decide_eq_true_eq]at h2
  rw[h2.1.2.2.2]at hx
  exact absurd hx List.not_mem_nil
 ·rw[Bool.and_eq_true,Bool.and_eq_true]at h2
  exact List.all_eq_true.1 h2.1.2 x hx
theorem headF_may {conds:List PZ} {i many:Nat} {h:HeadR} (k:headF conds i many h=true):mayP h.p=true:=by
 unfold headF at k
 exact(Bool.and_eq_true_iff.1 k).1
theorem headF_next {conds:List PZ} {i many:Nat} {h:HeadR} (k:headF conds i many h=true) (h0:0≤h.next):(i:Int)<h.next∧h.next<many:=by
 unfold headF at k
 rw[Bool.and_eq_true,Bool.or_eq_true,Bool.and_eq_true,decide_eq_true_eq,decide_eq_true_eq]at k
 rcases k.2 with k|k
 ·omega
 ·exact k.2
structure SyO (m many:Nat) (Ss:List (List PZ)):Prop where
 len:Ss.length=many
 row:∀S∈Ss,RowZ 4 40 S∧S.length≤m
theorem SyO.get {m many:Nat} {Ss:List (List PZ)} (h:SyO m many Ss) {i:Nat} (hi:i<many):RowZ 4 40 (Ss.getD i [])∧(Ss.getD i []).length≤m:=by
 have hi':i<Ss.length:=by rw[h.len];exact hi
 exact h.row _ (getD_mem (α:=List PZ) hi')
theorem SyO.mono {m k many:Nat} {Ss:List (List PZ)} (h:SyO m many Ss) (hk:m≤k):SyO k many Ss:=⟨h.len,fun S hS=>⟨(h.row S hS).1,Nat.le_trans (h.row S hS).2 hk⟩⟩
theorem SyO.set {m many j:Nat} {Ss:List (List PZ)} {S:List PZ} (h:SyO m many Ss) (hS:RowZ 4 40 S) (hl:S.length≤m):SyO m many (Ss.set j S):=by
 refine⟨by rw[List.length_set];exact h.len,fun T hT=>?_⟩
 rcases List.mem_or_eq_of_mem_set hT with hT|rfl
 ·exact h.row T hT
 ·exact⟨hS,hl⟩
theorem addL_row {l:List PZ} {p:PZ} (hl:RowZ 4 40 l) (hp:PolZ 4 40 p):RowZ 4 40 (addL l p):=by
 unfold addL
 split
 ·exact hl
 ·intro q hq
  rcases List.mem_append.1 hq with hq|hq
  ·exact hl q hq
  ·rw[List.mem_singleton.1 hq]
   exact hp
theorem addL_len (l:List PZ) (p:PZ):(addL l p).length≤l.length+1:=by
 unfold addL
 split
 ·omega
 ·simp
theorem belowF_row:∀{more l:List PZ},RowZ 4 40 l→RowZ 4 40 more→RowZ 4 40 (belowF l more)
 |[],_,hl,_=>hl
 |p::more,_,hl,hm=>belowF_row (more:=more) (addL_row hl (hm p (List.mem_cons_self ..))) fun q hq=>hm q (List.mem_cons_of_mem _ hq)
theorem belowF_len:∀(more l:List PZ),(belowF l more).length≤l.length+more.length
 |[],_=>Nat.le_refl _
 |p::more,l=>by
  have h1:=belowF_len more (addL l p)
  have h2:=addL_len l p
  show(belowF (addL l p) more).length≤_
  rw[List.length_cons]
  omega
theorem belowF_snoc (l more:List PZ) (p:PZ):belowF l (more++[p])=addL (belowF l more) p:=by
 unfold belowF
 rw[List.foldl_append]
 rfl
theorem headSys_step (S set:List PZ) (Ss:List (List PZ)) {hs:List HeadR} {k:Nat} (hk:k<hs.length):
  headSys S set Ss (hs.take (k+1))=if 0≤(hs.getD k default).next then(headSys S set Ss (hs.take k)).set (hs.getD k default).next.toNat (belowF S (set++[pz (hs.getD k default).p])) else headSys S set Ss (hs.take k):=by
 unfold headSys
 rw[take_snoc hk,List.foldl_append]
 rfl
theorem headCnt_step (c:List Int) {hs:List HeadR} {k:Nat} (hk:k<hs.length):
  headCnt c (hs.take (k+1))=if 0≤(hs.getD k default).next then(headCnt c (hs.take k)).set (hs.getD k default).next.toNat ((headCnt c (hs.take k)).getD (hs.getD k default).next.toNat 0+1) else headCnt c (hs.take k):=by
 unfold headCnt
 rw[take_snoc hk,List.foldl_append]
 rfl
theorem headSys_ok {m many i:Nat} {S set conds:List PZ} {Ss:List (List PZ)} {hs:List HeadR} (h:SyO (m+7) many Ss) (hS:RowZ 4 40 S) (hSl:S.length≤m) (hset:RowZ 4 40 set) (hsl:set.length≤6)
  (hh:∀x∈hs,PolR 4 40 x.p∧headF conds i many x=true):∀k,k≤hs.length→SyO (m+7) many (headSys S set Ss (hs.take k))∧∀j,j≤i→(headSys S set Ss (hs.take k)).getD j []=Ss.getD j []
 |0,_=>⟨h,fun _ _=>rfl⟩
 |k+1,hk=>by
  obtain⟨ih1,ih2⟩:=headSys_ok (hs:=hs) h hS hSl hset hsl hh k (by omega)
  obtain⟨hp,hf⟩:=hh _ (getD_mem (l:=hs) hk)
  rw[headSys_step S set Ss hk]
  split
  ·rename_i h0
   have hn:=headF_next hf h0
   have hpp:=hp.pol (headF_may hf)
   have hrow:RowZ 4 40 (set++[pz (hs.getD k default).p]):=fun q hq=>by
    rcases List.mem_append.1 hq with hq|hq
    ·exact hset q hq
    ·rw[List.mem_singleton.1 hq]
     exact hpp
   refine⟨ih1.set (belowF_row hS hrow) ?_,fun j hj=>?_⟩
   ·have:=belowF_len (set++[pz (hs.getD k default).p]) S
    rw[List.length_append,List.length_singleton]at this
    omega
   ·rw[←ih2 j hj,List.getD_eq_getElem?_getD,List.getElem?_set_ne (by omega),List.getD_eq_getElem?_getD]
  ·exact⟨ih1,ih2⟩
theorem sysF_zero {hypos:List PZ} {proof:List NodeR} (h:RowZ 4 40 hypos) (hl:hypos.length≤6):SyO 6 proof.length (sysF hypos proof 0):=by
 refine SyO.set ⟨List.length_replicate,fun S hS=>?_⟩ h hl
 rw[List.eq_of_mem_replicate hS]
 exact⟨fun p hp=>absurd hp List.not_mem_nil,Nat.zero_le _⟩
theorem sysF_ok {hypos shown conds:List PZ} {proof:List NodeR} (h:RowZ 4 40 hypos) (hl:hypos.length≤6) (hn:∀n∈proof,NodeB n):∀i,i≤proof.length→
  (∀j,j<i→nodeF ((sysF hypos proof j).getD j []) shown conds j proof.length (proof.getD j default)=true)→SyO (6+7*i) proof.length (sysF hypos proof i)
 |0,_,_=>sysF_zero h hl
 |i+1,hi,hok=>by
  have ih:=sysF_ok (shown:=shown) (conds:=conds) h hl hn i (by omega) fun j hj=>hok j (by omega)
  have hni:=hn _ (getD_mem (l:=proof) hi)
  have hnf:=hok i (by omega)
  have hg:=ih.get (i:=i) (by omega)
  have hset:RowZ 4 40 ((proof.getD i default).set.map fun d=>pz d.p):=fun q hq=>by
   obtain⟨d,hd,rfl⟩:=List.mem_map.1 hq
   exact(hni.set d hd).p.pol (nodeF_setm hnf d hd)
  have:=(headSys_ok (m:=6+7*i) (i:=i) (conds:=conds) (hs:=(proof.getD i default).heads) (ih.mono (by omega)) hg.1 hg.2 hset (by rw[List.length_map];exact hni.setl) (fun x hx=>⟨hni.heads x hx,nodeF_heads hnf x hx⟩) _ (Nat.le_refl _)).1
  rw[List.take_length]at this
  exact this
theorem cnt_get {c:List Int} {k j:Nat} {v:Int}:(c.set k v).getD j 0=if k=j∧k<c.length then v else c.getD j 0:=by
 rw[List.getD_eq_getElem?_getD,List.getElem?_set]
 by_cases h:k=j
 ·subst h
  by_cases hl:k<c.length
  ·simp[hl]
  ·simp[hl,List.getD_eq_getElem?_getD]
 ·simp[h,List.getD_eq_getElem?_getD]
theorem headCnt_len:∀(hs:List HeadR) (c:List Int),(headCnt c hs).length=c.length
 |[],_=>rfl
 |h::hs,c=>by
  show(headCnt (if 0≤h.next then _ else _) hs).length=_
  rw[headCnt_len hs]
  split
  ·rw[List.length_set]
  ·rfl
theorem headCnt_get:∀(hs:List HeadR) (c:List Int) (j:Nat),j<c.length→(headCnt c hs).getD j 0=c.getD j 0+(hs.countP fun h=>decide (h.next=(j:Int)):Nat)
 |[],_,_,_=>by simp[headCnt]
 |h::hs,c,j,hj=>by
  show(headCnt (if 0≤h.next then _ else _) hs).getD j 0=_
  rw[List.countP_cons]
  split
  ·rename_i h0
   rw[headCnt_get hs _ j (by rw[List.length_set];exact hj),cnt_get]
   by_cases e:h.next=(j:Int)
   ·rw[if_pos (show h.next.toNat=j∧h.next.toNat<c.length by omega),if_pos (by simpa using e),show h.next.toNat=j by omega]
    omega
   ·rw[if_neg (by omega),if_neg (by simpa using e)]
    omega
  ·rename_i h0
   rw[headCnt_get hs _ j hj,if_neg (by simp;omega)]
   omega
theorem cntF_len (proof:List NodeR):∀i,(cntF proof i).length=proof.length
 |0=>List.length_replicate
 |i+1=>by rw[cntF,headCnt_len,cntF_len proof i]
theorem cntF_get (proof:List NodeR) {j:Nat} (hj:j<proof.length):∀i,i≤proof.length→(cntF proof i).getD j 0=(parentsF (proof.take i) j:Nat)
 |0,_=>by
  rw[cntF,List.getD_eq_getElem?_getD,List.getElem?_replicate,if_pos hj]
  rfl
 |i+1,hi=>by
  rw[cntF,headCnt_get _ _ _ (by rw[cntF_len];exact hj),cntF_get proof hj i (by omega),parZ_step hi]
  omega
theorem par_all {hypos shown conds:List PZ} {proof:List NodeR} {j:Nat} (hok:∀i,i<proof.length→nodeF ((sysF hypos proof i).getD i []) shown conds i proof.length (proof.getD i default)=true) (hj:j≤proof.length):
  ∀i,j≤i→i≤proof.length→parentsF (proof.take i) j=parentsF (proof.take j) j:=fun i h1 h2=>by
 induction i with
 |zero=>
  obtain rfl:j=0:=by omega
  rfl
 |succ i ih=>
  by_cases e:j=i+1
  ·rw[e]
  ·rw[parZ_step h2,ih (by omega) (by omega)]
   have:(proof.getD i default).heads.countP (fun h=>decide (h.next=(j:Int)))=0:=by
    rw[List.countP_eq_zero]
    intro h hh hd
    have hd:=of_decide_eq_true hd
    have:=headF_next (nodeF_heads (hok i (by omega)) h hh) (by omega)
    omega
   omega
theorem accepts_same (hypos shown conds:List (List TermR)) (proof:List NodeR):acceptsP hypos shown conds proof=acceptsR hypos shown conds proof:=by
 unfold acceptsP acceptsR
 refine Eq.trans ?_ (Bool.and_assoc _ _ _).symm
 refine congrArg (and _) ?_
 rw[Bool.eq_iff_iff,Bool.and_eq_true,List.all_eq_true,List.all_eq_true,List.all_eq_true]
 simp only[List.mem_range,Bool.and_eq_true,decide_eq_true_eq]
 have key:(∀i,i<proof.length→nodeF ((sysF (hypos.map pz) proof i).getD i []) (shown.map pz) (conds.map pz) i proof.length (proof.getD i default)=true)→∀i,i<proof.length→(cntF proof i).getD i 0=(parentsF proof i:Nat):=fun h i hi=>by
  rw[cntF_get proof hi i (by omega),←par_all h (by omega:i≤proof.length) proof.length (by omega) (Nat.le_refl _),List.take_length]
 constructor
 ·intro h
  have hn:=fun i hi=>(h i hi).2
  refine⟨fun i hi=>?_,hn⟩
  have h1:=(h i hi).1
  rw[key hn i hi]at h1
  by_cases e:i=0
  ·subst e
   rw[if_pos rfl]
   have h0:=cntF_get proof hi 0 (by omega)
   rw[key hn 0 hi,List.take_zero]at h0
   have:parentsF [] 0=0:=rfl
   omega
  ·rw[if_neg e]
   have:=h1.2 e
   omega
 ·rintro⟨hp,hn⟩ i hi
  refine⟨?_,hn i hi⟩
  rw[key hn i hi]
  have:=hp i hi
  by_cases e:i=0
  ·rw[if_pos e]at this
   constructor
   ·intro h1
    omega
   ·intro h1
    exact absurd e h1
  ·rw[if_neg e]at this
   constructor
   ·intro _
    exact e
   ·intro _
    omega
end Go.Proofs.YtkbdklmdcbmgkaaGreat
