/-
  The document's checker (layer 31): rows of polynomials, products, sums, what is the same, what is derived.
-/
import Derived.Test.YtkbdklmdcbmgkaaGreatRdA
import Derived.Test.YtkbdklmdcbmgkaaGreatKd0
import Derived.Test.YtkbdklmdcbmgkaaGreatAbE
set_option maxRecDepth 100000
set_option maxHeartbeats 6400000
namespace Go.Proofs.YtkbdklmdcbmgkaaGreat
open Go.Ab
def pZE (p:PZ):List AV:=[pZ p]
abbrev pZs (l:List PZ):AV:=sl pZE 1 l .view
def derE (d:DerR):List AV:=intEs d.n++[polyV d.p,polysV d.by']
theorem all_take {α:Type} [Inhabited α] {f:α→Bool} {l:List α} (h:∀j,j<l.length→f (l.getD j default)=true):l.all f=true:=all_getD h
theorem all_hit {α:Type} [Inhabited α] {f:α→Bool} {l:List α} {i:Nat} (hi:i<l.length) (h:f (l.getD i default)=false):l.all f=false:=
 List.all_eq_false.2 ⟨_,getD_mem hi,by rw[h];decide⟩
theorem map_snoc {α β:Type} [Inhabited α] (f:α→β) {l:List α} {i:Nat} (hi:i<l.length):(l.take (i+1)).map f=(l.take i).map f++[f (l.getD i default)]:=by
 rw[take_snoc hi,List.map_append]
 rfl
theorem cbPlain16:Callable Tryz.prog 18:=fun _ _=>by kernel_rfl
theorem rplain_c (ps:List (List TermR)) (k:Nat) (hk:k+1≤1000000) (hl:ps.length≤5864062014635) (h:∀p∈ps,PolyOk k p):
  PCalls Tryz.prog 18 [polysV ps] (.tuple [pZs (if ps.all mayP=true then ps.map pz else []),.bool (ps.all mayP)]):=by
 refine pcalls_of_awp tyok cbPlain16 Tryz.func18 rfl rfl ?_
 unfold polysV polyE
 repeat(first|refine wDB ?_|refine awp_seq_k fun K hK=>?_|refine wN fun bx=>?_|(refine wH ?_;clear hK))
 refine awp_tok0 1 62 ?_
 refine awp_loopP (ι:={y:TimS//y.i≤ps.length∧∀j,j<y.i→mayP (ps.getD j default)=true}) (fun y=>[(0,sl (fun p:List TermR=>[polyV p]) 1 ps .view),(4,sl pZE 1 ((ps.take y.1.i).map pz) (.own y.1.a y.1.cp)),(5,.int .i64 y.1.i)])
  (fun y=>[.tok y.1.a y.1.cp ((ps.take y.1.i).map pz).length 1 62]) (fun y=>ps.length-y.1.i) ⟨⟨0,none,0⟩,Nat.zero_le _,fun j hj=>absurd hj (Nat.not_lt_zero j)⟩ wk qpm ?_
 rintro⟨⟨i,ad,cp⟩,hi,hs⟩
 simp only at hi hs ⊢
 by_cases hlt:i<ps.length
 rotate_left
 ·have hge:¬(i:Int)<ps.length:=by omega
  obtain rfl:i=ps.length:=by omega
  have hall:=all_take hs
  rw[List.take_length]
  repeat(first|refine wDB ?_|refine awp_seq_k fun K hK=>?_|refine wN fun bx=>?_|(refine wH ?_;clear hK))
  refine r2 ?_ ?_
  ·exact(Sub.view _ _ _ _).trans (Sub.of_eq (by rw[if_pos hall];rfl))
  ·exact Sub.of_eq (by rw[hall])
 have hlt':(i:Int)<ps.length:=by omega
 have hpo:=h _ (getD_mem hlt)
 have g1:=rpmay_c (ps.getD i default) (hpo.mono (by omega))
 cases hm:mayP (ps.getD i default)with
 |false=>
  rw[hm]at g1
  have hall:=all_hit hlt hm
  repeat(first|refine wDB ?_|refine awp_seq_k fun K hK=>?_|refine wN fun bx=>?_|refine wC g1 ?_|(refine wH ?_;clear hK))
  refine r2 ?_ ?_
  ·rw[hall]
   exact Sub.nilsv _ _
  ·exact Sub.of_eq (by rw[hall])
 |true=>
  rw[hm]at g1
  have g2:=rpof_c (ps.getD i default) k hk hpo (mayP_m hm)
  rw[colZ_self (canon_of hm)]at g2
  have hol:((ps.take i).map pz).length≤5864062014634:=by
   rw[List.length_map,List.length_take]
   omega
  repeat(first|refine wDB ?_|refine awp_seq_k fun K hK=>?_|refine wN fun bx=>?_|refine wC g1 ?_|refine wC g2 ?_|(refine wH ?_;clear hK))
  refine qapp tyok pZE ((ps.take i).map pz) (pz (ps.getD i default)) (SubL.refl _) ?_ fun ad3 cp3=>?_
  ·simp only
   omega
  rw[←map_snoc pz hlt]
  repeat(first|refine wDB ?_|refine awp_seq_k fun K hK=>?_|refine wN fun bx=>?_|(refine wH ?_;clear hK))
  refine⟨⟨⟨i+1,ad3,cp3⟩,hlt,fun j hj=>?_⟩,wk,qpm,by simp only;omega⟩
  have hj:j<i+1:=hj
  by_cases e:j=i
  ·rw[e];exact hm
  ·exact hs j (by omega)
structure DerOk (k:Nat) (d:DerR):Prop where
 n:IntOk k d.n
 p:PolyOk k d.p
 by':∀p∈d.by',PolyOk k p
 len:d.by'.length≤5864062014634
def der17 (d:DerR):List AV:=zE d.n.z++[pZ (pz d.p),pZs (d.by'.map pz)]
def derMay (d:DerR):Bool:=mayP d.p&&d.by'.all mayP
theorem cbOf17:Callable Tryz.prog 71:=fun _ _=>by kernel_rfl
theorem rof17_c (d:DerR) (k:Nat) (hk:k+1≤1000000) (h:DerOk k d):
  PCalls Tryz.prog 71 [.agg (derE d)] (.tuple [.agg (if derMay d=true then der17 d else [.bool false,.nils,.nils,.nils]),.bool (derMay d)]):=by
 refine pcalls_of_awp tyok cbOf17 Tryz.func71 rfl rfl ?_
 have hl:=h.len
 have g:=rplain_c (d.p::d.by') k hk (by rw[List.length_cons];omega) (fun p hp=>by
  rcases List.mem_cons.1 hp with rfl|hp
  ·exact h.p
  ·exact h.by' p hp)
 have e:(d.p::d.by').all mayP=derMay d:=rfl
 rw[e]at g
 have g1:=zOf_c d.n (h.n.mono (by omega))
 ((repeat(first|refine wDB ?_|refine awp_seq_k fun K hK=>?_|(refine wH ?_;clear hK)));refine wN fun b1=>?_;(repeat(first|refine wDB ?_|refine awp_seq_k fun K hK=>?_|(refine wH ?_;clear hK)));refine wN fun b2=>?_;(repeat(first|refine wDB ?_|refine awp_seq_k fun K hK=>?_|refine wN fun bx=>?_|(refine wH ?_;clear hK))))
 refine qappG tyok polyE [d.p] d.by' (fun i hi=>?_) (fun _ _=>SubL.refl _) ?_ fun a1 c1=>?_
 ·have e0:i=0:=by simpa using hi
  subst e0
  exact SubL.refl _
 ·constructor
  ·show(1+d.by'.length)*24≤_
   omega
  ·show 1+d.by'.length≤_
   omega
 have g2:=g.sub (vs:=[sl polyE 1 (d.p::d.by') (.own a1 c1)]) (.cons (Sub.view _ _ _ _) .nil)
 cases hm:derMay d with
 |false=>
  rw[hm]at g2
  repeat(first|refine wDB ?_|refine awp_seq_k fun K hK=>?_|refine wN fun bx=>?_|refine wC g2 ?_|(refine wH ?_;clear hK))
  refine rcB ?_ ?_
  ·rw[hm]
   exact Sub.refl _
  ·rw[hm]
   exact Sub.refl _
 |true=>
  rw[hm,if_pos rfl,List.map_cons]at g2
  repeat(first|refine wKB ?_|refine awp_seq_k fun K hK=>?_|refine wN fun bx=>?_|refine wC g2 ?_|(refine wH ?_;clear hK))
  refine areg_soft mixed tyok [2] [] [0,1,3,4,5,6,7,2,8,9,10] (by decide +kernel) ?_
  repeat(first|refine wDB ?_|refine awp_seq_k fun K hK=>?_|refine wN fun bx=>?_|refine wC g1 ?_|(refine wH ?_;clear hK))
  refine rcB ?_ ?_
  ·rw[hm,if_pos rfl]
   refine subAgg (.cons (Sub.refl _) (.cons (Sub.refl _) (.cons (Sub.refl _) (.cons ?_ .nil))))
   refine Sub.els (n:=(d.by'.map pz).length) fun i hi=>?_
   show SubL (pZE ((pz d.p::d.by'.map pz).getD (1+i) default)) (pZE ((d.by'.map pz).getD i default))
   rw[Nat.add_comm]
   exact SubL.refl _
  ·rw[hm]
   exact Sub.refl _
theorem cbLimbs31:Callable Tryz.prog 108:=fun _ _=>by kernel_rfl
theorem r31limbs_c (p:PZ) (k:Nat) (hk:k≤1000000) (h:∀t∈p,ZOk k t.1) (hl:p.length≤1000000000):PCalls Tryz.prog 108 [pZ p] (.int .i64 (limZ p)):=by
 refine pcalls_of_awp tyok cbLimbs31 Tryz.func108 rfl rfl ?_
 have hlm:(p.map zR).length=p.length:=List.length_map _
 repeat(first|refine wDB ?_|refine awp_seq_k fun K hK=>?_|refine wN fun bx=>?_|(refine wH ?_;clear hK))
 refine awp_loop0 (ι:={i:Nat//i≤p.length}) (fun i=>[(0,pZ p),(3,.int .i64 (limR ((p.map zR).take i.1))),(4,.int .i64 i.1)]) (fun _=>[]) (fun i=>p.length-i.1) ⟨0,Nat.zero_le _⟩ wk dp ?_
 rintro⟨i,hi⟩
 simp only at hi ⊢
 by_cases hlt:i<p.length
 rotate_left
 ·have hge:¬(i:Int)<p.length:=by omega
  obtain rfl:i=p.length:=by omega
  rw[←hlm,List.take_length]
  repeat(first|refine wDB ?_|refine awp_seq_k fun K hK=>?_|refine wN fun bx=>?_|(refine wH ?_;clear hK))
  refine r1 ?_
  exact Sub.refl _
 have hlt':(i:Int)<p.length:=by omega
 have g:=zInt_c k (p.getD i default).1 hk (h _ (getD_mem hlt))
 have hs:=limR_step (p:=p.map zR) (i:=i) (by omega)
 rw[map_getR hlt]at hs
 have hs:limR ((p.map zR).take (i+1))=max (limR ((p.map zR).take i)) (intC (p.getD i default).1).mag.length:=hs
 by_cases hc:((intC (p.getD i default).1).mag.length:Int)>(limR ((p.map zR).take i):Nat)
 ·rw[Nat.max_eq_right (by omega)]at hs
  repeat(first|refine wDB ?_|refine awp_seq_k fun K hK=>?_|refine wN fun bx=>?_|refine wC g ?_|(refine wH ?_;clear hK))
  rw[←hs]
  exact⟨⟨i+1,hlt⟩,wk,dp,by simp only;omega⟩
 ·rw[Nat.max_eq_left (by omega)]at hs
  repeat(first|refine wDB ?_|refine awp_seq_k fun K hK=>?_|refine wN fun bx=>?_|refine wC g ?_|(refine wH ?_;clear hK))
  rw[←hs]
  exact⟨⟨i+1,hlt⟩,wk,dp,by simp only;omega⟩
theorem mul3 {a b c A B C:Nat} (ha:a≤A) (hb:b≤B) (hc:c≤C):a*b*c≤A*B*C:=Nat.mul_le_mul (Nat.mul_le_mul ha hb) hc
theorem work_bnd {a b c:Nat} (ha:a≤16777216) (hb:b≤100000) (hc:c≤8192):(0:Int)≤(a:Int)*b∧(a:Int)*b≤16777216*100000∧(0:Int)≤(a:Int)*b*c∧(a:Int)*b*c≤16777216*100000*8192:=by
 have h1:=Nat.mul_le_mul ha hb
 have h2:=mul3 ha hb hc
 have e1:(a:Int)*b=((a*b:Nat):Int):=(Int.natCast_mul a b).symm
 have e2:(a:Int)*b*c=((a*b*c:Nat):Int):=by rw[Int.natCast_mul,Int.natCast_mul]
 rw[e2,e1]
 omega
theorem cbTimes31:Callable Tryz.prog 72:=fun _ _=>by kernel_rfl
theorem r31times_c (p q:PZ) (j k:Nat) (hj:j+k+1≤4000) (hp:PolZ j 16777216 p) (hq:PolZ k 100000 q):PCalls Tryz.prog 72 [pZ p,pZ q] (.tuple [pZ (timesS false p q).1,.bool (!(timesS false p q).2)]):=by
 refine pcalls_of_awp tyok cbTimes31 Tryz.func72 rfl rfl ?_
 have lp:=hp.len
 have lq:=hq.len
 have g1:=r31limbs_c p j (by omega) hp.ok.bd (by omega)
 have g2:=r31limbs_c q k (by omega) hq.ok.bd (by omega)
 have k1:=limZ_le hp.ok.bd
 have k2:=limZ_le hq.ok.bd
 have hw:=work_bnd (c:=limZ p+limZ q) lp lq (by omega)
 rw[Int.natCast_add]at hw
 obtain⟨w1,w2,w3,w4⟩:=hw
 unfold timesS
 by_cases hg:workZ p q>16777216
 ·have hg':(p.length:Int)*q.length*(limZ p+limZ q)>16777216:=hg
  rw[if_pos (.inr hg)]
  repeat(first|refine wDB ?_|refine awp_seq_k fun K hK=>?_|refine wN fun bx=>?_|refine wC g1 ?_|refine wC g2 ?_|(refine wH ?_;clear hK))
  refine r2 ?_ ?_
  ·exact Sub.nilsv _ _
  ·exact Sub.refl _
 ·have hg':¬(p.length:Int)*q.length*(limZ p+limZ q)>16777216:=hg
  rw[if_neg (by rintro(h|h);cases h;exact hg h)]
  have g3:=rptimes_c p q j k (by omega) hp.ok hq.ok (work_len hp.ok.can hg) (by omega) (by omega)
  repeat(first|refine wDB ?_|refine awp_seq_k fun K hK=>?_|refine wN fun bx=>?_|refine wC g1 ?_|refine wC g2 ?_|refine wC g3 ?_|(refine wH ?_;clear hK))
  refine r2 ?_ ?_
  ·exact Sub.refl _
  ·exact Sub.of_eq (by simp)
end Go.Proofs.YtkbdklmdcbmgkaaGreat
namespace Go.Proofs.YtkbdklmdcbmgkaaGreat
open Go.Ab
theorem RowZ.at' {k n:Nat} {l:List PZ} (h:RowZ k n l) {i:Nat} (hi:i<l.length):PolZ k n (l.getD i default):=h _ (getD_mem hi)
theorem cbSum31:Callable Tryz.prog 73:=fun _ _=>by kernel_rfl
theorem r31sum_c (a b:List PZ) (k n:Nat) (hk:k≤100) (hn:n≤100) (ha:RowZ k n a) (hb:RowZ k n b) (hl:a.length≤1000) (hab:a.length=b.length):
  PCalls Tryz.prog 73 [pZs a,pZs b] (.tuple [pZ (if(sumS false a b a.length).2=true then [] else(sumS false a b a.length).1),.bool (!(sumS false a b a.length).2)]):=by
 refine pcalls_of_awp tyok cbSum31 Tryz.func73 rfl rfl ?_
 unfold pZs pZE
 repeat(first|refine wDB ?_|refine awp_seq_k fun K hK=>?_|refine wN fun bx=>?_|(refine wH ?_;clear hK))
 refine awp_loop0 (ι:={i:Nat//i≤a.length∧(sumS false a b i).2=false}) (fun i=>[(0,sl (fun p:PZ=>[pZ p]) 1 a .view),(1,sl (fun p:PZ=>[pZ p]) 1 b .view),(6,pZ (sumS false a b i.1).1),(7,.int .i64 i.1)]) (fun _=>[]) (fun i=>a.length-i.1) ⟨0,Nat.zero_le _,rfl⟩ ?_ dp ?_
 ·exact⟨⟨_,rfl,Sub.refl _⟩,⟨_,rfl,Sub.refl _⟩,⟨_,rfl,Sub.nilsv _ _⟩,⟨_,rfl,Sub.refl _⟩,trivial⟩
 rintro⟨i,hi,hs⟩
 simp only at hi hs ⊢
 by_cases hlt:i<a.length
 rotate_left
 ·have hge:¬(i:Int)<a.length:=by omega
  obtain rfl:i=a.length:=by omega
  repeat(first|refine wDB ?_|refine awp_seq_k fun K hK=>?_|refine wN fun bx=>?_|(refine wH ?_;clear hK))
  refine r2 ?_ ?_
  ·exact Sub.of_eq (by rw[hs];rfl)
  ·exact Sub.of_eq (by rw[hs];rfl)
 have hlt':(i:Int)<a.length:=by omega
 have hlt2:(i:Int)<b.length:=by omega
 have pa:=ha.at' hlt
 have pb:=hb.at' (i:=i) (by omega)
 have gT:=r31times_c (a.getD i default) (b.getD i default) k k (by omega) (pa.mono (Nat.le_refl _) (by omega)) (pb.mono (Nat.le_refl _) (by omega))
 have hstep:sumS false a b (i+1)=(addZ (sumS false a b i).1 (timesS false (a.getD i default) (b.getD i default)).1,(timesS false (a.getD i default) (b.getD i default)).2):=by
  rw[sumS,hs]
 cases hb2:(timesS false (a.getD i default) (b.getD i default)).2 with
 |true=>
  have hst:(sumS false a b a.length).2=true:=sumS_stop (m:=i+1) hlt (by rw[hstep];exact hb2)
  rw[hb2]at gT
  repeat(first|refine wDB ?_|refine awp_seq_k fun K hK=>?_|refine wN fun bx=>?_|refine wC gT ?_|(refine wH ?_;clear hK))
  refine r2 ?_ ?_
  ·rw[hst,if_pos rfl]
   exact Sub.nilsv _ _
  ·rw[hst]
   exact Sub.refl _
 |false=>
  rw[hb2]at gT hstep
  have p1:=sumS_pol (bad:=false) ha hb hn i (by omega)
  have p2:=timesS_pol (bad:=false) pa pb
  have l2:=timesS_len (bad:=false) (p:=a.getD i default) (q:=b.getD i default)
  have l3:(a.getD i default).length*(b.getD i default).length≤100*100:=Nat.mul_le_mul (Nat.le_trans pa.len hn) (Nat.le_trans pb.len hn)
  have l1:=p1.len
  have l4:n*n*i≤100*100*1000:=mul3 hn hn (by omega)
  have gA:=rpadd_c (sumS false a b i).1 (timesS false (a.getD i default) (b.getD i default)).1 2000 (by omega) (p1.ok.mono (by omega)) (fun t ht=>⟨p2.ok.can.may t ht,(p2.ok.bd t ht).mono (by omega)⟩) (by omega)
  repeat(first|refine wDB ?_|refine awp_seq_k fun K hK=>?_|refine wN fun bx=>?_|refine wC gT ?_|refine wC gA ?_|(refine wH ?_;clear hK))
  have hq:(sumS false a b (i+1)).1=addZ (sumS false a b i).1 (timesS false (a.getD i default) (b.getD i default)).1:=by rw[hstep]
  refine⟨⟨i+1,hlt,by rw[hstep]⟩,⟨⟨_,rfl,Sub.refl _⟩,⟨_,rfl,Sub.refl _⟩,⟨_,rfl,Sub.of_eq (by rw[hq])⟩,⟨_,rfl,Sub.refl _⟩,trivial⟩,dp,by simp only;omega⟩
theorem same_z (p q:PZ):sameP8 (p.map zR) (q.map zR)=decide (p=q):=by
 rw[Bool.eq_iff_iff,sameP8_iff,decide_eq_true_eq]
 constructor
 ·intro e
  have:=congrArg (List.map zT) e
  rwa [zT_map,zT_map]at this
 ·rintro rfl
  rfl
theorem cbSame31:Callable Tryz.prog 41:=fun _ _=>by kernel_rfl
theorem r31same_c (p q:PZ) (k:Nat) (hk:k≤1000000) (hp:CanK k p) (hq:CanK k q) (lp:p.length≤400000000) (lq:q.length≤400000000):PCalls Tryz.prog 41 [pZ p,pZ q] (.bool (decide (p=q))):=by
 refine pcalls_of_awp tyok cbSame31 Tryz.func41 rfl rfl ?_
 have g1:=rppoly_c p k hk hp.bd (fun t ht=>may_short (hp.can.may t ht)) lp
 have g2:=rppoly_c q k hk hq.bd (fun t ht=>may_short (hq.can.may t ht)) lq
 have g3:=rpsame_c (p.map zR) (q.map zR) ((hp.ok lp).mono (by omega)) ((hq.ok lq).mono (by omega))
 rw[same_z]at g3
 repeat(first|refine wDB ?_|refine awp_seq_k fun K hK=>?_|refine wN fun bx=>?_|refine wC g1 ?_|refine wC g2 ?_|refine wC g3 ?_|(refine wH ?_;clear hK))
 refine r1 ?_
 exact Sub.refl _
theorem wholeZ_canK {k:Nat} {p:PZ} (h:CanK k p):CanK k (wholeZ p):=by
 have hne:∀t∈p,cwZ p∣t.1:=fun t ht=>by
  refine Int.natAbs_dvd_natAbs.1 ?_
  rw[cwZ_abs]
  exact(gcdZ_dvd p 0).2 t ht
 refine⟨⟨fun t ht=>?_,fun t ht=>?_,List.pairwise_map.2 h.can.ord⟩,fun t ht=>?_⟩
 ·obtain⟨u,hu,rfl⟩:=List.mem_map.1 ht
  have h0:=h.can.nz u hu
  obtain⟨x,hx⟩:=hne u hu
  show u.1.tdiv (cwZ p)≠0
  have hc:cwZ p≠0:=fun e=>h0 (by rw[hx,e,Int.zero_mul])
  rw[hx,Int.mul_tdiv_cancel_left _ hc]
  rintro rfl
  exact h0 (by rw[hx,Int.mul_zero])
 ·obtain⟨u,hu,rfl⟩:=List.mem_map.1 ht
  exact h.can.may u hu
 ·obtain⟨u,hu,rfl⟩:=List.mem_map.1 ht
  exact tdiv_zok (h.bd u hu)
theorem wholeZ_len (p:PZ):(wholeZ p).length=p.length:=List.length_map _
theorem cbCond31:Callable Tryz.prog 38:=fun _ _=>by kernel_rfl
theorem r31cond_c (conds:List PZ) (p:PZ) (at':Int) (k n:Nat) (hk:k≤1000000) (hn:n≤400000000) (hc:RowZ k n conds) (hp:PolZ k n p) (_:conds.length≤1000000000):PCalls Tryz.prog 38 [pZs conds,pZ p,.int .i64 at'] (.bool (conditionF conds p at')):=by
 refine pcalls_of_awp tyok cbCond31 Tryz.func38 rfl rfl ?_
 unfold pZs pZE
 have lp:=hp.len
 by_cases h0:at'≥0
 rotate_left
 ·have e:conditionF conds p at'=false:=decide_eq_false fun h=>h0 h.1
  repeat(first|refine wKB ?_|refine awp_seq_k fun K hK=>?_|refine wN fun bx=>?_|(refine wH ?_;clear hK))
  refine areg_soft mixed tyok [10,15,16] [] (List.range 19) (by decide +kernel) ?_
  repeat(first|refine wDB ?_|refine awp_seq_k fun K hK=>?_|refine wN fun bx=>?_|(refine wH ?_;clear hK))
  refine r1 ?_
  exact Sub.of_eq (by rw[e])
 by_cases h1:at'<conds.length
 rotate_left
 ·have e:conditionF conds p at'=false:=decide_eq_false fun h=>h1 h.2.1
  repeat(first|refine wKB ?_|refine awp_seq_k fun K hK=>?_|refine wN fun bx=>?_|(refine wH ?_;clear hK))
  refine areg_soft mixed tyok [10,15,16] [] (List.range 19) (by decide +kernel) ?_
  repeat(first|refine wDB ?_|refine awp_seq_k fun K hK=>?_|refine wN fun bx=>?_|(refine wH ?_;clear hK))
  refine r1 ?_
  exact Sub.of_eq (by rw[e])
 have hc1:=hc.at' (i:=at'.toNat) (by omega)
 have lc:=hc1.len
 have g1:=rpwhole_c p k hk hp.ok.bd hp.ok.can.nz (by omega)
 have g2:=rpwhole_c (conds.getD at'.toNat default) k hk hc1.ok.bd hc1.ok.can.nz (by omega)
 have g3:=r31same_c (wholeZ p) (wholeZ (conds.getD at'.toNat default)) k hk (wholeZ_canK hp.ok) (wholeZ_canK hc1.ok) (by rw[wholeZ_len];omega) (by rw[wholeZ_len];omega)
 have e:conditionF conds p at'=decide (wholeZ p=wholeZ (conds.getD at'.toNat default)):=by
  unfold conditionF
  rw[Bool.eq_iff_iff,decide_eq_true_eq,decide_eq_true_eq]
  exact⟨fun h=>h.2.2,fun h=>⟨h0,h1,h⟩⟩
 rw[e]
 repeat(first|refine wKB ?_|refine awp_seq_k fun K hK=>?_|refine wN fun bx=>?_|(refine wH ?_;clear hK))
 refine areg_soft mixed tyok [10,15,16] [] (List.range 19) (by decide +kernel) ?_
 repeat(first|refine wDB ?_|refine awp_seq_k fun K hK=>?_|refine wN fun bx=>?_|refine wC g1 ?_|refine wC g2 ?_|refine wC g3 ?_|(refine wH ?_;clear hK))
 refine r1 ?_
 exact Sub.refl _
theorem numZ_of {z:Int} (h:z≠0):numZ z=[(z,[])]:=by
 show putZ z [] []=_
 rw[putZ,if_neg h]
theorem numZ_pol {k:Nat} {z:Int} (h:ZOk k z):PolZ (k+1) 1 (numZ z):=by
 unfold numZ
 refine⟨col_canK (fun t ht=>by rw[List.mem_singleton.1 ht];rfl) (fun t ht=>by rw[List.mem_singleton.1 ht];exact h) (by simp),?_⟩
 exact colZ_len _
theorem num_sub (z:Int) (h:z≠0):Sub (.slice 3 1 (chunk [.bool (decide (z<0)),decs (digs 10 z.natAbs),.nils] 3) .full) (pZ (numZ z)):=by
 rw[numZ_of h]
 refine(Sub.view _ _ _ _).trans (Sub.els fun i hi=>?_)
 have e:i=0:=by omega
 subst e
 exact .cons (Sub.refl _) (.cons (Sub.refl _) (.cons (Sub.nilsv _ _) .nil))
theorem signZ_pos (z:Int):signZ z≤0↔¬0<z:=by
 unfold signZ
 (repeat' split)<;>omega
structure PolR (k n:Nat) (p:List TermR):Prop where
 ok:PolyOk k p
 len:p.length≤n
theorem PolR.pol {k n:Nat} {p:List TermR} (h:PolR k n p) (hm:mayP p=true):PolZ k n (pz p):=⟨canK_of h.ok hm,by rw[List.length_map];exact h.len⟩
structure DerB (d:DerR):Prop where
 ok:DerOk 4 d
 p:PolR 4 40 d.p
 by':∀p∈d.by',PolR 4 40 p
theorem DerB.row {d:DerR} (h:DerB d) (hm:d.by'.all mayP=true):RowZ 4 40 (d.by'.map pz):=fun q hq=>by
 obtain⟨p,hp,rfl⟩:=List.mem_map.1 hq
 exact(h.by' p hp).pol (List.all_eq_true.1 hm p hp)
theorem cbDer31:Callable Tryz.prog 36:=fun _ _=>by kernel_rfl
theorem r31der_c (l:List PZ) (d:DerR) (hd:DerB d) (hl:RowZ 4 40 l) (hll:l.length≤1000):PCalls Tryz.prog 36 [pZs l,.agg (derE d)] (.bool (derivedF l d)):=by
 refine pcalls_of_awp tyok cbDer31 Tryz.func36 rfl rfl ?_
 have gO:=rof17_c d 4 (by decide) hd.ok
 have hlp:((pz d.p).length:Int)=d.p.length:=by rw[List.length_map]
 have hlb:((d.by'.map pz).length:Int)=d.by'.length:=by rw[List.length_map]
 cases hM:derMay d with
 |false=>
  have e:derivedF l d=false:=by
   unfold derMay at hM
   unfold derivedF
   rcases Bool.and_eq_false_iff.1 hM with h|h
   ·rw[h];simp
   ·rw[h];simp
  rw[hM]at gO
  ((repeat(first|refine wDB ?_|refine awp_seq_k fun K hK=>?_|refine wC gO ?_|(refine wH ?_;clear hK)));refine wN fun b3=>?_;(repeat(first|refine wDB ?_|refine awp_seq_k fun K hK=>?_|refine wC gO ?_|(refine wH ?_;clear hK)));refine wN fun b5=>?_;(repeat(first|refine wDB ?_|refine awp_seq_k fun K hK=>?_|refine wN fun bx=>?_|refine wC gO ?_|(refine wH ?_;clear hK))))
  refine r1 ?_
  exact Sub.of_eq (by rw[e])
 |true=>
  rw[hM,if_pos rfl]at gO
  obtain⟨m1,m2⟩:=Bool.and_eq_true_iff.1 hM
  by_cases h1:d.p=[]
  ·have e:derivedF l d=false:=by unfold derivedF;simp[h1]
   have h1':((pz d.p).length:Int)=0:=by rw[h1];rfl
   ((repeat(first|refine wDB ?_|refine awp_seq_k fun K hK=>?_|refine wC gO ?_|(refine wH ?_;clear hK)));refine wN fun b3=>?_;(repeat(first|refine wDB ?_|refine awp_seq_k fun K hK=>?_|refine wC gO ?_|(refine wH ?_;clear hK)));refine wN fun b5=>?_;(repeat(first|refine wDB ?_|refine awp_seq_k fun K hK=>?_|refine wN fun bx=>?_|refine wC gO ?_|(refine wH ?_;clear hK))))
   refine r1 ?_
   exact Sub.of_eq (by rw[e])
  have h1':¬((pz d.p).length:Int)=0:=by
   have:=List.length_pos_iff.2 h1
   omega
  by_cases h2:d.by'.length=l.length
  rotate_left
  ·have e:derivedF l d=false:=by unfold derivedF;simp[h2]
   have h2':¬((d.by'.map pz).length:Int)=l.length:=by omega
   ((repeat(first|refine wDB ?_|refine awp_seq_k fun K hK=>?_|refine wC gO ?_|(refine wH ?_;clear hK)));refine wN fun b3=>?_;(repeat(first|refine wDB ?_|refine awp_seq_k fun K hK=>?_|refine wC gO ?_|(refine wH ?_;clear hK)));refine wN fun b5=>?_;(repeat(first|refine wDB ?_|refine awp_seq_k fun K hK=>?_|refine wN fun bx=>?_|refine wC gO ?_|(refine wH ?_;clear hK))))
   refine r1 ?_
   exact Sub.of_eq (by rw[e])
  have h2':((d.by'.map pz).length:Int)=l.length:=by omega
  have gM:=zMay_c d.n (hd.ok.n.mono (by omega))
  cases h3:mayZ d.n with
  |false=>
   have e:derivedF l d=false:=by unfold derivedF;simp[h3]
   rw[h3]at gM
   ((repeat(first|refine wDB ?_|refine awp_seq_k fun K hK=>?_|refine wC gO ?_|refine wC gM ?_|(refine wH ?_;clear hK)));refine wN fun b3=>?_;(repeat(first|refine wDB ?_|refine awp_seq_k fun K hK=>?_|refine wC gO ?_|refine wC gM ?_|(refine wH ?_;clear hK)));refine wN fun b5=>?_;(repeat(first|refine wDB ?_|refine awp_seq_k fun K hK=>?_|refine wN fun bx=>?_|refine wC gO ?_|refine wC gM ?_|(refine wH ?_;clear hK))))
   refine r1 ?_
   exact Sub.of_eq (by rw[e])
  |true=>
   rw[h3]at gM
   have gS:=zSign_c d.n.z
   have hsg:=signZ_pos d.n.z
   by_cases h4:0<d.n.z
   rotate_left
   ·have e:derivedF l d=false:=by unfold derivedF;simp[h4]
    have h4':signZ d.n.z≤0:=hsg.2 h4
    ((repeat(first|refine wDB ?_|refine awp_seq_k fun K hK=>?_|refine wC gO ?_|refine wC gM ?_|refine wC gS ?_|(refine wH ?_;clear hK)));refine wN fun b3=>?_;(repeat(first|refine wDB ?_|refine awp_seq_k fun K hK=>?_|refine wC gO ?_|refine wC gM ?_|refine wC gS ?_|(refine wH ?_;clear hK)));refine wN fun b5=>?_;(repeat(first|refine wDB ?_|refine awp_seq_k fun K hK=>?_|refine wN fun bx=>?_|refine wC gO ?_|refine wC gM ?_|refine wC gS ?_|(refine wH ?_;clear hK))))
    refine r1 ?_
    exact Sub.of_eq (by rw[e])
   have h4':¬signZ d.n.z≤0:=fun e=>hsg.1 e h4
   have hrow:=hd.row m2
   have hpp:=hd.p.pol m1
   have hnn:=numZ_pol (intR_zok hd.ok.n)
   have e:derivedF l d=(let x:=timesS false (pz d.p) (numZ d.n.z);let y:=sumS x.2 l (d.by'.map pz) l.length;decide (x.1=y.1)&& !y.2):=by
    unfold derivedF
    rw[decide_eq_true (show d.p≠[] from h1),m1,decide_eq_true h2,m2,h3,decide_eq_true h4]
    rfl
   have gT:=r31times_c (pz d.p) (numZ d.n.z) 4 5 (by decide) (hpp.mono (Nat.le_refl _) (by decide)) (hnn.mono (Nat.le_refl _) (by decide))
   have gT':=gT.sub (.cons (Sub.refl _) (.cons (num_sub d.n.z (by omega)) .nil))
   clear gT
   have gU:=r31sum_c l (d.by'.map pz) 4 40 (by decide) (by decide) hl hrow hll (by rw[List.length_map];exact h2.symm)
   have pT:=timesS_pol (bad:=false) hpp hnn
   have pU:=sumS_pol (bad:=false) hl hrow (by decide) l.length hll
   simp only at e
   cases hx:(timesS false (pz d.p) (numZ d.n.z)).2 with
   |true=>
    rw[hx,sumS_bad,Bool.not_true,Bool.and_false]at e
    rw[hx]at gT'
    ((repeat(first|refine wDB ?_|refine awp_seq_k fun K hK=>?_|refine wC gO ?_|refine wC gM ?_|refine wC gS ?_|refine wC gT' ?_|refine wC gU ?_|(refine wH ?_;clear hK)));refine wN fun b3=>?_;(repeat(first|refine wDB ?_|refine awp_seq_k fun K hK=>?_|refine wC gO ?_|refine wC gM ?_|refine wC gS ?_|refine wC gT' ?_|refine wC gU ?_|(refine wH ?_;clear hK)));refine wN fun b5=>?_;(repeat(first|refine wDB ?_|refine awp_seq_k fun K hK=>?_|refine wN fun bx=>?_|refine wC gO ?_|refine wC gM ?_|refine wC gS ?_|refine wC gT' ?_|refine wC gU ?_|(refine wH ?_;clear hK))))
    refine r1 ?_
    exact Sub.of_eq (by rw[e])
   |false=>
    rw[hx]at e gT'
    cases hy:(sumS false l (d.by'.map pz) l.length).2 with
    |true=>
     rw[hy,Bool.not_true,Bool.and_false]at e
     rw[hy]at gU
     ((repeat(first|refine wDB ?_|refine awp_seq_k fun K hK=>?_|refine wC gO ?_|refine wC gM ?_|refine wC gS ?_|refine wC gT' ?_|refine wC gU ?_|(refine wH ?_;clear hK)));refine wN fun b3=>?_;(repeat(first|refine wDB ?_|refine awp_seq_k fun K hK=>?_|refine wC gO ?_|refine wC gM ?_|refine wC gS ?_|refine wC gT' ?_|refine wC gU ?_|(refine wH ?_;clear hK)));refine wN fun b5=>?_;(repeat(first|refine wDB ?_|refine awp_seq_k fun K hK=>?_|refine wN fun bx=>?_|refine wC gO ?_|refine wC gM ?_|refine wC gS ?_|refine wC gT' ?_|refine wC gU ?_|(refine wH ?_;clear hK))))
     refine r1 ?_
     exact Sub.of_eq (by rw[e])
    |false=>
     rw[hy,Bool.not_false,Bool.and_true]at e
     rw[hy]at gU
     have l1:=pT.len
     have l2:40*40*l.length≤40*40*1000:=Nat.mul_le_mul_left _ hll
     have l3:=pU.len
     have gE:=r31same_c (timesS false (pz d.p) (numZ d.n.z)).1 (sumS false l (d.by'.map pz) l.length).1 2000 (by decide) (pT.ok.mono (by omega)) (pU.ok.mono (by omega)) (by omega) (by omega)
     ((repeat(first|refine wDB ?_|refine awp_seq_k fun K hK=>?_|refine wC gO ?_|refine wC gM ?_|refine wC gS ?_|refine wC gT' ?_|refine wC gU ?_|refine wC gE ?_|(refine wH ?_;clear hK)));refine wN fun b3=>?_;(repeat(first|refine wDB ?_|refine awp_seq_k fun K hK=>?_|refine wC gO ?_|refine wC gM ?_|refine wC gS ?_|refine wC gT' ?_|refine wC gU ?_|refine wC gE ?_|(refine wH ?_;clear hK)));refine wN fun b5=>?_;(repeat(first|refine wDB ?_|refine awp_seq_k fun K hK=>?_|refine wN fun bx=>?_|refine wC gO ?_|refine wC gM ?_|refine wC gS ?_|refine wC gT' ?_|refine wC gU ?_|refine wC gE ?_|(refine wH ?_;clear hK))))
     refine r1 ?_
     exact Sub.of_eq (by rw[e])
end Go.Proofs.YtkbdklmdcbmgkaaGreat
