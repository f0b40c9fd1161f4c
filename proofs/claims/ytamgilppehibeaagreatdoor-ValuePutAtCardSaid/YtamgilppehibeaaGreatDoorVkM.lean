/-
  The law's example: x1 x2^2 - 2 x1 + 1.
-/
import Derived.Test.YtamgilppehibeaaGreatDoorVlM
import Derived.Test.YtamgilppehibeaaGreatDoorVqM
import Derived.Test.YtamgilppehibeaaGreatDoorRdA
import Derived.Test.YtamgilppehibeaaGreatDoorNzM
set_option maxRecDepth 100000
set_option maxHeartbeats 12800000
namespace Go.Proofs.YtamgilppehibeaaGreatDoor
open Go.Ab Go.Lib
def xZ (v:Int):PZ:=[(1,[(v,1)])]
def negZ (p:PZ):PZ:=p.map fun t=>(-t.1,t.2)
def smZ (n:Int):PZ:=putZ n [] []
theorem cbX8:Callable Tryz.prog 33:=fun _ _=>by kernel_rfl
theorem x8_c (v:Int):PCalls Tryz.prog 33 [.int .i64 v] (pZ (xZ v)):=by
 refine pcalls_of_awp tyok cbX8 Tryz.func33 rfl rfl ?_
 have g:=zSmall_c 1 (by decide) (by decide)
 repeat(first|refine wDB ?_|refine awp_seq_k fun K hK=>?_|refine wN fun bx=>?_|refine wC g ?_|(refine wH ?_;clear hK))
 refine r1 ?_
 exact oneS tZ (1,[(v,1)]) (.cons (Sub.refl _) (.cons (Sub.refl _) (.cons (oneS encP (v,1) (SubL.refl _)) .nil)))
theorem cbSmall8:Callable Tryz.prog 37:=fun _ _=>by kernel_rfl
theorem small8_c (n:Int) (hn:ZOk 1 n) (h1: -9223372036854775808≤n) (h2:n≤9223372036854775807):PCalls Tryz.prog 37 [.int .i64 n] (pZ (smZ n)):=by
 refine pcalls_of_awp tyok cbSmall8 Tryz.func37 rfl rfl ?_
 have g:=zSmall_c n h1 h2
 have g2:=(r8put_c [] n [] 1 (by decide) (canK_nil 1) hn rfl (by decide)).sub (vs:=[.nils,.agg (zE n),.nils]) (.cons (Sub.nilsv _ _) (.cons (Sub.refl _) (.cons (Sub.nilsv _ _) .nil)))
 repeat(first|refine wDB ?_|refine awp_seq_k fun K hK=>?_|refine wN fun bx=>?_|refine wC g ?_|refine wC g2 ?_|(refine wH ?_;clear hK))
 refine r1 ?_
 exact Sub.refl _
theorem cbNeg8:Callable Tryz.prog 89:=fun _ _=>by kernel_rfl
theorem rpneg_c (p:PZ) (hl:p.length≤400000000):PCalls Tryz.prog 89 [pZ p] (pZ (negZ p)):=by
 refine pcalls_of_awp tyok cbNeg8 Tryz.func89 rfl rfl ?_
 repeat(first|refine wDB ?_|refine awp_seq_k fun K hK=>?_|refine wN fun bx=>?_|(refine wH ?_;clear hK))
 refine awp_tok0 3 100 ?_
 refine awp_loopP (ι:={y:TimS//y.i≤p.length}) (fun y=>[(0,pZ p),(3,sl tZ 3 (negZ (p.take y.1.i)) (.own y.1.a y.1.cp)),(4,.int .i64 y.1.i)])
  (fun y=>[.tok y.1.a y.1.cp (negZ (p.take y.1.i)).length 3 100]) (fun y=>p.length-y.1.i) ⟨⟨0,none,0⟩,Nat.zero_le _⟩ wk qpm ?_
 rintro⟨⟨i,ad,cp⟩,hi⟩
 simp only at hi ⊢
 by_cases hlt:i<p.length
 rotate_left
 ·have hge:¬(i:Int)<p.length:=by omega
  obtain rfl:i=p.length:=by omega
  rw[List.take_length]
  repeat(first|refine wDB ?_|refine awp_seq_k fun K hK=>?_|refine wN fun bx=>?_|(refine wH ?_;clear hK))
  refine r1 ?_
  exact Sub.view _ _ _ _
 have hlt':(i:Int)<p.length:=by omega
 have g1:=zNeg_c (p.getD i default).1
 have hs:negZ (p.take (i+1))=negZ (p.take i)++[(-(p.getD i default).1,(p.getD i default).2)]:=by
  unfold negZ
  rw[take_snoc hlt,List.map_append]
  rfl
 have hol:(negZ (p.take i)).length≤400000000:=by
  unfold negZ
  rw[List.length_map,List.length_take]
  omega
 repeat(first|refine wKB ?_|refine awp_seq_k fun K hK=>?_|refine wN fun bx=>?_|(refine wH ?_;clear hK))
 refine areg_soft mixed tyok [6] [(13,[]),(14,[])] [0,1,2,3,4,5,7,8,9,10,11,6,12,13,14,15] (by decide +kernel) ?_
 repeat(first|refine wDB ?_|refine awp_seq_k fun K hK=>?_|refine wN fun bx=>?_|refine wC g1 ?_|(refine wH ?_;clear hK))
 refine qapp tyok tZ (negZ (p.take i)) (-(p.getD i default).1,(p.getD i default).2) (SubL.refl _) ?_ fun ad3 cp3=>?_
 ·simp only
  omega
 rw[←hs]
 repeat(first|refine wDB ?_|refine awp_seq_k fun K hK=>?_|refine wN fun bx=>?_|(refine wH ?_;clear hK))
 exact⟨⟨⟨i+1,ad3,cp3⟩,hlt⟩,wk,qpm,by simp only;omega⟩
theorem cbSub8:Callable Tryz.prog 35:=fun _ _=>by kernel_rfl
theorem rpsub_c (p q:PZ) (k:Nat) (hk:k+1≤1000000) (hp:CanK k p) (hq:∀t∈q,may t.2=true∧ZOk k t.1) (hl:p.length+q.length≤400000000):PCalls Tryz.prog 35 [pZ p,pZ q] (pZ (addZ p (negZ q))):=by
 refine pcalls_of_awp tyok cbSub8 Tryz.func35 rfl rfl ?_
 have g1:=rpneg_c q (by omega)
 have g2:=rpadd_c p (negZ q) k hk hp (fun t ht=>by
  obtain⟨u,hu,rfl⟩:=List.mem_map.1 ht
  exact⟨(hq u hu).1,(hq u hu).2.neg⟩) (by unfold negZ;rw[List.length_map];omega)
 repeat(first|refine wDB ?_|refine awp_seq_k fun K hK=>?_|refine wN fun bx=>?_|refine wC g1 ?_|refine wC g2 ?_|(refine wH ?_;clear hK))
 refine r1 ?_
 exact Sub.refl _
theorem cbMul8:Callable Tryz.prog 36:=fun _ _=>by kernel_rfl
theorem rpmul_c (a b:PZ) (j k:Nat) (hk:j+k+1≤1000000) (ha:CanK j a) (hb:CanK k b) (hw:a.length*b.length≤16777216) (hla:a.length≤1000000000) (hlb:b.length≤1000000000):
  PCalls Tryz.prog 36 [pZ a,pZ b] (pZ (tmZ a b).1):=by
 refine pcalls_of_awp tyok cbMul8 Tryz.func36 rfl rfl ?_
 have g:=rptimes_c a b j k hk ha hb hw hla hlb
 repeat(first|refine wDB ?_|refine awp_seq_k fun K hK=>?_|refine wN fun bx=>?_|refine wC g ?_|(refine wH ?_;clear hK))
 refine r1 ?_
 exact Sub.refl _
end Go.Proofs.YtamgilppehibeaaGreatDoor
namespace Go.Proofs.YtamgilppehibeaaGreatDoor
open Go.Ab Go.Lib
def pK:PZ:=[(1,[(1,1),(2,2)]),(-2,[(1,1)]),(1,[])]
def sK:List UInt8:=[120,49,42,120,50,94,50,45,50,42,120,49,43,49]
theorem k_text:textP (pK.map zR)=sK:=by kernel_rfl
theorem k_parse:parseV sK=(pK.map zR,0):=by kernel_rfl
theorem k_no:parseV [49,42,120,49]=([],4):=by kernel_rfl
theorem k_may:mayP (pK.map zR)=true:=by decide +kernel
theorem k_m1:(tmZ (xZ 2) (xZ 2)).1=[(1,[(2,2)])]:=by kernel_rfl
theorem k_m2:(tmZ (xZ 1) [(1,[(2,2)])]).1=[(1,[(1,1),(2,2)])]:=by kernel_rfl
theorem k_m3:(tmZ (smZ 2) (xZ 1)).1=[(2,[(1,1)])]:=by kernel_rfl
theorem k_s:addZ [(1,[(1,1),(2,2)])] (negZ [(2,[(1,1)])])=[(1,[(1,1),(2,2)]),(-2,[(1,1)])]:=by kernel_rfl
theorem k_a:addZ [(1,[(1,1),(2,2)]),(-2,[(1,1)])] (smZ 1)=pK:=by kernel_rfl
theorem k_val:evZ (rhoR [ratC (1/2),ratC 3]) (pz (pK.map zR))=9/2:=by decide +kernel
theorem k_same:sameP8 (pK.map zR) (pK.map zR)=true:=by decide +kernel
theorem k_class:classP (pK.map zR)≤2:=by decide +kernel
theorem k_half:(⟨1,2⟩:QR).q=1/2:=by decide +kernel
theorem k_three:(⟨3,1⟩:QR).q=3:=by decide +kernel
theorem k_nine:(⟨9,2⟩:QR).q=9/2:=by decide +kernel
theorem can1 {p:PZ} (hm:∀t∈p,may t.2=true) (ho:p.Pairwise fun s t=>0<ordM s.2 t.2) (hn:∀t∈p,t.1≠0) (hb:∀t∈p,t.1.natAbs<4294967296):CanK 1 p:=⟨⟨hn,hm,ho⟩,fun t ht=>ZOk.small (hb t ht)⟩
theorem kn_x (v:Int) (h1:1≤v) (h2:v≤2):CanK 1 (xZ v):=by
 have hv:v=1∨v=2:=by omega
 rcases hv with rfl|rfl
 ·exact can1 (by decide) (List.pairwise_singleton _ _) (by decide) (by decide)
 ·exact can1 (by decide) (List.pairwise_singleton _ _) (by decide) (by decide)
theorem rats2 (a b:Rat):Sub (.slice 4 2 (chunk (ratEs (ratC a)++ratEs (ratC b)) 4) .full) (ratsV [ratC a,ratC b]):=
 (Sub.view _ _ _ _).trans (Sub.els fun i hi=>match i,hi with
   |0,_=>SubL.refl _
   |1,_=>SubL.refl _)
theorem cbKnown10:Callable Tryz.prog 9:=fun _ _=>by kernel_rfl
theorem known10_c:PCalls Tryz.prog 9 [] (.bool true):=by
 refine pcalls_of_awp tyok cbKnown10 Tryz.func9 rfl rfl ?_
 have x1:=x8_c 1
 have x2:=x8_c 2
 have c2:CanK 1 (smZ 2):=can1 (by decide) (List.pairwise_singleton _ _) (by decide) (by decide)
 have cyy:CanK 1 ([(1,[(2,2)])]:PZ):=can1 (by decide) (List.pairwise_singleton _ _) (by decide) (by decide)
 have c3:CanK 1 ([(1,[(1,1),(2,2)])]:PZ):=can1 (by decide) (List.pairwise_singleton _ _) (by decide) (by decide)
 have c4:CanK 1 ([(1,[(1,1),(2,2)]),(-2,[(1,1)])]:PZ):=can1 (by decide) (by decide +kernel) (by decide) (by decide)
 have gm1:=rpmul_c (xZ 2) (xZ 2) 1 1 (by decide) (kn_x 2 (by decide) (by decide)) (kn_x 2 (by decide) (by decide)) (by decide) (by decide) (by decide)
 rw[k_m1]at gm1
 have gm2:=rpmul_c (xZ 1) [(1,[(2,2)])] 1 1 (by decide) (kn_x 1 (by decide) (by decide)) cyy (by decide) (by decide) (by decide)
 rw[k_m2]at gm2
 have gs2:=small8_c 2 (ZOk.small (by decide)) (by decide) (by decide)
 have gm3:=rpmul_c (smZ 2) (xZ 1) 1 1 (by decide) c2 (kn_x 1 (by decide) (by decide)) (by decide) (by decide) (by decide)
 rw[k_m3]at gm3
 have gsub:=rpsub_c [(1,[(1,1),(2,2)])] [(2,[(1,1)])] 1 (by decide) c3 (fun t ht=>by rw[List.mem_singleton.1 ht];exact⟨by decide,ZOk.small (by decide)⟩) (by decide)
 rw[k_s]at gsub
 have gs1:=small8_c 1 (ZOk.small (by decide)) (by decide) (by decide)
 have gadd:=rpadd_c [(1,[(1,1),(2,2)]),(-2,[(1,1)])] (smZ 1) 1 (by decide) c4 (fun t ht=>by rw[List.mem_singleton.1 ht];exact⟨by decide,ZOk.small (by decide)⟩) (by decide)
 rw[k_a]at gadd
 have gpoly:=rppoly_c pK 1 (by decide) (by unfold pK;intro t ht;simp at ht;rcases ht with rfl|rfl|rfl<;>exact ZOk.small (by decide)) (by decide) (by decide)
 have h12:=qSmall_c 1 2 (by decide) (by decide) (by decide) (by decide)
 have h31:=qSmall_c 3 1 (by decide) (by decide) (by decide) (by decide)
 have h92:=qSmall_c 9 2 (by decide) (by decide) (by decide) (by decide)
 have r12:=qRat_c 1 ⟨1,2⟩ (by decide) ⟨ZOk.small (by decide),ZOk.small (by decide),by decide⟩
 have r31:=qRat_c 1 ⟨3,1⟩ (by decide) ⟨ZOk.small (by decide),ZOk.small (by decide),by decide⟩
 have r92:=qRat_c 1 ⟨9,2⟩ (by decide) ⟨ZOk.small (by decide),ZOk.small (by decide),by decide⟩
 rw[k_half]at r12
 rw[k_three]at r31
 rw[k_nine]at r92
 have kc:∀t∈pK.map zR,LimOk 1 t.c.mag∧t.m.length≤2∧∀w∈t.m,w.2≤2:=by
  unfold pK
  intro t ht
  simp at ht
  rcases ht with rfl|rfl|rfl<;>exact⟨LimOk.digs (show _<B32^1 by decide),by decide,by decide⟩
 have kl:(pK.map zR).length=3:=rfl
 have kok:PolyOk 1000000 (pK.map zR):=⟨by decide,fun t ht=>⟨LimOk.mono (kc t ht).1 (by decide),Nat.le_trans (kc t ht).2.1 (by decide)⟩⟩
 have ktx:TxB (pK.map zR):=⟨by decide,fun t ht=>LimOk.mono (kc t ht).1 (by decide)⟩
 have kq:∀x∈[ratC (1/2),ratC 3],RatOk (0+1) x:=by
  intro x hx
  simp at hx
  rcases hx with rfl|rfl
  ·exact ratC_ok ⟨ZOk.small (by decide +kernel),show(1/2:Rat).den<B32^1 by decide +kernel⟩
  ·exact ratC_ok ⟨ZOk.small (by decide),show(3:Rat).den<B32^1 by decide⟩
 have gAt:=(vat_c (pK.map zR) [ratC (1/2),ratC 3] 1 2 2 0 kok ⟨fun t ht=>(kc t ht).1,fun t ht=>(kc t ht).2.1,fun t ht=>(kc t ht).2.2⟩ (by decide) kq (by decide) k_may k_class (by decide) (by decide) (by decide)).sub (vs:=[polyZ pK,.slice 4 2 (chunk (ratEs (ratC (1/2))++ratEs (ratC 3)) 4) .full]) (.cons (Sub.refl _) (.cons (rats2 _ _) .nil))
 rw[k_val]at gAt
 have gP1:=vparse_c sK (by decide) (short_tx (by decide))
 rw[k_parse]at gP1
 have gP2:=vparse_c [49,42,120,49] (by decide) (short_tx (by decide))
 rw[k_no]at gP2
 have gT1:=vtext_c (pK.map zR) ktx k_may
 rw[k_text]at gT1
 have gT0:=(vtext_c [] ⟨by decide,fun t ht=>absurd ht List.not_mem_nil⟩ rfl).sub (vs:=[.nils]) (.cons (Sub.nilsv _ _) .nil)
 rw[show textP []=[48] from rfl]at gT0
 have gSm:=rpsame_c (pK.map zR) (pK.map zR) (kok.mono (by decide)) (kok.mono (by decide))
 rw[k_same]at gSm
 have n92:RatOk 1000000000 (ratC (9/2)):=(ratC_ok (k:=1) ⟨ZOk.small (by decide +kernel),show(9/2:Rat).den<B32^1 by decide +kernel⟩).mono' (by decide)
 have gQs:=qSame_c (ratC (9/2)) (ratC (9/2)) n92 n92
 rw[sameR_C,decide_eq_true rfl]at gQs
 unfold sK at gP1 gT1
 ((repeat(first|refine wKB ?_|refine awp_seq_k fun K hK=>?_|refine wC x1 ?_|refine wC x2 ?_|refine wC gm1 ?_|refine wC gm2 ?_|refine wC gs2 ?_|refine wC gm3 ?_|refine wC gsub ?_|refine wC gs1 ?_|refine wC gadd ?_|refine wC gpoly ?_|refine wC h12 ?_|refine wC h31 ?_|refine wC r12 ?_|refine wC r31 ?_|refine wC gAt ?_|refine wC gP1 ?_|refine wC gP2 ?_|(refine wH ?_;clear hK)));refine wN fun b4=>?_;(repeat(first|refine wKB ?_|refine awp_seq_k fun K hK=>?_|refine wN fun bx=>?_|refine wC x1 ?_|refine wC x2 ?_|refine wC gm1 ?_|refine wC gm2 ?_|refine wC gs2 ?_|refine wC gm3 ?_|refine wC gsub ?_|refine wC gs1 ?_|refine wC gadd ?_|refine wC gpoly ?_|refine wC h12 ?_|refine wC h31 ?_|refine wC r12 ?_|refine wC r31 ?_|refine wC gAt ?_|refine wC gP1 ?_|refine wC gP2 ?_|(refine wH ?_;clear hK))))
 refine areg_soft mixed tyok [4,5,6,10,14,24] [] [0,1,2,3,4,5,6,7,8,9,10,11,12,13,14,15,16,17,18,19,20,21,22,23,24,25,26,27,28,29,30] (by decide +kernel) ?_
 repeat(first|refine wDE ?_|refine awp_seq_k fun K hK=>?_|refine wN fun bx=>?_|refine wC h92 ?_|refine wC r92 ?_|refine wC gQs ?_|refine wC gT1 ?_|refine wC gT0 ?_|refine wC gSm ?_|(refine wH ?_;clear hK))
 refine r1 ?_
 exact Sub.refl _
end Go.Proofs.YtamgilppehibeaaGreatDoor
namespace Go.Proofs.YtamgilppehibeaaGreatDoor
open Go.Ab Go.Lib
end Go.Proofs.YtamgilppehibeaaGreatDoor
