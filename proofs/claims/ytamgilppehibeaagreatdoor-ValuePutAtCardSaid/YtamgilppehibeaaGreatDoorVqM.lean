/-
  Package value: Parse.
-/
import Derived.Test.YtamgilppehibeaaGreatDoorVpM
import Derived.Test.YtamgilppehibeaaGreatDoorTl1
import Derived.Test.YtamgilppehibeaaGreatDoorAbF
set_option maxRecDepth 100000
set_option maxHeartbeats 12800000
namespace Go.Proofs.YtamgilppehibeaaGreatDoor
open Go.Ab Go.Lib
theorem split_nil:Lib.split [] [42]=[[]]:=by decide
theorem termF_lt {s r:List UInt8} {t:TermR} (h0:s≠[]) (h:termF s=some (t,r)):r.length<s.length:=by
 have hpos:=List.length_pos_iff.2 h0
 unfold termF at h
 by_cases hu:untilF (frontF s)=0
 ·rw[hu,List.take_zero,split_nil]at h
  have hn:partF true (⟨false,digs B32 1⟩,[]) [[]]=none:=by
   rw[partF,if_neg (by decide)]
   rfl
  rw[hn]at h
  cases h
 ·cases hp:partF true (⟨false,digs B32 1⟩,[]) (Lib.split ((frontF s).take (untilF (frontF s))) [42])with
  |none=>rw[hp]at h;cases h
  |some x=>
   rw[hp]at h
   cases h
   have:=frontF_le s
   rw[List.length_drop]
   omega
theorem cbVp1:Callable Tryz.prog 47:=fun _ _=>by kernel_rfl
theorem vp1_none (b2 b3:Nat) (H:AHeap) (R:AHeap→Prop) (hR:R H):DCalls Tryz.prog 47 (ptrsOf [(b2,0),(b3,0)]) none H R:=by
 refine dcalls_of_awp2 cbVp1 Tryz.func47 rfl rfl rfl rfl rfl rfl rfl rfl rfl rfl rfl ?_
 repeat(first|refine wD ?_|refine awp_seq_k fun K hK=>?_|refine wN fun bx=>?_|(refine wH ?_;clear hK))
 exact⟨rfl,hR⟩
theorem vp1_some (b2 b3:Nat) (G H:AHeap) (outs:List TermR) (a:Option Addr) (cap:Nat) (e0:Int) (R:AHeap→Prop) (hp:H.Perm (.box b2 23 (sl termE 3 outs (.own a cap))::.box b3 28 (.int .i64 e0)::G)) (hR:∀b,R (.box b 91 (.agg [])::.box b2 23 .nils::.box b3 28 (.int .i64 4)::G)):
  DCalls Tryz.prog 47 (ptrsOf [(b2,0),(b3,0)]) (some wrongV) H R:=by
 refine dcalls_of_awp2 cbVp1 Tryz.func47 rfl rfl rfl rfl rfl rfl rfl rfl rfl rfl rfl ?_
 refine awp_perm hp ?_
 unfold wrongV
 repeat(first|refine wD ?_|refine awp_seq_k fun K hK=>?_|refine wN fun bx=>?_|(refine wH ?_;clear hK))
 refine qta tyok ?_
 ((repeat(first|refine wD ?_|refine awp_seq_k fun K hK=>?_|(refine wH ?_;clear hK)));refine wN fun b=>?_;(repeat(first|refine wD ?_|refine awp_seq_k fun K hK=>?_|refine wN fun bx=>?_|(refine wH ?_;clear hK))))
 exact⟨rfl,hR b⟩
structure PrI (s:List UInt8) (acc:List TermR) (rest:List UInt8):Prop where
 le:acc.length+rest.length≤s.length
 eq:∃n,rest.length≤n∧termsF s.length s=(termsF n rest).map (acc++ ·)
theorem PrI.done {s:List UInt8} {acc:List TermR} (h:PrI s acc []):termsF s.length s=some acc:=by
 obtain⟨n,-,e⟩:=h.eq
 have h0:termsF n []=some []:=by cases n<;>rfl
 rw[e,h0,Option.map_some,List.append_nil]
theorem PrI.none {s rest:List UInt8} {acc:List TermR} (h:PrI s acc rest) (h0:rest≠[]) (hF:termF rest=none):termsF s.length s=none:=by
 obtain⟨n,hn,e⟩:=h.eq
 have hpos:=List.length_pos_iff.2 h0
 cases n with
 |zero=>omega
 |succ n=>
  rw[e,termsF,if_neg h0,hF]
  rfl
theorem PrI.step {s rest r:List UInt8} {acc:List TermR} {t:TermR} (h:PrI s acc rest) (h0:rest≠[]) (hF:termF rest=some (t,r)):PrI s (acc++[t]) r:=by
 have hlt:=termF_lt h0 hF
 obtain⟨n,hn,e⟩:=h.eq
 have hle:=h.le
 refine⟨by rw[List.length_append];simp only[List.length_singleton];omega,?_⟩
 cases n with
 |zero=>omega
 |succ n=>
  refine⟨n,by omega,?_⟩
  rw[e,termsF,if_neg h0,hF,Option.bind_some]
  cases termsF n r with
  |none=>rfl
  |some q=>simp
theorem cbVParse:Callable Tryz.prog 12:=fun _ _=>by kernel_rfl
theorem vparse_c (s:List UInt8) (hs:s.length≤20000) (hT:∀p,termsF s.length s=some p→TxB p∧∀t∈p,t.m.length≤400000):PCalls Tryz.prog 12 [.str s] (.tuple [polyV (parseV s).1,.int .i64 (parseV s).2]):=by
 refine acalls_of_fwp cbVParse Tryz.func12 rfl rfl ?_
 have hng:¬(s.length:Int)>65536:=by omega
 have hng':¬65536<s.length:=by omega
 have gM:=must_ok
 refine fwp_seq_k tyok (fun K hK=>?_)
 ((repeat(first|refine wD ?_|refine awp_seq_k fun K hK=>?_|(refine wH ?_;clear hK)));refine wN fun b2=>?_;(repeat(first|refine wD ?_|refine awp_seq_k fun K hK=>?_|(refine wH ?_;clear hK)));refine wN fun b3=>?_;(repeat(first|refine wD ?_|refine awp_seq_k fun K hK=>?_|refine wN fun bx=>?_|(refine wH ?_;clear hK))))
 refine fwp_defer tyok [(b2,0),(b3,0)] rfl rfl rfl rfl rfl rfl rfl cbVp1 rfl ?_
 refine awp_boxSub [_] (v':=sl termE 3 [] (.own none 0)) (Sub.nilso _ _) ?_
 refine awp_tok0 3 70 ?_
 by_cases h0:s=[]
 ·subst h0
  have hp:parseV []=([],4):=rfl
  rw[hp]
  repeat(first|refine wDB ?_|refine awp_seq_k fun K hK=>?_|refine wN fun bx=>?_|(refine wH ?_;clear hK))
  refine qpan must_no ?_
  repeat(first|refine wD ?_|refine awp_seq_k fun K hK=>?_|refine wN fun bx=>?_|(refine wH ?_;clear hK))
  refine vp1_some b2 b3 [_] _ [] none 0 0 _ (List.reverse_perm [_,_,_]) fun b=>?_
  refine⟨4,_,_,.cell rfl rfl (List.Mem.tail _ (List.Mem.head _)) rfl trivial (.cell rfl rfl (List.Mem.tail _ (List.Mem.tail _ (List.Mem.head _))) rfl trivial .nil),?_,rfl,rfl⟩
  exact(Sub.of_eq (rfl:_=AV.tuple [.nils,.int .i64 4])).trans (Sub.tuple2 (Sub.nilsv _ _) (Sub.refl _))
 by_cases h48:s=[48]
 ·subst h48
  have hp:parseV [48]=([],0):=rfl
  rw[hp]
  repeat(first|refine wDB ?_|refine awp_seq_k fun K hK=>?_|refine wN fun bx=>?_|refine wC gM ?_|(refine wH ?_;clear hK))
  refine vp1_none b2 b3 _ _ ?_
  refine⟨3,_,_,.cell rfl rfl (List.Mem.tail _ (List.Mem.tail _ (List.Mem.head _))) rfl trivial (.cell rfl rfl (List.Mem.tail _ (List.Mem.head _)) rfl trivial .nil),?_,rfl,rfl⟩
  exact(Sub.of_eq (rfl:_=AV.tuple [.nils,.int .i64 0])).trans (Sub.tuple2 (Sub.nilsv _ _) (Sub.refl _))
 have hpV:parseV s=match termsF s.length s with
  |some p=>if mayP p=true∧textP p=s then(p,0) else([],4)
  |none=>([],4):=by
  unfold parseV
  rw[if_neg hng',if_neg h0,if_neg h48]
  rfl
 have hne:(s !=[])=true:=bne_iff_ne.2 h0
 have hn48:(s==[48])=false:=beq_eq_false_iff_ne.2 h48
 ((repeat(first|refine wDB ?_|refine awp_seq_k fun K hK=>?_|refine wC gM ?_|(refine wH ?_;clear hK)));refine wN fun b16=>?_;(repeat(first|refine wDB ?_|refine awp_seq_k fun K hK=>?_|refine wN fun bx=>?_|refine wC gM ?_|(refine wH ?_;clear hK))))
 refine awp_loop0 (ι:={y:List TermR×List UInt8×Option Addr×Nat//PrI s y.1 y.2.1}) (fun y=>[(0,.str s),(2,.ptr b2 0),(3,.ptr b3 0),(4,.ptr b16 0)])
  (fun y=>[rdrB b16 y.1.2.1,.tok y.1.2.2.1 y.1.2.2.2 y.1.1.length 3 70,.box b3 28 (.int .i64 0),.box b2 23 (sl termE 3 y.1.1 (.own y.1.2.2.1 y.1.2.2.2))])
  (fun y=>y.1.2.1.length) ⟨([],s,none,0),by simp,s.length,Nat.le_refl _,by cases termsF s.length s<;>simp⟩ wk ⟨0,rfl⟩ ?_
 rintro⟨⟨acc,rest,a,cp⟩,hI⟩
 have hle:=hI.le
 simp only at hI hle ⊢
 by_cases hr:rest=[]
 ·subst hr
  have hd:=hI.done
  obtain⟨tx,tm⟩:=hT acc hd
  rw[hd]at hpV
  simp only at hpV
  have gMay:=(pmay_c acc ((tx.ok tm).mono (by decide))).sub (vs:=[sl termE 3 acc (.own a cp)]) (.cons (Sub.view _ _ _ _) .nil)
  cases hm:mayP acc with
  |false=>
   rw[hm]at gMay
   have hres:parseV s=([],4):=by rw[hpV,if_neg (by rw[hm];exact fun e=>Bool.noConfusion e.1)]
   repeat(first|refine wDB ?_|refine awp_seq_k fun K hK=>?_|refine wN fun bx=>?_|refine wC gMay ?_|(refine wH ?_;clear hK))
   refine qpan must_no ?_
   repeat(first|refine wD ?_|refine awp_seq_k fun K hK=>?_|refine wN fun bx=>?_|(refine wH ?_;clear hK))
   refine vp1_some b2 b3 [_,_] _ acc a cp 0 _ (List.reverse_perm [_,_,_,_]) fun b=>?_
   refine⟨5,_,_,.cell rfl rfl (List.Mem.tail _ (List.Mem.head _)) rfl trivial (.cell rfl rfl (List.Mem.tail _ (List.Mem.tail _ (List.Mem.head _))) rfl trivial .nil),?_,rfl,rfl⟩
   rw[hres]
   exact(Sub.of_eq (rfl:_=AV.tuple [.nils,.int .i64 4])).trans (Sub.tuple2 (Sub.nilsv _ _) (Sub.refl _))
  |true=>
   rw[hm]at gMay
   have gX:=(vtext_c acc tx hm).sub (vs:=[sl termE 3 acc (.own a cp)]) (.cons (Sub.view _ _ _ _) .nil)
   by_cases he:textP acc=s
   ·have hres:parseV s=(acc,0):=by rw[hpV,if_pos ⟨hm,he⟩]
    rw[he]at gX
    repeat(first|refine wDE ?_|refine awp_seq_k fun K hK=>?_|refine wN fun bx=>?_|refine wC gMay ?_|refine wC gX ?_|refine wC gM ?_|(refine wH ?_;clear hK))
    refine vp1_none b2 b3 _ _ ?_
    refine⟨4,_,_,.cell rfl rfl (List.Mem.tail _ (List.Mem.tail _ (List.Mem.tail _ (List.Mem.head _)))) rfl trivial (.cell rfl rfl (List.Mem.tail _ (List.Mem.tail _ (List.Mem.head _))) rfl trivial .nil),?_,rfl,rfl⟩
    rw[hres]
    exact(Sub.of_eq (rfl:_=AV.tuple [sl termE 3 acc (.own a cp),.int .i64 0])).trans (Sub.tuple2 (Sub.view _ _ _ _) (Sub.refl _))
   ·have hres:parseV s=([],4):=by rw[hpV,if_neg fun e=>he e.2]
    have hb:(textP acc==s)=false:=beq_eq_false_iff_ne.2 he
    repeat(first|refine wDB ?_|refine awp_seq_k fun K hK=>?_|refine wN fun bx=>?_|refine wC gMay ?_|refine wC gX ?_|(refine wH ?_;clear hK))
    refine qpan must_no ?_
    repeat(first|refine wD ?_|refine awp_seq_k fun K hK=>?_|refine wN fun bx=>?_|(refine wH ?_;clear hK))
    refine vp1_some b2 b3 [_,_] _ acc a cp 0 _ (List.reverse_perm [_,_,_,_]) fun b=>?_
    refine⟨5,_,_,.cell rfl rfl (List.Mem.tail _ (List.Mem.head _)) rfl trivial (.cell rfl rfl (List.Mem.tail _ (List.Mem.tail _ (List.Mem.head _))) rfl trivial .nil),?_,rfl,rfl⟩
    rw[hres]
    exact(Sub.of_eq (rfl:_=AV.tuple [.nils,.int .i64 4])).trans (Sub.tuple2 (Sub.nilsv _ _) (Sub.refl _))
 have hlen:=List.length_pos_iff.2 hr
 have hrb:(rest !=[])=true:=bne_iff_ne.2 hr
 have gterm:=term_c rest hr (by omega) b16
 repeat(first|refine wKB ?_|refine awp_seq_k fun K hK=>?_|refine wN fun bx=>?_|(refine wH ?_;clear hK))
 refine areg_kept mixed tyok [(2,[96]),(3,[])] [0,1,2,3,4,5] (by decide +kernel) ?_
 repeat(first|refine wD ?_|refine awp_seq_k fun K hK=>?_|refine wN fun bx=>?_|(refine wH ?_;clear hK))
 cases hF:termF rest with
 |none=>
  have hres:parseV s=([],4):=by rw[hpV,hI.none hr hF]
  rw[hF]at gterm
  refine TR.hcall (Hc:=[rdrB b16 rest]) rfl rfl rfl True.intro rfl rfl (List.Perm.refl _) gterm (fun v H' hK=>?_) (fun v H' hK=>?_) (fun v H' hK=>?_)
  ·cases hK.1
  ·obtain⟨e1,rfl⟩:=hK
   cases e1
   repeat(first|refine wD ?_|refine awp_seq_k fun K hK=>?_|refine wN fun bx=>?_|(refine wH ?_;clear hK))
   refine vp1_some b2 b3 [_] _ acc a cp 0 _ (List.reverse_perm [_,_,_]) fun b=>?_
   refine⟨4,_,_,.cell rfl rfl (List.Mem.tail _ (List.Mem.head _)) rfl trivial (.cell rfl rfl (List.Mem.tail _ (List.Mem.tail _ (List.Mem.head _))) rfl trivial .nil),?_,rfl,rfl⟩
   rw[hres]
   exact(Sub.of_eq (rfl:_=AV.tuple [.nils,.int .i64 4])).trans (Sub.tuple2 (Sub.nilsv _ _) (Sub.refl _))
  ·cases hK.1
 |some x=>
  rw[hF]at gterm
  have hlt:=termF_lt hr hF
  have hnext:=hI.step hr hF
  refine TR.hcall (Hc:=[rdrB b16 rest]) rfl rfl rfl True.intro rfl rfl (List.Perm.refl _) gterm (fun v H' hK=>?_) (fun v H' hK=>?_) (fun v H' hK=>?_)
  ·obtain⟨e1,rfl⟩:=hK
   cases e1
   repeat(first|refine wD ?_|refine awp_seq_k fun K hK=>?_|refine wN fun bx=>?_|(refine wH ?_;clear hK))
   refine qapp tyok termE acc x.1 (SubL.refl _) ?_ fun ad cp2=>?_
   ·simp only
    omega
   repeat(first|refine wD ?_|refine awp_seq_k fun K hK=>?_|refine wN fun bx=>?_|(refine wH ?_;clear hK))
   exact⟨⟨(acc++[x.1],x.2,ad,cp2),hnext⟩,wk,⟨0,rfl⟩,hlt⟩
  ·cases hK.1
  ·obtain⟨_,rfl⟩:=hK
   intro b' t' u' hk hm
   rcases List.mem_cons.1 hm with e|hm
   ·cases e
    exact absurd hk (by decide +kernel)
   ·exact List.mem_cons_of_mem _ hm
end Go.Proofs.YtamgilppehibeaaGreatDoor
namespace Go.Proofs.YtamgilppehibeaaGreatDoor
open Go.Ab Go.Lib
theorem ten_b32 {n k q:Nat} (h:n<10^k) (hk:k≤9*q):n<B32^q:=by
 refine Nat.lt_of_lt_of_le h (Nat.le_trans (Nat.pow_le_pow_right (by decide) hk) ?_)
 rw[Nat.pow_mul]
 exact Nat.pow_le_pow_left (by decide) _
theorem parseD_lt {x:List UInt8} {y:Bool×Nat} (h:parseD x=some y):y.2<10^x.length:=by
 rw[parseD_rest]at h
 have hb:(if decide (x.head?=some 45) then x.drop 1 else x).length≤x.length:=by
  split
  ·rw[List.length_drop]
   omega
  ·exact Nat.le_refl _
 generalize (if decide (x.head?=some 45) then x.drop 1 else x)=b at*
 unfold restD at h
 split at h
 ·cases h
 ·split at h
  ·rename_i ha
   cases h
   exact Nat.lt_of_lt_of_le (decV_lt (List.all_eq_true.1 ha)) (Nat.pow_le_pow_right (by decide) hb)
  ·cases h
def RdC (k:Nat) (c:IntR):Prop:=∃n,n<10^k∧c.mag=digs B32 n
theorem partF_bd {k:Nat} (hk:1≤k):∀{parts:List (List UInt8)} {fs:Bool} {x y:IntR×List Pw},(∀p∈parts,p.length≤k)→RdC k x.1→partF fs x parts=some y→RdC k y.1∧y.2.length≤x.2.length+parts.length
 |[],_,x,y,_,hx,h=>by
  rw[partF]at h
  cases h
  exact⟨hx,Nat.le_refl _⟩
 |p::parts,fs,x,y,hp,hx,h=>by
  have hp2:∀q∈parts,q.length≤k:=fun q hq=>hp q (List.mem_cons_of_mem _ hq)
  rw[partF]at h
  split at h
  ·cases hw:powersF p with
   |none=>rw[hw]at h;cases h
   |some w=>
    rw[hw,Option.bind_some]at h
    have ih:=partF_bd hk hp2 (x:=(x.1,x.2++[w])) hx h
    refine⟨ih.1,?_⟩
    have h2:=ih.2
    simp only[List.length_append,List.length_singleton]at h2
    rw[List.length_cons]
    omega
  ·cases hd:parseD p with
   |none=>rw[hd]at h;cases h
   |some z=>
    rw[hd,Option.bind_some]at h
    have hz:=Nat.lt_of_lt_of_le (parseD_lt hd) (Nat.pow_le_pow_right (by decide) (hp p (List.mem_cons_self ..)))
    have ih:=partF_bd hk hp2 (x:=(⟨z.1,digs B32 z.2⟩,x.2)) ⟨z.2,hz,rfl⟩ h
    refine⟨ih.1,?_⟩
    have h2:=ih.2
    rw[List.length_cons]
    simp only at h2
    omega
theorem termF_bd {k:Nat} (hk:1≤k) {s r:List UInt8} {t:TermR} (hs:s.length≤k) (h:termF s=some (t,r)):RdC k t.c∧t.m.length≤k+2:=by
 unfold termF at h
 have hcl:((frontF s).take (untilF (frontF s))).length≤k:=by
  have:=frontF_le s
  rw[List.length_take]
  omega
 obtain⟨h1,h2⟩:=split_len ((frontF s).take (untilF (frontF s))) 42
 cases hp:partF true (⟨false,digs B32 1⟩,[]) (Lib.split ((frontF s).take (untilF (frontF s))) [42])with
 |none=>rw[hp]at h;cases h
 |some x=>
  rw[hp]at h
  cases h
  have hb:=partF_bd hk (fun p hp=>Nat.le_trans (h1 p hp) hcl) (x:=(⟨false,digs B32 1⟩,[])) ⟨1,Nat.one_lt_pow (by omega) (by decide),rfl⟩ hp
  refine⟨hb.1,?_⟩
  have h3:=hb.2
  simp only[List.length_nil]at h3 ⊢
  omega
theorem termsF_bd {k:Nat} (hk:1≤k):∀{n:Nat} {s:List UInt8} {p:List TermR},s.length≤k→termsF n s=some p→p.length≤s.length∧∀t∈p,RdC k t.c∧t.m.length≤k+2
 |0,s,p,hs,h=>by
  rw[termsF]at h
  split at h
  ·cases h
   exact⟨Nat.zero_le _,fun t ht=>absurd ht List.not_mem_nil⟩
  ·cases h
 |n+1,s,p,hs,h=>by
  rw[termsF]at h
  split at h
  ·cases h
   exact⟨Nat.zero_le _,fun t ht=>absurd ht List.not_mem_nil⟩
  ·rename_i h0
   cases hF:termF s with
   |none=>rw[hF]at h;cases h
   |some x=>
    obtain⟨t,r⟩:=x
    rw[hF,Option.bind_some]at h
    have hlt:=termF_lt h0 hF
    cases hq:termsF n r with
    |none=>rw[hq]at h;cases h
    |some q=>
     rw[hq]at h
     cases h
     obtain⟨h1,h2⟩:=termsF_bd hk (s:=r) (by omega) hq
     refine⟨by rw[List.length_cons];omega,fun u hu=>?_⟩
     rcases List.mem_cons.1 hu with rfl|hu
     ·exact termF_bd hk hs hF
     ·exact h2 u hu
theorem short_tx {s:List UInt8} (hs:s.length≤900):∀p,termsF s.length s=some p→TxB p∧∀t∈p,t.m.length≤400000:=fun p h=>by
 obtain⟨h1,h2⟩:=termsF_bd (k:=900) (by decide) hs h
 refine⟨⟨by omega,fun t ht=>?_⟩,fun t ht=>Nat.le_trans (h2 t ht).2 (by decide)⟩
 obtain⟨n,hn,e⟩:=(h2 t ht).1
 rw[e]
 exact LimOk.digs (ten_b32 (q:=100) hn (by decide))
end Go.Proofs.YtamgilppehibeaaGreatDoor
