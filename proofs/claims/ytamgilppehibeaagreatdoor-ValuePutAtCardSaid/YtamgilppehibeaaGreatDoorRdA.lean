/-
  The document's polynomials (layer 8): which may be; a term put at its place.
-/
import Derived.Test.YtamgilppehibeaaGreatDoorPcM
import Derived.Test.YtamgilppehibeaaGreatDoorNzM
set_option maxRecDepth 100000
set_option maxHeartbeats 6400000
namespace Go.Proofs.YtamgilppehibeaaGreatDoor
open Go.Ab
def tZ (t:Int×List Pw):List AV:=zE t.1++[mono t.2]
abbrev pZ (p:PZ):AV:=sl tZ 3 p .view
theorem sameI_iff (x y:IntR):sameI x y=true↔x=y:=by
 obtain⟨n,a⟩:=x
 obtain⟨n',a'⟩:=y
 unfold sameI
 simp only[Bool.and_eq_true,beq_iff_eq,decide_eq_true_eq,IntR.mk.injEq]
theorem rordM_c {a b:List Pw} (ha:may a=true) (hb:may b=true):PCalls Tryz.prog 46 [mono a,mono b] (.int .i64 (ordM a b)):=by
 obtain⟨c,e,-⟩:=compare_tri ha hb
 have:=rcompare_c (may_short ha) (may_short hb) ha hb e
 unfold ordM
 rwa [e]
theorem putZ_split (c:Int) (m:List Pw):∀(p:PZ) (i:Nat),i≤p.length→(∀j,j<i→0<ordM (p.getD j default).2 m)→putZ c m p=p.take i++putZ c m (p.drop i)
 |_,0,_,_=>rfl
 |[],i+1,h,_=>absurd h (by simp)
 |t::p,i+1,h,hj=>by
  have h0:0<ordM t.2 m:=hj 0 (by omega)
  have ih:=putZ_split c m p i (by simpa using h) fun j hj'=>by
   have:=hj (j+1) (by omega)
   simpa using this
  rw[putZ,if_pos h0,ih]
  rfl
theorem putZ_at (c:Int) (m:List Pw) {p:PZ} {i:Nat} (hi:i<p.length) (hj:∀j,j<i→0<ordM (p.getD j default).2 m) (ho:¬0<ordM (p.getD i default).2 m):
  putZ c m p=p.take i++if ordM (p.getD i default).2 m=0 then(if c+(p.getD i default).1=0 then p.drop (i+1) else(c+(p.getD i default).1,m)::p.drop (i+1)) else if c=0 then p.drop i else(c,m)::p.drop i:=by
 rw[putZ_split c m p i (by omega) hj,drop_getD hi,putZ,if_neg ho]
theorem putZ_end (c:Int) (m:List Pw) {p:PZ} (hj:∀j,j<p.length→0<ordM (p.getD j default).2 m):putZ c m p=p++if c=0 then [] else [(c,m)]:=by
 rw[putZ_split c m p p.length (Nat.le_refl _) hj,List.take_length,List.drop_length,putZ]
theorem take_snoc {α:Type} [Inhabited α] {l:List α} {i:Nat} (hi:i<l.length):l.take (i+1)=l.take i++[l.getD i default]:=by
 rw[List.take_add_one,List.getD_eq_getElem?_getD,List.getElem?_eq_getElem hi]
 rfl
theorem dropEl {α:Type} [Inhabited α] (p:List α) (i j:Nat):(p.drop i).getD j default=p.getD (i+j) default:=by
 rw[List.getD_eq_getElem?_getD,List.getElem?_drop,List.getD_eq_getElem?_getD]
structure PutI (m:List Pw) (p:PZ) (y:TimS):Prop where
 le:y.i≤p.length
 up:∀j,j<y.i→0<ordM (p.getD j default).2 m
theorem cbR8Put:Callable Tryz.prog 53:=fun _ _=>by kernel_rfl
theorem r8put_c (p:PZ) (c:Int) (m:List Pw) (k:Nat) (hk:k≤1000000) (hp:CanK k p) (hc:ZOk k c) (hm:may m=true) (hl:p.length≤1000000000):PCalls Tryz.prog 53 [pZ p,.agg (zE c),mono m] (pZ (putZ c m p)):=by
 refine pcalls_of_awp tyok cbR8Put Tryz.func53 rfl rfl ?_
 ((repeat(first|refine wDB ?_|refine awp_seq_k fun K hK=>?_|(refine wH ?_;clear hK)));refine wN fun b4=>?_;(repeat(first|refine wDB ?_|refine awp_seq_k fun K hK=>?_|refine wN fun bx=>?_|(refine wH ?_;clear hK))))
 refine awp_tok0 3 100 ?_
 refine awp_loopP (ι:={y:TimS//PutI m p y}) (fun y=>[(0,pZ p),(2,mono m),(4,.ptr b4 0),(7,sl tZ 3 (p.take y.1.i) (.own y.1.a y.1.cp)),(8,.int .i64 y.1.i)])
  (fun y=>[.box b4 53 (.agg (zE c)),.tok y.1.a y.1.cp (p.take y.1.i).length 3 100]) (fun y=>p.length-y.1.i) ⟨⟨0,none,0⟩,⟨Nat.zero_le _,fun j hj=>absurd hj (Nat.not_lt_zero j)⟩⟩ wk qpm ?_
 rintro⟨⟨i,ad,cp⟩,hI⟩
 have hi:=hI.le
 have hu:=hI.up
 simp only at hi hu ⊢
 have hdl:∀n,(p.drop n).length=p.length-n:=fun n=>List.length_drop
 have htl:(p.take i).length=i:=by rw[List.length_take,Nat.min_eq_left hi]
 by_cases hlt:i<p.length
 rotate_left
 ·have hge:¬(i:Int)<p.length:=by omega
  obtain rfl:i=p.length:=by omega
  have gS:=zSign_c c
  have he:=putZ_end c m hu
  have htk:p.take p.length=p:=List.take_length
  have hdr:p.drop p.length=[]:=List.drop_length
  by_cases hc0:c=0
  ·have hs:signZ (c)=0:=(signZ_zero _).2 hc0
   repeat(first|refine wDB ?_|refine awp_seq_k fun K hK=>?_|refine wN fun bx=>?_|refine wC gS ?_|(refine wH ?_;clear hK))
   refine qappL tyok tZ (p.take p.length) (p.drop (p.length)) (fun j _=>by rw[dropEl];exact SubL.refl _) ?_ (fun ad2 cp2=>?_) (hvx:=by rw[List.length_drop];exact rfl)
   ·constructor<;>(simp only[hdl];omega)
   repeat(first|refine wDB ?_|refine awp_seq_k fun K hK=>?_|refine wN fun bx=>?_|(refine wH ?_;clear hK))
   refine r1 ?_
   exact(Sub.view _ _ _ _).trans (Sub.of_eq (by rw[he,if_pos hc0,htk,hdr];rfl))
  ·have hs:¬signZ (c)=0:=fun h=>hc0 ((signZ_zero _).1 h)
   repeat(first|refine wDB ?_|refine awp_seq_k fun K hK=>?_|refine wN fun bx=>?_|refine wC gS ?_|(refine wH ?_;clear hK))
   refine qapp tyok tZ (p.take p.length) (c,m) (SubL.refl _) ?_ fun ad2 cp2=>?_
   ·simp only
    omega
   repeat(first|refine wDB ?_|refine awp_seq_k fun K hK=>?_|refine wN fun bx=>?_|(refine wH ?_;clear hK))
   refine qappL tyok tZ (p.take p.length++[(c,m)]) (p.drop (p.length)) (fun j _=>by rw[dropEl];exact SubL.refl _) ?_ (fun ad3 cp3=>?_) (hvx:=by rw[List.length_drop];exact rfl)
   ·constructor<;>(simp only[hdl,List.length_append,List.length_cons,List.length_nil];omega)
   repeat(first|refine wDB ?_|refine awp_seq_k fun K hK=>?_|refine wN fun bx=>?_|(refine wH ?_;clear hK))
   refine r1 ?_
   exact(Sub.view _ _ _ _).trans (Sub.of_eq (by rw[he,if_neg hc0,htk,hdr,List.append_assoc];rfl))
 have hlt':(i:Int)<p.length:=by omega
 have hpm:=hp.can.may _ (getD_mem hlt)
 have g:=rordM_c hpm hm
 by_cases ho:0<ordM (p.getD i default).2 m
 ·have ho':ordM (p.getD i default).2 m>0:=ho
  repeat(first|refine wDB ?_|refine awp_seq_k fun K hK=>?_|refine wN fun bx=>?_|refine wC g ?_|(refine wH ?_;clear hK))
  refine qapp tyok tZ (p.take i) (p.getD i default) (SubL.refl _) ?_ fun ad3 cp3=>?_
  ·simp only
   omega
  rw[←take_snoc hlt]
  repeat(first|refine wDB ?_|refine awp_seq_k fun K hK=>?_|refine wN fun bx=>?_|(refine wH ?_;clear hK))
  refine⟨⟨⟨i+1,ad3,cp3⟩,⟨hlt,fun j hj=>?_⟩⟩,wk,qpm,by simp only;omega⟩
  have hj:j<i+1:=hj
  by_cases e:j=i
  ·rw[e];exact ho
  ·exact hu j (by omega)
 have ho':¬ordM (p.getD i default).2 m>0:=ho
 have he:=putZ_at c m hlt hu ho
 by_cases hz:ordM (p.getD i default).2 m=0
 ·rw[if_pos hz]at he
  have gA:=zAdd_c k c (p.getD i default).1 hk hc (hp.bd _ (getD_mem hlt))
  have gS:=zSign_c (c+(p.getD i default).1)
  by_cases hc0:c+(p.getD i default).1=0
  ·have hs:signZ (c+(p.getD i default).1)=0:=(signZ_zero _).2 hc0
   repeat(first|refine wDB ?_|refine awp_seq_k fun K hK=>?_|refine wN fun bx=>?_|refine wC g ?_|refine wC gA ?_|refine wC gS ?_|(refine wH ?_;clear hK))
   refine qappL tyok tZ (p.take i) (p.drop (i+1)) (fun j _=>by rw[dropEl];exact SubL.refl _) ?_ (fun ad2 cp2=>?_) (hvx:=by rw[List.length_drop];exact rfl)
   ·constructor<;>(simp only[hdl];omega)
   repeat(first|refine wDB ?_|refine awp_seq_k fun K hK=>?_|refine wN fun bx=>?_|(refine wH ?_;clear hK))
   refine r1 ?_
   exact(Sub.view _ _ _ _).trans (Sub.of_eq (by rw[he,if_pos hc0];rfl))
  ·have hs:¬signZ (c+(p.getD i default).1)=0:=fun h=>hc0 ((signZ_zero _).1 h)
   repeat(first|refine wDB ?_|refine awp_seq_k fun K hK=>?_|refine wN fun bx=>?_|refine wC g ?_|refine wC gA ?_|refine wC gS ?_|(refine wH ?_;clear hK))
   refine qapp tyok tZ (p.take i) (c+(p.getD i default).1,m) (SubL.refl _) ?_ fun ad2 cp2=>?_
   ·simp only
    omega
   repeat(first|refine wDB ?_|refine awp_seq_k fun K hK=>?_|refine wN fun bx=>?_|(refine wH ?_;clear hK))
   refine qappL tyok tZ (p.take i++[(c+(p.getD i default).1,m)]) (p.drop (i+1)) (fun j _=>by rw[dropEl];exact SubL.refl _) ?_ (fun ad3 cp3=>?_) (hvx:=by rw[List.length_drop];exact rfl)
   ·constructor<;>(simp only[hdl,List.length_append,List.length_cons,List.length_nil];omega)
   repeat(first|refine wDB ?_|refine awp_seq_k fun K hK=>?_|refine wN fun bx=>?_|(refine wH ?_;clear hK))
   refine r1 ?_
   exact(Sub.view _ _ _ _).trans (Sub.of_eq (by rw[he,if_neg hc0,List.append_assoc];rfl))
 ·rw[if_neg hz]at he
  have gS:=zSign_c c
  by_cases hc0:c=0
  ·have hs:signZ (c)=0:=(signZ_zero _).2 hc0
   repeat(first|refine wDB ?_|refine awp_seq_k fun K hK=>?_|refine wN fun bx=>?_|refine wC g ?_|refine wC gS ?_|(refine wH ?_;clear hK))
   refine qappL tyok tZ (p.take i) (p.drop (i)) (fun j _=>by rw[dropEl];exact SubL.refl _) ?_ (fun ad2 cp2=>?_) (hvx:=by rw[List.length_drop];exact rfl)
   ·constructor<;>(simp only[hdl];omega)
   repeat(first|refine wDB ?_|refine awp_seq_k fun K hK=>?_|refine wN fun bx=>?_|(refine wH ?_;clear hK))
   refine r1 ?_
   exact(Sub.view _ _ _ _).trans (Sub.of_eq (by rw[he,if_pos hc0];rfl))
  ·have hs:¬signZ (c)=0:=fun h=>hc0 ((signZ_zero _).1 h)
   repeat(first|refine wDB ?_|refine awp_seq_k fun K hK=>?_|refine wN fun bx=>?_|refine wC g ?_|refine wC gS ?_|(refine wH ?_;clear hK))
   refine qapp tyok tZ (p.take i) (c,m) (SubL.refl _) ?_ fun ad2 cp2=>?_
   ·simp only
    omega
   repeat(first|refine wDB ?_|refine awp_seq_k fun K hK=>?_|refine wN fun bx=>?_|(refine wH ?_;clear hK))
   refine qappL tyok tZ (p.take i++[(c,m)]) (p.drop (i)) (fun j _=>by rw[dropEl];exact SubL.refl _) ?_ (fun ad3 cp3=>?_) (hvx:=by rw[List.length_drop];exact rfl)
   ·constructor<;>(simp only[hdl,List.length_append,List.length_cons,List.length_nil];omega)
   repeat(first|refine wDB ?_|refine awp_seq_k fun K hK=>?_|refine wN fun bx=>?_|(refine wH ?_;clear hK))
   refine r1 ?_
   exact(Sub.view _ _ _ _).trans (Sub.of_eq (by rw[he,if_neg hc0,List.append_assoc];rfl))
end Go.Proofs.YtamgilppehibeaaGreatDoor
namespace Go.Proofs.YtamgilppehibeaaGreatDoor
open Go.Ab
theorem addZ_step {p q:PZ} {i:Nat} (hi:i<q.length):addZ p (q.take (i+1))=putZ (q.getD i default).1 (q.getD i default).2 (addZ p (q.take i)):=by
 unfold addZ
 rw[take_snoc hi,List.foldl_append]
 rfl
theorem mem_take' {α:Type} {l:List α} {i:Nat} {x:α} (h:x∈l.take i):x∈l:=List.mem_of_mem_take h
theorem part_canK {k:Nat} {p q:PZ} (hp:CanK k p) (hq:∀t∈q,may t.2=true∧ZOk k t.1) (hl:p.length+q.length≤4294967296):CanK (k+1) (addZ p q):=by
 rw[addZ_col hp.can fun t ht=>(hq t ht).1]
 refine col_canK (fun t ht=>?_) (fun t ht=>?_) (by rw[List.length_append];exact hl)
 ·rcases List.mem_append.1 ht with h|h
  ·exact hp.can.may t h
  ·exact(hq t h).1
 ·rcases List.mem_append.1 ht with h|h
  ·exact hp.bd t h
  ·exact(hq t h).2
theorem canK_nil (k:Nat):CanK k []:=⟨Canon.nil,fun _ ht=>absurd ht List.not_mem_nil⟩
theorem cbRPoly:Callable Tryz.prog 38:=fun _ _=>by kernel_rfl
theorem rppoly_c (p:PZ) (k:Nat) (hk:k≤1000000) (h:∀t∈p,ZOk k t.1) (hm:∀t∈p,t.2.length≤400000) (hl:p.length≤400000000):PCalls Tryz.prog 38 [pZ p] (polyZ p):=by
 refine pcalls_of_awp tyok cbRPoly Tryz.func38 rfl rfl ?_
 repeat(first|refine wDB ?_|refine awp_seq_k fun K hK=>?_|refine wN fun bx=>?_|(refine wH ?_;clear hK))
 refine awp_tok0 3 70 ?_
 refine awp_loopP (ι:={y:TimS//y.i≤p.length}) (fun y=>[(0,pZ p),(3,sl termE 3 ((p.take y.1.i).map zR) (.own y.1.a y.1.cp)),(4,.int .i64 y.1.i)])
  (fun y=>[.tok y.1.a y.1.cp ((p.take y.1.i).map zR).length 3 70]) (fun y=>p.length-y.1.i) ⟨⟨0,none,0⟩,Nat.zero_le _⟩ wk qpm ?_
 rintro⟨⟨i,ad,cp⟩,hi⟩
 simp only at hi ⊢
 by_cases hlt:i<p.length
 rotate_left
 ·have hge:¬(i:Int)<p.length:=by omega
  obtain rfl:i=p.length:=by omega
  rw[List.take_length]
  repeat(first|refine wDB ?_|refine awp_seq_k fun K hK=>?_|refine wN fun bx=>?_|(refine wH ?_;clear hK))
  refine r1 ?_
  exact Sub.view _ _ _ _
 have hlt':(i:Int)<p.length:=by omega
 have g1:=zInt_c k (p.getD i default).1 hk (h _ (getD_mem hlt))
 have hml:=hm _ (getD_mem hlt)
 have hs:(p.take (i+1)).map zR=(p.take i).map zR++[⟨intC (p.getD i default).1,(p.getD i default).2⟩]:=by
  rw[take_snoc hlt,List.map_append]
  rfl
 repeat(first|refine wKB ?_|refine awp_seq_k fun K hK=>?_|refine wN fun bx=>?_|(refine wH ?_;clear hK))
 refine areg_soft mixed tyok [6] [(7,[])] [0,1,2,3,4,5,6,8,9,10,11,12,7,13,14,15,16,17] (by decide +kernel) ?_
 repeat(first|refine wDB ?_|refine awp_seq_k fun K hK=>?_|refine wN fun bx=>?_|refine wC g1 ?_|(refine wH ?_;clear hK))
 refine qappF tyok encP (p.getD i default).2 (fun _ _=>SubL.refl _) ?_ fun a1 c1=>?_
 ·constructor
  ·have:(0+(p.getD i default).2.length)*16≤400000*16:=Nat.mul_le_mul_right _ (by omega)
   exact Nat.le_trans this (by decide)
  ·omega
 have hol:((p.take i).map zR).length≤400000000:=by
  rw[List.length_map,List.length_take]
  omega
 repeat(first|refine wDB ?_|refine awp_seq_k fun K hK=>?_|refine wN fun bx=>?_|(refine wH ?_;clear hK))
 refine qapp tyok termE ((p.take i).map zR) ⟨intC (p.getD i default).1,(p.getD i default).2⟩ (.cons (Sub.refl _) (.cons (Sub.refl _) (.cons (Sub.view _ _ _ _) .nil))) ?_ fun ad3 cp3=>?_
 ·simp only
  omega
 rw[←hs]
 repeat(first|refine wDB ?_|refine awp_seq_k fun K hK=>?_|refine wN fun bx=>?_|(refine wH ?_;clear hK))
 exact⟨⟨⟨i+1,ad3,cp3⟩,hlt⟩,wk,qpm,by simp only;omega⟩
theorem cbRAdd8:Callable Tryz.prog 34:=fun _ _=>by kernel_rfl
theorem rpadd_c (p q:PZ) (k:Nat) (hk:k+1≤1000000) (hp:CanK k p) (hq:∀t∈q,may t.2=true∧ZOk k t.1) (hl:p.length+q.length≤1000000000):PCalls Tryz.prog 34 [pZ p,pZ q] (pZ (addZ p q)):=by
 refine pcalls_of_awp tyok cbRAdd8 Tryz.func34 rfl rfl ?_
 repeat(first|refine wDB ?_|refine awp_seq_k fun K hK=>?_|refine wN fun bx=>?_|(refine wH ?_;clear hK))
 refine awp_loop0 (ι:={i:Nat//i≤q.length}) (fun i=>[(1,pZ q),(5,pZ (addZ p (q.take i.1))),(6,.int .i64 i.1)]) (fun _=>[]) (fun i=>q.length-i.1) ⟨0,Nat.zero_le _⟩ wk dp ?_
 rintro⟨i,hi⟩
 simp only at hi ⊢
 by_cases hlt:i<q.length
 rotate_left
 ·have hge:¬(i:Int)<q.length:=by omega
  obtain rfl:i=q.length:=by omega
  rw[List.take_length]
  repeat(first|refine wDB ?_|refine awp_seq_k fun K hK=>?_|refine wN fun bx=>?_|(refine wH ?_;clear hK))
  refine r1 ?_
  exact Sub.refl _
 have hlt':(i:Int)<q.length:=by omega
 have hmem:∀t∈q.take i,may t.2=true∧ZOk k t.1:=fun t ht=>hq t (mem_take' ht)
 have hcp:=part_canK hp hmem (by rw[List.length_take];omega)
 have hlen:=addZ_len (q.take i) p
 rw[List.length_take]at hlen
 obtain⟨hm1,hz1⟩:=hq _ (getD_mem hlt)
 have g2:=r8put_c (addZ p (q.take i)) (q.getD i default).1 (q.getD i default).2 (k+1) hk hcp (hz1.mono (by omega)) hm1 (by omega)
 have hs:=addZ_step (p:=p) hlt
 repeat(first|refine wDB ?_|refine awp_seq_k fun K hK=>?_|refine wN fun bx=>?_|refine wC g2 ?_|(refine wH ?_;clear hK))
 rw[←hs]
 exact⟨⟨i+1,hlt⟩,wk,dp,by simp only;omega⟩
def rowQ (x:Int×List Pw) (b:PZ):PZ:=b.map fun y=>(x.1*y.1,(timesF x.2 y.2).1)
theorem prodQ_step {a b:PZ} {i:Nat} (hi:i<a.length):prodQ (a.take (i+1)) b=prodQ (a.take i) b++rowQ (a.getD i default) b:=by
 unfold prodQ rowQ
 rw[take_snoc hi,List.flatMap_append]
 simp
theorem rowQ_step {x:Int×List Pw} {b:PZ} {j:Nat} (hj:j<b.length):rowQ x (b.take (j+1))=rowQ x (b.take j)++[(x.1*(b.getD j default).1,(timesF x.2 (b.getD j default).2).1)]:=by
 unfold rowQ
 rw[take_snoc hj,List.map_append]
 rfl
theorem rowQ_len (x:Int×List Pw) (b:PZ):(rowQ x b).length=b.length:=List.length_map _
theorem colZ_snoc (l:PZ) (t:Int×List Pw):colZ (l++[t])=putZ t.1 t.2 (colZ l):=by
 unfold colZ addZ
 rw[List.foldl_append]
 rfl
def rowB (x:Int×List Pw) (b:PZ):Bool:=b.all fun y=>decide ((timesF x.2 y.2).2=0)
structure RtI (a b:PZ) (i:Nat):Prop where
 le:i≤a.length
 ok:∀j,j<i→rowB (a.getD j default) b=true
structure RtJ (x:Int×List Pw) (b:PZ) (i:Nat):Prop where
 le:i≤b.length
 ok:∀j,j<i→(timesF x.2 (b.getD j default).2).2=0
theorem all_getD {α:Type} [Inhabited α] {l:List α} {f:α→Bool} (h:∀j,j<l.length→f (l.getD j default)=true):l.all f=true:=by
 refine List.all_eq_true.2 fun x hx=>?_
 obtain⟨j,hj,e⟩:=List.getElem_of_mem hx
 have:=h j hj
 rw[getD_get hj]at this
 exact e▸this
theorem RtI.done {a b:PZ} (h:RtI a b a.length):prodB a b=true:=all_getD h.ok
theorem RtJ.done {x:Int×List Pw} {b:PZ} (h:RtJ x b b.length):rowB x b=true:=all_getD fun j hj=>decide_eq_true (h.ok j hj)
theorem prodB_at {a b:PZ} (h:prodB a b=true) {x y:Int×List Pw} (hx:x∈a) (hy:y∈b):(timesF x.2 y.2).2=0:=of_decide_eq_true (List.all_eq_true.1 (List.all_eq_true.1 h x hx) y hy)
theorem part_mem {j k:Nat} {a b:PZ} (ha:CanK j a) (hb:CanK k b) {i:Nat} {n:Nat} (hI:RtI a b i) (hi:i<a.length) (hJ:RtJ (a.getD i default) b n):∀t∈prodQ (a.take i) b++rowQ (a.getD i default) (b.take n),may t.2=true∧ZOk (j+k) t.1:=fun t ht=>by
 have key:∀x∈a,∀y∈b,(timesF x.2 y.2).2=0→may (timesF x.2 y.2).1=true∧ZOk (j+k) (x.1*y.1):=fun x hx y hy e=>by
  constructor
  ·rcases timesF_two (ha.can.may x hx) (hb.can.may y hy)with h1|h1
   ·exact h1.2
   ·rw[h1]at e
    cases e
  ·have h1:=ha.bd x hx
   have h2:=hb.bd y hy
   unfold ZOk at*
   rw[Int.natAbs_mul]
   exact nat_mul_ok h1 h2
 rcases List.mem_append.1 ht with ht|ht
 ·unfold prodQ at ht
  obtain⟨x,hx,ht⟩:=List.mem_flatMap.1 ht
  obtain⟨y,hy,rfl⟩:=List.mem_map.1 ht
  refine key x (mem_take' hx) y hy ?_
  obtain⟨q,hq,e⟩:=List.getElem_of_mem hx
  rw[List.length_take]at hq
  have h1:=hI.ok q (by omega)
  rw[getD_get (by omega),show a[q]=x by rw[←e,List.getElem_take]]at h1
  exact of_decide_eq_true (List.all_eq_true.1 h1 y hy)
 ·unfold rowQ at ht
  obtain⟨y,hy,rfl⟩:=List.mem_map.1 ht
  refine key _ (getD_mem hi) y (mem_take' hy) ?_
  obtain⟨q,hq,e⟩:=List.getElem_of_mem hy
  rw[List.length_take]at hq
  have h1:=hJ.ok q (by omega)
  rw[getD_get (l:=b) (by omega),show b[q]=y by rw[←e,List.getElem_take]]at h1
  exact h1
theorem cbRTimes8:Callable Tryz.prog 90:=fun _ _=>by kernel_rfl
theorem rptimes_c (a b:PZ) (j k:Nat) (hk:j+k+1≤1000000) (ha:CanK j a) (hb:CanK k b) (hw:a.length*b.length≤16777216) (hla:a.length≤1000000000) (hlb:b.length≤1000000000):
  PCalls Tryz.prog 90 [pZ a,pZ b] (.tuple [pZ (tmZ a b).1,.bool (tmZ a b).2]):=by
 refine pcalls_of_awp tyok cbRTimes8 Tryz.func90 rfl rfl ?_
 repeat(first|refine wDB ?_|refine awp_seq_k fun K hK=>?_|refine wN fun bx=>?_|(refine wH ?_;clear hK))
 refine awp_loop0 (ι:={i:Nat//RtI a b i}) (fun i=>[(0,pZ a),(1,pZ b),(6,pZ (colZ (prodQ (a.take i.1) b))),(7,.int .i64 i.1)]) (fun _=>[]) (fun i=>a.length-i.1) ⟨0,⟨Nat.zero_le _,fun j hj=>absurd hj (Nat.not_lt_zero j)⟩⟩ ?_ dp ?_
 ·exact⟨⟨_,rfl,Sub.refl _⟩,⟨_,rfl,Sub.refl _⟩,⟨_,rfl,Sub.nilsv _ _⟩,⟨_,rfl,Sub.refl _⟩,trivial⟩
 rintro⟨i,hI⟩
 have hi:=hI.le
 simp only at hi ⊢
 by_cases hlt:i<a.length
 rotate_left
 ·have hge:¬(i:Int)<a.length:=by omega
  obtain rfl:i=a.length:=by omega
  have hF:tmZ a b=(colZ (prodQ a b),true):=if_pos hI.done
  rw[List.take_length]
  repeat(first|refine wDB ?_|refine awp_seq_k fun K hK=>?_|refine wN fun bx=>?_|(refine wH ?_;clear hK))
  refine r2 ?_ ?_
  ·exact Sub.of_eq (by rw[hF])
  ·exact Sub.of_eq (by rw[hF])
 have hlt':(i:Int)<a.length:=by omega
 have hxa:a.getD i default∈a:=getD_mem hlt
 have hps:=prodQ_step (b:=b) hlt
 have hpl:(prodQ (a.take i) b).length=i*b.length:=by rw[prodQ_len,List.length_take,Nat.min_eq_left hi]
 have hib:i*b.length+b.length≤16777216:=by
  have:=Nat.mul_le_mul_right b.length hlt
  rw[Nat.succ_mul]at this
  omega
 repeat(first|refine wDB ?_|refine awp_seq_k fun K hK=>?_|refine wN fun bx=>?_|(refine wH ?_;clear hK))
 rw[show prodQ (a.take i) b=prodQ (a.take i) b++rowQ (a.getD i default) (b.take 0) from (List.append_nil _).symm]
 refine awp_loop0 (ι:={n:Nat//RtJ (a.getD i default) b n}) (fun n=>[(0,pZ a),(1,pZ b),(6,pZ (colZ (prodQ (a.take i) b++rowQ (a.getD i default) (b.take n.1)))),(7,.int .i64 i),(8,.int .i64 n.1)]) (fun _=>[]) (fun n=>b.length-n.1) ⟨0,⟨Nat.zero_le _,fun j hj=>absurd hj (Nat.not_lt_zero j)⟩⟩ wk dp ?_
 rintro⟨n,hJ⟩
 have hj:=hJ.le
 simp only at hj ⊢
 by_cases hjt:n<b.length
 rotate_left
 ·have hge:¬(n:Int)<b.length:=by omega
  obtain rfl:n=b.length:=by omega
  have hro:=hJ.done
  rw[List.take_length,←hps]
  repeat(first|refine wDB ?_|refine awp_seq_k fun K hK=>?_|refine wN fun bx=>?_|(refine wH ?_;clear hK))
  refine⟨⟨i+1,⟨hlt,fun n hn=>?_⟩⟩,wk,dp,by simp only;omega⟩
  by_cases e:n=i
  ·rw[e];exact hro
  ·exact hI.ok n (by omega)
 have hjt':(n:Int)<b.length:=by omega
 have hyb:b.getD n default∈b:=getD_mem hjt
 have ma:=ha.can.may _ hxa
 have mb:=hb.can.may _ hyb
 have gT:=rtimes_c (a.getD i default).2 (b.getD n default).2 (may_short ma) (may_short mb)
 have hrs:=rowQ_step (x:=a.getD i default) hjt
 rcases timesF_two ma mb with⟨h0,hmm⟩|h8
 rotate_left
 ·rw[h8]at gT
  have hF:tmZ a b=([],false):=if_neg fun h=>by
   have:=prodB_at h hxa hyb
   rw[h8]at this
   cases this
  repeat(first|refine wDB ?_|refine awp_seq_k fun K hK=>?_|refine wN fun bx=>?_|refine wC gT ?_|(refine wH ?_;clear hK))
  refine r2 ?_ ?_
  ·rw[hF]
   exact Sub.nilsv _ _
  ·exact Sub.of_eq (by rw[hF])
 obtain⟨w,hw2⟩:∃w,timesF (a.getD i default).2 (b.getD n default).2=(w,0):=⟨_,Prod.ext rfl h0⟩
 rw[hw2]at gT hrs hmm
 have hmem:=part_mem ha hb hI hlt hJ
 have hll:(prodQ (a.take i) b++rowQ (a.getD i default) (b.take n)).length≤16777216:=by
  rw[List.length_append,hpl,rowQ_len,List.length_take]
  omega
 have hck:CanK (j+k+1) (colZ (prodQ (a.take i) b++rowQ (a.getD i default) (b.take n))):=col_canK (fun t ht=>(hmem t ht).1) (fun t ht=>(hmem t ht).2) (by omega)
 have hcl:=colZ_len (prodQ (a.take i) b++rowQ (a.getD i default) (b.take n))
 have zx:=ha.bd _ hxa
 have zy:=hb.bd _ hyb
 have gM:=zMul_c (j+k) (a.getD i default).1 (b.getD n default).1 (by omega) (zx.mono (by omega)) (zy.mono (by omega))
 have zxy:ZOk (j+k+1) ((a.getD i default).1*(b.getD n default).1):=by
  have:ZOk (j+k) ((a.getD i default).1*(b.getD n default).1):=by
   unfold ZOk at*
   rw[Int.natAbs_mul]
   exact nat_mul_ok zx zy
  exact this.mono (by omega)
 have gP:=r8put_c (colZ (prodQ (a.take i) b++rowQ (a.getD i default) (b.take n))) ((a.getD i default).1*(b.getD n default).1) w (j+k+1) hk hck zxy hmm (by omega)
 rw[←colZ_snoc (prodQ (a.take i) b++rowQ (a.getD i default) (b.take n)) ((a.getD i default).1*(b.getD n default).1,w),List.append_assoc,←hrs]at gP
 repeat(first|refine wKB ?_|refine awp_seq_k fun K hK=>?_|refine wN fun bx=>?_|(refine wH ?_;clear hK))
 refine areg_soft mixed tyok [10] [] (List.range 16) (by decide +kernel) ?_
 repeat(first|refine wKB ?_|refine awp_seq_k fun K hK=>?_|refine wN fun bx=>?_|refine wC gT ?_|(refine wH ?_;clear hK))
 refine areg_soft mixed tyok [11,13] [] (List.range 15) (by decide +kernel) ?_
 repeat(first|refine wDB ?_|refine awp_seq_k fun K hK=>?_|refine wN fun bx=>?_|refine wC gM ?_|refine wC gP ?_|(refine wH ?_;clear hK))
 refine⟨⟨n+1,⟨hjt,fun q hq=>?_⟩⟩,wk,dp,by simp only;omega⟩
 by_cases e:q=n
 ·rw[e];exact h0
 ·exact hJ.ok q (by omega)
end Go.Proofs.YtamgilppehibeaaGreatDoor
namespace Go.Proofs.YtamgilppehibeaaGreatDoor
open Go.Ab
def wOneZ (c:Int) (t:Int×List Pw):Int×List Pw:=(t.1.tdiv c,t.2)
theorem cbR7Same:Callable Tryz.prog 56:=fun _ _=>by kernel_rfl
theorem r7same_c (a b:List Pw) (ha:a.length≤1000000000) (hb:b.length≤1000000000):PCalls Tryz.prog 56 [mono a,mono b] (.bool (a==b)):=by
 refine pcalls_of_awp tyok cbR7Same Tryz.func56 rfl rfl ?_
 by_cases hl:a.length=b.length
 rotate_left
 ·have hl':¬(a.length:Int)=b.length:=by omega
  repeat(first|refine wDB ?_|refine awp_seq_k fun K hK=>?_|refine wN fun bx=>?_|(refine wH ?_;clear hK))
  refine r1 ?_
  exact Sub.of_eq (congrArg AV.bool (beq_eq_false_iff_ne.2 fun e=>hl (by rw[e])).symm)
 have hl':(a.length:Int)=b.length:=by omega
 repeat(first|refine wDB ?_|refine awp_seq_k fun K hK=>?_|refine wN fun bx=>?_|(refine wH ?_;clear hK))
 refine awp_loop0 (ι:={i:Nat//i≤a.length∧∀j,j<i→a.getD j default=b.getD j default}) (fun i=>[(0,mono a),(1,mono b),(5,.int .i64 i.1)]) (fun _=>[]) (fun i=>a.length-i.1) ⟨0,Nat.zero_le _,fun j hj=>absurd hj (by omega)⟩ wk dp ?_
 rintro⟨i,hi,hs⟩
 simp only at hi hs ⊢
 by_cases hlt:i<a.length
 rotate_left
 ·have hge:¬(i:Int)<a.length:=by omega
  have e:a=b:=List.ext_getElem hl fun j h1 h2=>by
   have:=hs j (by omega)
   simpa [List.getD_eq_getElem?_getD,h1,h2]using this
  repeat(first|refine wDB ?_|refine awp_seq_k fun K hK=>?_|refine wN fun bx=>?_|(refine wH ?_;clear hK))
  refine r1 ?_
  exact Sub.of_eq (congrArg AV.bool (beq_iff_eq.2 e).symm)
 have hlt':(i:Int)<a.length:=by omega
 have hlt2:(i:Int)<b.length:=by omega
 repeat(first|refine wDB ?_|refine awp_seq_k fun K hK=>?_|refine wN fun bx=>?_|(refine wH ?_;clear hK))
 refine awp_cond rfl (fun hb=>?_) (fun hb=>?_)
 ·repeat(first|refine wDB ?_|refine awp_seq_k fun K hK=>?_|refine wN fun bx=>?_|(refine wH ?_;clear hK))
  refine r1 ?_
  exact Sub.of_eq (congrArg AV.bool (beq_eq_false_iff_ne.2 fun e=>by subst e;simp at hb).symm)
 ·have e:a.getD i default=b.getD i default:=by
   simp only[Int.toNat_natCast]at hb
   simp only[Bool.not_eq_false',Bool.and_eq_true,beq_iff_eq,and_true]at hb
   exact Prod.ext hb.1 hb.2
  repeat(first|refine wDB ?_|refine awp_seq_k fun K hK=>?_|refine wN fun bx=>?_|(refine wH ?_;clear hK))
  refine⟨⟨i+1,hlt,fun j hj=>?_⟩,wk,dp,by simp only;omega⟩
  by_cases ej:j=i
  ·rw[ej];exact e
  ·exact hs j (by omega)
theorem cbR8Same:Callable Tryz.prog 15:=fun _ _=>by kernel_rfl
theorem rpsame_c (a b:List TermR) (ha:PolyOk 1000000000 a) (hb:PolyOk 1000000000 b):PCalls Tryz.prog 15 [polyV a,polyV b] (.bool (sameP8 a b)):=by
 refine pcalls_of_awp tyok cbR8Same Tryz.func15 rfl rfl ?_
 have la:=ha.len
 have lb:=hb.len
 by_cases hl:a.length=b.length
 rotate_left
 ·have hl':¬(a.length:Int)=b.length:=by omega
  repeat(first|refine wDB ?_|refine awp_seq_k fun K hK=>?_|refine wN fun bx=>?_|(refine wH ?_;clear hK))
  refine r1 ?_
  exact Sub.of_eq (congrArg AV.bool (sameP8_no fun e=>hl (by rw[e])).symm)
 have hl':(a.length:Int)=b.length:=by omega
 repeat(first|refine wDB ?_|refine awp_seq_k fun K hK=>?_|refine wN fun bx=>?_|(refine wH ?_;clear hK))
 refine awp_loop0 (ι:={i:Nat//i≤a.length∧∀j,j<i→a.getD j default=b.getD j default}) (fun i=>[(0,polyV a),(1,polyV b),(5,.int .i64 i.1)]) (fun _=>[]) (fun i=>a.length-i.1) ⟨0,Nat.zero_le _,fun j hj=>absurd hj (by omega)⟩ wk dp ?_
 rintro⟨i,hi,hs⟩
 simp only at hi hs ⊢
 by_cases hlt:i<a.length
 rotate_left
 ·have hge:¬(i:Int)<a.length:=by omega
  have e:a=b:=List.ext_getElem hl fun j h1 h2=>by
   have:=hs j (by omega)
   simpa [List.getD_eq_getElem?_getD,h1,h2]using this
  repeat(first|refine wDB ?_|refine awp_seq_k fun K hK=>?_|refine wN fun bx=>?_|(refine wH ?_;clear hK))
  refine r1 ?_
  exact Sub.of_eq (congrArg AV.bool ((sameP8_iff a b).2 e).symm)
 have hlt':(i:Int)<a.length:=by omega
 have hlt2:(i:Int)<b.length:=by omega
 have ka:=ha.get hlt
 have kb:=hb.get (i:=i) (by omega)
 have no:a.getD i default≠b.getD i default→Sub (AV.bool false) (AV.bool (sameP8 a b)):=fun h=>Sub.of_eq (congrArg AV.bool (sameP8_no fun e=>h (by rw[e])).symm)
 have g1:=zSame_c (a.getD i default).c (b.getD i default).c ka.c.len kb.c.len
 have g2:=r7same_c (a.getD i default).m (b.getD i default).m (Nat.le_trans ka.m (by decide)) (Nat.le_trans kb.m (by decide))
 cases h1:sameI (a.getD i default).c (b.getD i default).c with
 |false=>
  rw[h1]at g1
  repeat(first|refine wDB ?_|refine awp_seq_k fun K hK=>?_|refine wN fun bx=>?_|refine wC g1 ?_|(refine wH ?_;clear hK))
  refine r1 ?_
  exact no fun e=>by
   rw[(sameI_iff _ _).2 (congrArg TermR.c e)]at h1
   cases h1
 |true=>
  rw[h1]at g1
  cases h2:(a.getD i default).m==(b.getD i default).m with
  |false=>
   rw[h2]at g2
   repeat(first|refine wDB ?_|refine awp_seq_k fun K hK=>?_|refine wN fun bx=>?_|refine wC g1 ?_|refine wC g2 ?_|(refine wH ?_;clear hK))
   refine r1 ?_
   exact no fun e=>by
    rw[beq_iff_eq.2 (congrArg TermR.m e)]at h2
    cases h2
  |true=>
   rw[h2]at g2
   have e:a.getD i default=b.getD i default:=by
    have e1:=(sameI_iff _ _).1 h1
    have e2:=beq_iff_eq.1 h2
    generalize a.getD i default=x at e1 e2
    generalize b.getD i default=y at e1 e2
    obtain⟨c,m⟩:=x
    obtain⟨c',m'⟩:=y
    simp only at e1 e2
    rw[e1,e2]
   repeat(first|refine wDB ?_|refine awp_seq_k fun K hK=>?_|refine wN fun bx=>?_|refine wC g1 ?_|refine wC g2 ?_|(refine wH ?_;clear hK))
   refine⟨⟨i+1,hlt,fun j hj=>?_⟩,wk,dp,by simp only;omega⟩
   by_cases ej:j=i
   ·rw[ej];exact e
   ·exact hs j (by omega)
def bigT8 (t:TermR):Bool:=decide (20<t.c.mag.length) || decide (12<t.m.length)
def greatP8 (p:List TermR) (most:Int):Bool:=p.any bigT8 || decide ((p.length:Int)>most)
theorem cbR8Great:Callable Tryz.prog 8:=fun _ _=>by kernel_rfl
theorem rpgreat_c (p:List TermR) (most:Int) (hl:p.length≤10000000000000):PCalls Tryz.prog 8 [polyV p,.int .i64 most] (.bool (greatP8 p most)):=by
 refine pcalls_of_awp tyok cbR8Great Tryz.func8 rfl rfl ?_
 repeat(first|refine wDB ?_|refine awp_seq_k fun K hK=>?_|refine wN fun bx=>?_|(refine wH ?_;clear hK))
 refine awp_loop0 (ι:={i:Nat//i≤p.length∧∀j,j<i→bigT8 (p.getD j default)=false}) (fun i=>[(0,polyV p),(1,.int .i64 most),(5,.int .i64 i.1)]) (fun _=>[]) (fun i=>p.length-i.1) ⟨0,Nat.zero_le _,fun j hj=>absurd hj (by omega)⟩ wk dp ?_
 rintro⟨i,hi,hs⟩
 simp only at hi hs ⊢
 by_cases hlt:i<p.length
 rotate_left
 ·have hge:¬(i:Int)<p.length:=by omega
  have e:p.any bigT8=false:=by
   rw[List.any_eq_false]
   intro t ht
   obtain⟨j,hj,rfl⟩:=List.getElem_of_mem ht
   have:=hs j (by omega)
   rw[getD_get hj]at this
   rw[this]
   decide
  repeat(first|refine wDB ?_|refine awp_seq_k fun K hK=>?_|refine wN fun bx=>?_|(refine wH ?_;clear hK))
  refine r1 ?_
  refine Sub.of_eq ?_
  unfold greatP8
  rw[e]
  rfl
 have hlt':(i:Int)<p.length:=by omega
 have yes:bigT8 (p.getD i default)=true→Sub (AV.bool true) (AV.bool (greatP8 p most)):=fun h=>Sub.of_eq (by
  unfold greatP8
  rw[List.any_eq_true.2 ⟨_,getD_mem hlt,h⟩]
  rfl)
 by_cases h1:20<(p.getD i default).c.mag.length
 ·have h1':((p.getD i default).c.mag.length:Int)>20:=by omega
  repeat(first|refine wDB ?_|refine awp_seq_k fun K hK=>?_|refine wN fun bx=>?_|(refine wH ?_;clear hK))
  refine r1 ?_
  exact yes (by unfold bigT8;rw[decide_eq_true h1];rfl)
 have h1':¬((p.getD i default).c.mag.length:Int)>20:=by omega
 by_cases h2:12<(p.getD i default).m.length
 ·have h2':((p.getD i default).m.length:Int)>12:=by omega
  repeat(first|refine wDB ?_|refine awp_seq_k fun K hK=>?_|refine wN fun bx=>?_|(refine wH ?_;clear hK))
  refine r1 ?_
  exact yes (by unfold bigT8;rw[decide_eq_true h2,Bool.or_true])
 have h2':¬((p.getD i default).m.length:Int)>12:=by omega
 repeat(first|refine wDB ?_|refine awp_seq_k fun K hK=>?_|refine wN fun bx=>?_|(refine wH ?_;clear hK))
 refine⟨⟨i+1,hlt,fun j hj=>?_⟩,wk,dp,by simp only;omega⟩
 by_cases ej:j=i
 ·rw[ej]
  unfold bigT8
  rw[decide_eq_false h1,decide_eq_false h2]
  rfl
 ·exact hs j (by omega)
end Go.Proofs.YtamgilppehibeaaGreatDoor
