/-
  digits: Text, and slices.Reverse of bytes.
-/
import Derived.Test.YtamgilppehibeaaGreatDoorNdM
import Derived.Test.YtamgilppehibeaaGreatDoorAbF
import Derived.Test.YtamgilppehibeaaGreatDoorTxM
import Derived.Test.YtamgilppehibeaaGreatDoorDc0
import Derived.Test.YtamgilppehibeaaGreatDoorNaM
set_option maxRecDepth 100000
set_option maxHeartbeats 12800000
namespace Go.Proofs.YtamgilppehibeaaGreatDoor
open Go.Ab Go.Lib
def RevI (xs:List UInt8) (i:Nat) (ys:List UInt8):Prop:=ys.length=xs.length∧∀k,k<xs.length→ys.getD k 0=if k<i∨xs.length≤k+i then xs.getD (xs.length-1-k) 0 else xs.getD k 0
theorem getD_set8 {l:List UInt8} {i k:Nat} {v:UInt8} (hi:i<l.length):(l.set i v).getD k 0=if k=i then v else l.getD k 0:=by
 rw[List.getD_eq_getElem?_getD,List.getElem?_set]
 by_cases h:i=k
 ·subst h
  simp[hi]
 ·rw[if_neg h,if_neg fun e=>h e.symm,List.getD_eq_getElem?_getD]
theorem rev_step {xs ys:List UInt8} {i:Nat} (h:RevI xs i ys) (hi:i+i+1<xs.length):RevI xs (i+1) ((ys.set i (ys.getD (xs.length-1-i) 0)).set (xs.length-1-i) (ys.getD i 0)):=by
 obtain⟨hl,h⟩:=h
 refine⟨by rw[List.length_set,List.length_set,hl],fun k hk=>?_⟩
 rw[getD_set8 (by rw[List.length_set];omega),getD_set8 (by omega),h i (by omega),h (xs.length-1-i) (by omega),h k hk]
 rw[if_neg (show¬(i<i∨xs.length≤i+i) by omega),if_neg (show¬(xs.length-1-i<i∨xs.length≤xs.length-1-i+i) by omega)]
 by_cases h1:k=xs.length-1-i
 ·rw[if_pos h1,if_pos (by omega),h1,show xs.length-1-(xs.length-1-i)=i by omega]
 ·rw[if_neg h1]
  by_cases h2:k=i
  ·rw[if_pos h2,if_pos (by omega),h2]
  ·rw[if_neg h2]
   by_cases h3:k<i∨xs.length≤k+i
   ·rw[if_pos h3,if_pos (by omega)]
   ·rw[if_neg h3,if_neg (by omega)]
theorem rev_done {xs ys:List UInt8} {i:Nat} (h:RevI xs i ys) (hi:xs.length≤i+i+1):ys=xs.reverse:=by
 obtain⟨hl,h⟩:=h
 refine List.ext_getElem? fun k=>?_
 by_cases hk:k<xs.length
 ·have h1:=h k hk
  rw[List.getD_eq_getElem?_getD,List.getElem?_eq_getElem (by omega)]at h1
  rw[List.getElem?_eq_getElem (by omega),List.getElem?_eq_getElem (by rw[List.length_reverse];exact hk),List.getElem_reverse]
  refine congrArg some ?_
  have h2:ys[k]'(by omega)=_:=h1
  rw[h2]
  split
  ·rw[List.getD_eq_getElem?_getD,List.getElem?_eq_getElem (by omega)]
   rfl
  ·rw[List.getD_eq_getElem?_getD,List.getElem?_eq_getElem hk]
   have:xs.length-1-k=k:=by omega
   simp only[this]
   rfl
 ·rw[List.getElem?_eq_none (by omega),List.getElem?_eq_none (by rw[List.length_reverse];omega)]
theorem cbRev:Callable Tryz.prog 140:=fun _ _=>by kernel_rfl
theorem rev_c (g cap:Nat) (xs:List UInt8) (hc:xs.length≤cap) (hl:xs.length≤1000000000000):ACalls Tryz.prog 140 [.mslice g 0 xs.length cap] [rowY g 5 cap xs] (fun r H'=>r=.ret (.tuple [])∧H'=[rowY g 5 cap xs.reverse]):=by
 refine acalls_of_awp tyok cbRev Tryz.func140 rfl rfl ?_
 repeat(first|refine wDB ?_|refine awp_seq_k fun K hK=>?_|refine wN fun bx=>?_|(refine wH ?_;clear hK))
 refine awp_loop0 (ι:={y:Nat×List UInt8//RevI xs y.1 y.2}) (fun y=>[(0,.mslice g 0 xs.length cap),(2,.int .i64 y.1.1),(3,.int .i64 ((xs.length:Int)-1-y.1.1))]) (fun y=>[rowY g 5 cap y.1.2]) (fun y=>xs.length-y.1.1)
  ⟨(0,xs),rfl,fun k hk=>by rw[if_neg (by omega)]⟩ ⟨⟨_,rfl,Sub.refl _⟩,⟨_,rfl,Sub.refl _⟩,⟨_,rfl,Sub.of_eq (by simp)⟩,True.intro⟩ ⟨0,rfl⟩ ?_
 rintro⟨⟨i,ys⟩,hI⟩
 have hyl:ys.length=xs.length:=hI.1
 simp only
 by_cases hlt:i+i+1<xs.length
 ·have hlt':(i:Int)<(xs.length:Int)-1-i:=by omega
  have ej:((xs.length:Int)-1-i).toNat=xs.length-1-i:=by omega
  have ei:((i:Int)).toNat=i:=rfl
  have hn:=rev_step hI hlt
  repeat(first|refine wDB ?_|refine awp_seq_k fun K hK=>?_|refine wN fun bx=>?_|(refine wH ?_;clear hK))
  refine qldY (cap:=cap) ys (xs.length-1-i) ?_ ?_ (by omega) (by omega)
  ·rw[ej];omega
  repeat(first|refine wDB ?_|refine awp_seq_k fun K hK=>?_|refine wN fun bx=>?_|(refine wH ?_;clear hK))
  refine qldY (cap:=cap) ys i ?_ ?_ (by omega) (by omega)
  ·rw[ei];omega
  repeat(first|refine wDB ?_|refine awp_seq_k fun K hK=>?_|refine wN fun bx=>?_|(refine wH ?_;clear hK))
  refine qstY (cap:=cap) tyok ys i (ys.getD (xs.length-1-i) 0) ?_ ?_ (by omega) (by omega)
  ·rw[ei];omega
  repeat(first|refine wDB ?_|refine awp_seq_k fun K hK=>?_|refine wN fun bx=>?_|(refine wH ?_;clear hK))
  refine qstY (cap:=cap) tyok (ys.set i (ys.getD (xs.length-1-i) 0)) (xs.length-1-i) (ys.getD i 0) ?_ ?_ (by rw[List.length_set];omega) (by rw[List.length_set];omega)
  ·rw[ej];omega
  repeat(first|refine wDB ?_|refine awp_seq_k fun K hK=>?_|refine wN fun bx=>?_|(refine wH ?_;clear hK))
  exact⟨⟨(i+1,_),hn⟩,⟨⟨_,rfl,Sub.refl _⟩,⟨_,rfl,Sub.refl _⟩,⟨_,rfl,Sub.of_eq (congrArg _ (by simp only;omega))⟩,True.intro⟩,⟨0,rfl⟩,by simp only;omega⟩
 ·have hge:¬(i:Int)<(xs.length:Int)-1-i:=by omega
  have hd:ys=xs.reverse:=rev_done hI (by omega)
  repeat(first|refine wDB ?_|refine awp_seq_k fun K hK=>?_|refine wN fun bx=>?_|(refine wH ?_;clear hK))
  rw[hd]
  exact fnQ_ret 0 rfl .nil (Sub.refl _) ⟨rfl,rfl⟩
abbrev Buf:Type:=Option (Nat×Nat)
def bufV (o:Buf) (n:Nat):AV:=match o with
 |none=>.nils
 |some x=>.mslice x.1 0 n x.2
noncomputable def bufH (o:Buf) (xs:List UInt8):AHeap:=match o with
 |none=>[]
 |some x=>[rowY x.1 5 x.2 xs]
def BufI (o:Buf) (n:Nat):Prop:=match o with
 |none=>n=0
 |some x=>n≤x.2∧x.2≤maxLen
def nineT (r:Nat) (k:Nat):List UInt8:=(padd 10 k r).map digC
theorem nineT_snoc (r k:Nat):nineT r (k+1)=nineT r k++[digC (r/10^k%10)]:=by
 unfold nineT
 rw[padd_snoc,List.map_append]
 rfl
theorem nineT_len (r k:Nat):(nineT r k).length=k:=by
 unfold nineT
 rw[List.length_map,padd_len]
theorem cbTake:Callable Tryz.prog 138:=fun _ _=>by kernel_rfl
theorem take9_c (b3 b4 A:Nat) (o:Buf) (xs:List UInt8) (ho:BufI o xs.length) (hA:LimOk 1000000000 (digs B32 A)) (hx:xs.length≤1000000000000):
  ACalls Tryz.prog 138 [.int .i64 9,.ptr b3 0,.ptr b4 0] (.box b3 40 (lims (digs B32 A))::.box b4 77 (bufV o xs.length)::bufH o xs)
   (fun r H'=>r=.ret (.tuple [])∧∃x:{x:Nat×Nat//BufI (some x) (xs.length+9)},H'=[.box b3 40 (lims (digs B32 (A/1000000000))),.box b4 77 (.mslice x.1.1 0 (xs.length+9) x.1.2),rowY x.1.1 5 x.1.2 (xs++nineT (A%1000000000) 9)]):=by
 refine acalls_of_awp tyok cbTake Tryz.func138 rfl rfl ?_
 have g:=limb_c (digs B32 A) 1000000000 hA (by decide) (by decide)
 rw[val_digs B32_two]at g
 generalize hr:A%1000000000=r at g
 have hrl:r<1000000000:=by rw[←hr];exact Nat.mod_lt _ (by decide)
 repeat(first|refine wDB ?_|refine awp_seq_k fun K hK=>?_|refine wN fun bx=>?_|refine wC g ?_|(refine wH ?_;clear hK))
 refine awp_loopP (ι:={y:Nat×Buf//y.1≤9∧BufI y.2 (xs.length+y.1)}) (fun y=>[(1,.ptr b3 0),(2,.ptr b4 0),(5,.int .u32 ((r/10^y.1.1:Nat):Int)),(14,.int .i64 9),(15,.int .i64 y.1.1)])
  (fun y=>.box b3 40 (lims (digs B32 (A/1000000000)))::.box b4 77 (bufV y.1.2 (xs.length+y.1.1))::bufH y.1.2 (xs++nineT r y.1.1)) (fun y=>9-y.1.1)
  ⟨(0,o),Nat.zero_le _,ho⟩ ⟨⟨_,rfl,Sub.refl _⟩,⟨_,rfl,Sub.refl _⟩,⟨_,rfl,Sub.of_eq (by simp)⟩,⟨_,rfl,Sub.refl _⟩,⟨_,rfl,Sub.refl _⟩,True.intro⟩ ⟨[],by simp only[Nat.add_zero];rw[show xs++nineT r 0=xs from List.append_nil _];exact List.Perm.refl _⟩ ?_
 rintro⟨⟨k,b⟩,hk,hb⟩
 simp only at hk hb ⊢
 by_cases hlt:k<9
 rotate_left
 ·have hge:¬(k:Int)<9:=by omega
  obtain rfl:k=9:=by omega
  match b,hb with
  |none,hb=>exact absurd hb (by unfold BufI;omega)
  |some x,hb=>
   repeat(first|refine wDB ?_|refine awp_seq_k fun K hK=>?_|refine wN fun bx=>?_|(refine wH ?_;clear hK))
   exact fnQ_ret 0 rfl .nil (Sub.refl _) ⟨rfl,⟨x,hb⟩,rfl⟩
 have hlt':(k:Int)<9:=by omega
 have hsn:=nineT_snoc r k
 have hq10:r/10^(k+1)=r/10^k/10:=by rw[Nat.pow_succ,Nat.div_div_eq_div_mul]
 have hql:r/10^k≤r:=Nat.div_le_self _ _
 generalize r/10^k=q at*
 have E:IntKind.u8.wrap (48+IntKind.u8.wrap ((q:Int)%10))=(((digC (q%10)).toNat:Nat):Int):=by
  rw[digC_nat (Nat.mod_lt _ (by decide))]
  have w8:∀z:Int,IntKind.u8.wrap z=z%256:=fun _=>rfl
  rw[w8,w8]
  omega
 have hyl:(xs++nineT r k).length=xs.length+k:=by rw[List.length_append,nineT_len]
 have hys:xs++nineT r (k+1)=(xs++nineT r k)++[digC (q%10)]:=by rw[hsn,List.append_assoc]
 have hq':((r/10^(k+1):Nat):Int)=(q:Int)/10:=by rw[hq10];rfl
 generalize xs++nineT r k=ys at*
 match b,hb with
 |none,hb=>
  have hb:xs.length+k=0:=hb
  obtain rfl:ys=[]:=List.eq_nil_of_length_eq_zero (by omega)
  simp only[bufV,bufH]
  repeat(first|refine wDB ?_|refine awp_seq_k fun K hK=>?_|refine wN fun bx=>?_|(refine wH ?_;clear hK))
  refine qappO tyok byE [digC (q%10)] (fun g' c' h1 h2=>?_) (fun j hj=>?_) (Nat.succ_pos _) ?_
  rotate_left
  ·obtain rfl:j=0:=by simpa using hj
   exact congrArg (fun z:Int=>[AV.int .u8 z]) E
  ·simp only[List.length_singleton]
   omega
  repeat(first|refine wDB ?_|refine awp_seq_k fun K hK=>?_|refine wN fun bx=>?_|(refine wH ?_;clear hK))
  refine⟨⟨(k+1,some (g',c')),by simp only;omega,?_⟩,⟨⟨_,rfl,Sub.refl _⟩,⟨_,rfl,Sub.refl _⟩,⟨_,rfl,Sub.of_eq (by simp only[hq'])⟩,⟨_,rfl,Sub.refl _⟩,⟨_,rfl,Sub.refl _⟩,True.intro⟩,?_,by simp only;omega⟩
  ·have h1:1≤c':=h1
   exact⟨by simp only;omega,h2⟩
  ·simp only
   rw[show xs.length+(k+1)=1 by omega,hys]
   exact qpm
 |some x,hb=>
  have hb:xs.length+k≤x.2∧x.2≤maxLen:=hb
  simp only[bufV,bufH]
  rw[←hyl]
  repeat(first|refine wDB ?_|refine awp_seq_k fun K hK=>?_|refine wN fun bx=>?_|(refine wH ?_;clear hK))
  refine qappB tyok byE ys [digC (q%10)] (fun j hj=>?_) (fun _ _=>rfl) (by omega) hb.2 ?_ (fun g' c' h1 h2=>?_)
  ·obtain rfl:j=0:=by simpa using hj
   exact congrArg (fun z:Int=>[AV.int .u8 z]) E
  ·simp only[List.length_singleton]
   omega
  repeat(first|refine wDB ?_|refine awp_seq_k fun K hK=>?_|refine wN fun bx=>?_|(refine wH ?_;clear hK))
  refine⟨⟨(k+1,some (g',c')),by simp only;omega,?_⟩,⟨⟨_,rfl,Sub.refl _⟩,⟨_,rfl,Sub.refl _⟩,⟨_,rfl,Sub.of_eq (by simp only[hq'])⟩,⟨_,rfl,Sub.refl _⟩,⟨_,rfl,Sub.refl _⟩,True.intro⟩,?_,by simp only;omega⟩
  ·have h1:ys.length+1≤c':=h1
   exact⟨by simp only;omega,h2⟩
  ·simp only
   rw[show xs.length+(k+1)=ys.length+1 by omega,hys]
   exact qpm
theorem row_less (cap:Nat) (xs:List UInt8) (i:Nat):Sub (rowVec byE 1 cap xs) (rowVec byE 1 cap (xs.take i)):=by
 rw[rowVec_eq,rowVec_eq]
 intro st w c h
 cases h with
 |vec _ _ cs hl hr ho=>
  refine .vec _ _ cs hl (fun j x hx=>?_) ho
  have h1:=hr j x hx
  unfold rowEl at h1 ⊢
  by_cases hj:j/1<i
  ·rw[List.getElem?_take_of_lt hj]
   exact h1
  ·rw[List.getElem?_eq_none (by rw[List.length_take];omega)]
   exact .any _
section
variable {P:Program} {n:Nat} {T:Tmps} {Q:APost}
theorem awp_less {c:Code} (G1:AHeap) {G2 H2:AHeap} {g cap:Nat} {e:TypeId} {xs:List UInt8} (i:Nat) (h:AWP P n c T H2 Q) (happ:AppL G1 (rowY g e cap (xs.take i)::G2) H2:=by(first|exact .nil|exact .cons (.nil)|exact .cons (.cons (.nil))|exact .cons (.cons (.cons (.nil)))|exact .cons (.cons (.cons (.cons (.nil))))|exact .cons (.cons (.cons (.cons (.cons (.nil)))))|exact .cons (.cons (.cons (.cons (.cons (.cons (.nil))))))|exact .cons (.cons (.cons (.cons (.cons (.cons (.cons (.nil)))))))|exact .cons (.cons (.cons (.cons (.cons (.cons (.cons (.cons (.nil))))))))|exact .cons (.cons (.cons (.cons (.cons (.cons (.cons (.cons (.cons (.nil)))))))))|exact .cons (.cons (.cons (.cons (.cons (.cons (.cons (.cons (.cons (.cons (.nil))))))))))|exact .cons (.cons (.cons (.cons (.cons (.cons (.cons (.cons (.cons (.cons (.cons (.nil))))))))))))):AWP P n c T (G1++rowY g e cap xs::G2) Q:=
 awp_boxSub G1 (row_less cap xs i) h happ
end
theorem nineT_take (r:Nat) {i k:Nat} (h:i≤k):(nineT r k).take i=nineT r i:=by
 unfold nineT
 rw[show k=i+(k-i) by omega,padd_add,List.map_append,List.take_left' (by rw[List.length_map,padd_len])]
theorem nineT_more (N k:Nat):nineT N (k+9)=nineT N k++nineT (N/10^k%1000000000) 9:=by
 unfold nineT
 rw[padd_add,List.map_append,show(1000000000:Nat)=10^9 by decide,padd_mod]
theorem nineT_get (N k:Nat):(nineT N (k+1)).getD k 0=digC (N/10^k%10):=by
 rw[nineT_snoc,List.getD_eq_getElem?_getD,List.getElem?_append_right (by rw[nineT_len];exact Nat.le_refl _),nineT_len,Nat.sub_self]
 rfl
theorem nineT_dec {N i:Nat} (h:N<10^(i+1)) (h0:N/10^i%10≠0):(nineT N (i+1)).reverse=decDigits N:=by
 have hN:N≠0:=by
  rintro rfl
  rw[Nat.zero_div]at h0
  exact h0 rfl
 unfold nineT
 rw[padd_digs (by decide) h h0,dec_digs N hN,List.map_reverse]
theorem dec_bound {k:Nat} {a:List Nat} (h:LimOk k a):∃K,K≤10*k∧valB B32 a<10^K:=⟨10*k,Nat.le_refl _,b32_dec (Nat.lt_of_lt_of_le (val_lt h.lt) (b32_le h.len))⟩
theorem digs_mono {a b k:Nat} (h:a≤b) (hl:(digs B32 b).length≤k):(digs B32 a).length≤k:=(digs_len B32_two).2 (Nat.lt_of_le_of_lt h ((digs_len B32_two).1 hl))
theorem cbDText:Callable Tryz.prog 92:=fun _ _=>by kernel_rfl
theorem dtext_c (x:IntR) (h:LimOk 1000000 x.mag):PCalls Tryz.prog 92 [.agg (intEs x)] (.str (textI x.neg (valB B32 x.mag))):=by
 refine pcalls_of_awp tyok cbDText Tryz.func92 rfl rfl ?_
 obtain⟨neg,mag⟩:=x
 simp only at h ⊢
 have gT:=trimV_c mag (LimOk.mono h (by decide))
 obtain⟨KN,hKN,hNb⟩:=dec_bound h
 have hdl:=(LimOk.digs (Nat.lt_of_lt_of_le (val_lt h.lt) (b32_le h.len))).len
 generalize valB B32 mag=N at gT hNb hdl ⊢
 have hP:∀k,10^k≤N→k<10000000:=fun k hk=>by
  have:=(Nat.pow_lt_pow_iff_right (a:=10) (by decide)).1 (Nat.lt_of_le_of_lt hk hNb)
  omega
 clear hNb
 ((repeat(first|refine wDB ?_|refine awp_seq_k fun K hK=>?_|refine wC gT ?_|(refine wH ?_;clear hK)));refine wN fun b1=>?_;(repeat(first|refine wDB ?_|refine awp_seq_k fun K hK=>?_|refine wC gT ?_|(refine wH ?_;clear hK)));refine wN fun b3=>?_;(repeat(first|refine wDB ?_|refine awp_seq_k fun K hK=>?_|refine wC gT ?_|(refine wH ?_;clear hK)));refine wN fun b4=>?_;(repeat(first|refine wDB ?_|refine awp_seq_k fun K hK=>?_|refine wN fun bx=>?_|refine wC gT ?_|(refine wH ?_;clear hK))))
 refine awp_perm (List.Perm.trans (List.Perm.swap _ _ _) (List.Perm.trans (List.Perm.cons _ (List.Perm.swap _ _ _)) (List.Perm.swap _ _ _))) ?_
 refine awp_loopP (ι:={y:Nat×Buf//BufI y.2 (9*y.1)∧9*y.1≤10000009}) (fun y=>[(1,.ptr b1 0),(3,.ptr b3 0),(4,.ptr b4 0),(5,.func (.func 138) [] [.ptr b3 0,.ptr b4 0])])
  (fun y=>.box b1 42 (.agg (intEs ⟨neg,mag⟩))::.box b3 40 (lims (digs B32 (N/10^(9*y.1.1))))::.box b4 77 (bufV y.1.2 (9*y.1.1))::bufH y.1.2 (nineT N (9*y.1.1))) (fun y=>N/10^(9*y.1.1))
  ⟨(0,none),rfl,by decide⟩ wk ⟨[],by simp only[Nat.mul_zero,Nat.pow_zero,Nat.div_one];exact List.Perm.refl _⟩ ?_
 rintro⟨⟨m,o⟩,ho,hm⟩
 simp only at ho hm ⊢
 have hmore:=nineT_more N (9*m)
 have hA10:N/10^(9*(m+1))=N/10^(9*m)/1000000000:=by
  rw[show 9*(m+1)=9*m+9 by omega,Nat.pow_add,Nat.div_div_eq_div_mul]
 have hAd:N/10^(9*m)=0→N<10^(9*m):=fun e=>(Nat.div_eq_zero_iff_lt (Nat.pow_pos (by decide))).1 e
 have hAp:N/10^(9*m)≠0→9*m<10000000:=fun e=>hP _ (by
  rcases Nat.lt_or_ge N (10^(9*m))with h|h
  ·exact absurd (Nat.div_eq_of_lt h) e
  ·exact h)
 have hAle:N/10^(9*m)≤N:=Nat.div_le_self _ _
 have hdl:LimOk 1000000000 (digs B32 (N/10^(9*m))):=⟨digs_lt B32_two _,Nat.le_trans (digs_mono hAle hdl) (by decide)⟩
 generalize hA:N/10^(9*m)=A at*
 by_cases h0:A≠0
 ·have hd0:(digs B32 A).length≠0:=fun e=>h0 ((digs_nil B32_two).1 (List.eq_nil_of_length_eq_zero e))
  have hgt:((digs B32 A).length:Int)>0:=by omega
  have hm1:=hAp h0
  have gK:=take9_c b3 b4 A o (nineT N (9*m)) (by rw[nineT_len];exact ho) hdl (by rw[nineT_len];omega)
  rw[nineT_len,←hmore]at gK
  repeat(first|refine wDB ?_|refine awp_seq_k fun K hK=>?_|refine wN fun bx=>?_|(refine wH ?_;clear hK))
  refine qcallX (G:=[.box b1 42 (.agg (intEs ⟨neg,mag⟩))]) (H2:=fun y=>.box b1 42 (.agg (intEs ⟨neg,mag⟩))::[.box b3 40 (lims (digs B32 (A/1000000000))),.box b4 77 (.mslice y.1.1 0 (9*m+9) y.1.2),rowY y.1.1 5 y.1.2 (nineT N (9*m+9))]) gK ?_
  rintro⟨⟨g,cap⟩,hg⟩
  simp only at hg ⊢
  repeat(first|refine wDB ?_|refine awp_seq_k fun K hK=>?_|refine wN fun bx=>?_|(refine wH ?_;clear hK))
  refine⟨⟨(m+1,some (g,cap)),by rw[show 9*(m+1)=9*m+9 by omega];exact hg,by simp only;omega⟩,wk,⟨[],?_⟩,?_⟩
  ·simp only[bufV,bufH]
   rw[hA10,show 9*(m+1)=9*m+9 by omega]
   exact List.Perm.refl _
  ·simp only
   rw[hA10]
   exact Nat.div_lt_self (by omega) (by decide)
 have h0:A=0:=by omega
 subst h0
 have hN:=hAd rfl
 have hge:¬((digs B32 0).length:Int)>0:=by rw[digs_zero];decide
 match o,ho with
 |none,ho=>
  have ho:9*m=0:=ho
  have hN0:N=0:=by
   rw[ho,Nat.pow_zero]at hN
   omega
  simp only[bufV,bufH]
  repeat(first|refine wDB ?_|refine awp_seq_k fun K hK=>?_|refine wN fun bx=>?_|(refine wH ?_;clear hK))
  refine awp_loopP (ι:=Unit) (fun _=>[(1,.ptr b1 0),(4,.ptr b4 0)]) (fun _=>[.box b1 42 (.agg (intEs ⟨neg,mag⟩)),.box b4 77 .nils]) (fun _=>0) () wk qpm ?_
  rintro⟨⟩
  repeat(first|refine wDB ?_|refine awp_seq_k fun K hK=>?_|refine wN fun bx=>?_|(refine wH ?_;clear hK))
  refine r1 ?_
  refine Sub.of_eq ?_
  unfold textI
  rw[if_neg (by omega),hN0,dec_zero]
 |some y,ho=>
  have ho:9*m≤y.2∧y.2≤maxLen:=ho
  simp only[bufV,bufH]
  generalize 9*m=q at*
  repeat(first|refine wDB ?_|refine awp_seq_k fun K hK=>?_|refine wN fun bx=>?_|(refine wH ?_;clear hK))
  refine awp_loopP (ι:={i:Nat//i≤q∧N<10^i}) (fun _=>[(1,.ptr b1 0),(4,.ptr b4 0)]) (fun i=>[.box b1 42 (.agg (intEs ⟨neg,mag⟩)),.box b4 77 (.mslice y.1 0 i.1 y.2),rowY y.1 5 y.2 (nineT N q)]) (fun i=>i.1) ⟨q,Nat.le_refl _,hN⟩ wk qpm ?_
  rintro⟨i,hi,hNi⟩
  simp only at hi hNi ⊢
  cases i with
  |zero=>
   have hN0:N=0:=by
    rw[Nat.pow_zero]at hNi
    omega
   repeat(first|refine wDB ?_|refine awp_seq_k fun K hK=>?_|refine wN fun bx=>?_|(refine wH ?_;clear hK))
   refine r1 ?_
   refine Sub.of_eq ?_
   unfold textI
   rw[if_neg (by omega),hN0,dec_zero]
  |succ j=>
   have hgt:((j+1:Nat):Int)>0:=by omega
   have ej:(((j+1:Nat):Int)-1).toNat=j:=by omega
   have hget:(nineT N q).getD j 0=digC (N/10^j%10):=by
    rw[←nineT_get,←nineT_take N hi,List.getD_eq_getElem?_getD,List.getD_eq_getElem?_getD,List.getElem?_take_of_lt (by omega)]
   have hd10:N/10^j%10<10:=Nat.mod_lt _ (by decide)
   by_cases hd:N/10^j%10=0
   ·have e48:(((nineT N q).getD j 0).toNat:Int)=48:=by
     rw[hget,hd]
     rfl
    have hless:=padd_less (by decide) hNi hd
    repeat(first|refine wDB ?_|refine awp_seq_k fun K hK=>?_|refine wN fun bx=>?_|(refine wH ?_;clear hK))
    refine qldY (cap:=y.2) (nineT N q) j ?_ ?_ (by rw[nineT_len];omega) (by rw[nineT_len];omega)
    ·rw[ej]
     omega
    repeat(first|refine wDB ?_|refine awp_seq_k fun K hK=>?_|refine wN fun bx=>?_|(refine wH ?_;clear hK))
    refine qslH tyok ?_
    repeat(first|refine wDB ?_|refine awp_seq_k fun K hK=>?_|refine wN fun bx=>?_|(refine wH ?_;clear hK))
    exact⟨⟨j,by omega,hless⟩,wk,(by rw[ej];(repeat(first|exact pickNil|refine pickD (by(first|exact .here|exact .there (.here)|exact .there (.there (.here))|exact .there (.there (.there (.here)))|exact .there (.there (.there (.there (.here))))|exact .there (.there (.there (.there (.there (.here)))))|exact .there (.there (.there (.there (.there (.there (.here))))))|exact .there (.there (.there (.there (.there (.there (.there (.here)))))))|exact .there (.there (.there (.there (.there (.there (.there (.there (.here))))))))|exact .there (.there (.there (.there (.there (.there (.there (.there (.there (.here))))))))))) ?_))),by simp only;omega⟩
   ·have e48:¬(((nineT N q).getD j 0).toNat:Int)=48:=fun e=>hd ((digC_zero hd10).1 (by
     rw[hget]at e
     exact UInt8.toNat_inj.1 (show(digC (N/10^j%10)).toNat=48 by omega)))
    have hdec:=nineT_dec hNi hd
    repeat(first|refine wDB ?_|refine awp_seq_k fun K hK=>?_|refine wN fun bx=>?_|(refine wH ?_;clear hK))
    refine qldY (cap:=y.2) (nineT N q) j ?_ ?_ (by rw[nineT_len];omega) (by rw[nineT_len];omega)
    ·rw[ej]
     omega
    repeat(first|refine wDB ?_|refine awp_seq_k fun K hK=>?_|refine wN fun bx=>?_|(refine wH ?_;clear hK))
    have hyl:=nineT_len N (j+1)
    have hN0:N≠0:=by
     rintro rfl
     rw[Nat.zero_div]at hd
     exact hd rfl
    refine awp_less [_,_] (j+1) ?_
    rw[nineT_take N hi]
    generalize nineT N (j+1)=ys at*
    cases neg with
    |false=>
     rw[←hyl]
     have hzl:ys.length≤y.2:=by omega
     repeat(first|refine wDB ?_|refine awp_seq_k fun K hK=>?_|refine wN fun bx=>?_|(refine wH ?_;clear hK))
     (first|refine qcallE .here (rev_c y.1 y.2 ys hzl (by omega)) ?_|refine qcallE (.there .here) (rev_c y.1 y.2 ys hzl (by omega)) ?_|refine qcallE (.there (.there .here)) (rev_c y.1 y.2 ys hzl (by omega)) ?_|refine qcallE (.there (.there (.there .here))) (rev_c y.1 y.2 ys hzl (by omega)) ?_|refine qcallE (.there (.there (.there (.there .here)))) (rev_c y.1 y.2 ys hzl (by omega)) ?_)
     rw[show ys.length=ys.reverse.length from List.length_reverse.symm]
     repeat(first|refine wDB ?_|refine awp_seq_k fun K hK=>?_|refine wN fun bx=>?_|(refine wH ?_;clear hK))
     refine qbstr tyok ys.reverse (by rw[List.length_reverse];exact hzl) ?_
     repeat(first|refine wDB ?_|refine awp_seq_k fun K hK=>?_|refine wN fun bx=>?_|(refine wH ?_;clear hK))
     refine r1 ?_
     refine Sub.of_eq ?_
     unfold textI
     rw[if_neg (fun e=>Bool.noConfusion e.2),hdec]
    |true=>
     rw[←hyl]
     repeat(first|refine wDB ?_|refine awp_seq_k fun K hK=>?_|refine wN fun bx=>?_|(refine wH ?_;clear hK))
     refine qappB tyok byE ys [45] (fun z hz=>?_) (fun _ _=>rfl) (by omega) ho.2 ?_ (fun g' c' h1 h2=>?_)
     ·obtain rfl:z=0:=by simpa using hz
      exact rfl
     ·simp only[List.length_singleton]
      omega
     rw[show ys.length+[(45:UInt8)].length=(ys++[45]).length from List.length_append.symm]at h1 ⊢
     have hzr:(ys++[45]).reverse=45::decDigits N:=by rw[List.reverse_append,hdec];rfl
     have hzb:(ys++[45]).length≤1000000000000:=by rw[List.length_append];simp only[List.length_singleton];omega
     generalize ys++[45]=zs at*
     repeat(first|refine wDB ?_|refine awp_seq_k fun K hK=>?_|refine wN fun bx=>?_|(refine wH ?_;clear hK))
     (first|refine qcallE .here (rev_c g' c' zs h1 hzb) ?_|refine qcallE (.there .here) (rev_c g' c' zs h1 hzb) ?_|refine qcallE (.there (.there .here)) (rev_c g' c' zs h1 hzb) ?_|refine qcallE (.there (.there (.there .here))) (rev_c g' c' zs h1 hzb) ?_|refine qcallE (.there (.there (.there (.there .here)))) (rev_c g' c' zs h1 hzb) ?_)
     rw[show zs.length=zs.reverse.length from List.length_reverse.symm]
     repeat(first|refine wDB ?_|refine awp_seq_k fun K hK=>?_|refine wN fun bx=>?_|(refine wH ?_;clear hK))
     refine qbstr tyok zs.reverse (by rw[List.length_reverse];exact h1) ?_
     repeat(first|refine wDB ?_|refine awp_seq_k fun K hK=>?_|refine wN fun bx=>?_|(refine wH ?_;clear hK))
     refine r1 ?_
     refine Sub.of_eq ?_
     unfold textI
     rw[if_pos ⟨hN0,rfl⟩,hzr]
end Go.Proofs.YtamgilppehibeaaGreatDoor
namespace Go.Proofs.YtamgilppehibeaaGreatDoor
open Go.Ab Go.Lib
theorem cbTLimb:Callable Tryz.prog 152:=fun _ _=>by kernel_rfl
theorem tlimb_c (a:List Nat) (d:Nat) (h:LimOk 100000000 a) (hd:d<B32):PCalls Tryz.prog 152 [lims a,.int .u32 d] (lims (digs B32 (valB B32 a*d))):=by
 refine pcalls_of_awp tyok cbTLimb Tryz.func152 rfl rfl ?_
 have g:=(trows_c a [d] h ⟨fun x hx=>by rw[List.mem_singleton.1 hx];exact hd,by simp⟩).sub (vs:=[lims a,.slice 1 1 (chunk [.int .u32 d] 1) .full]) (.cons (Sub.refl _) (.cons (oneS limE d (SubL.refl _)) .nil))
 rw[show valB B32 [d]=d by simp[valB]]at g
 repeat(first|refine wD ?_|refine awp_seq_k fun K hK=>?_|refine wN fun bx=>?_|refine wC g ?_|(refine wH ?_;clear hK))
 refine r1 ?_
 exact Sub.refl _
abbrev bytV (s:List UInt8):AV:=sl byE 1 s .view
theorem int0_sub:Sub (.agg [.bool false,.nils]) (.agg (intEs ⟨false,[]⟩)):=subAgg (.cons (Sub.refl _) (.cons (Sub.nilsv _ _) .nil))
def restD (neg:Bool) (b:List UInt8):Option (Bool×Nat):=if b=[]∨(b.head?=some 48∧(1<b.length∨neg=true)) then none else if b.all isD then some (neg,decV b) else none
theorem parseD_rest (s:List UInt8):parseD s=restD (decide (s.head?=some 45)) (if decide (s.head?=some 45) then s.drop 1 else s):=rfl
def outR (x:Option (Bool×Nat)):IntR×Int:=match x with
 |some y=>(⟨y.1,digs B32 y.2⟩,0)
 |none=>(⟨false,[]⟩,4)
theorem sub_take {l:List UInt8} {k:Nat} (hk:k≤l.length):Sub (.slice 1 k (fun i=>byE (l.getD i default)) .view) (bytV (l.take k)):=by
 have e:(l.take k).length=k:=by rw[List.length_take];omega
 unfold bytV Ab.sl
 rw[e]
 refine Sub.el fun i hi=>?_
 rw[List.getD_eq_getElem?_getD,List.getD_eq_getElem?_getD,List.getElem?_take_of_lt hi]
theorem sub_drop {l:List UInt8} {k:Nat}:Sub (.slice 1 (l.length-k) (fun i=>byE (l.getD (k+i) default)) .view) (bytV (l.drop k)):=by
 unfold bytV Ab.sl
 rw[List.length_drop]
 refine Sub.el fun i hi=>?_
 rw[List.getD_eq_getElem?_getD,List.getD_eq_getElem?_getD,List.getElem?_drop]
theorem isD_iff {c:UInt8}:isD c=true↔48≤c.toNat∧c.toNat≤57:=by
 unfold isD
 rw[Bool.and_eq_true,decide_eq_true_eq,decide_eq_true_eq]
theorem cbDParse:Callable Tryz.prog 101:=fun _ _=>by kernel_rfl
theorem dparse_c (s:List UInt8) (hs:s.length≤20000):PCalls Tryz.prog 101 [.str s] (.tuple [.agg (intEs (outR (parseD s)).1),.int .i64 (outR (parseD s)).2]):=by
 refine pcalls_of_awp tyok cbDParse Tryz.func101 rfl rfl ?_
 have hng:¬(s.length:Int)>20000:=by omega
 ((repeat(first|refine wDB ?_|refine awp_seq_k fun K hK=>?_|(refine wH ?_;clear hK)));refine wN fun b2=>?_;(repeat(first|refine wDB ?_|refine awp_seq_k fun K hK=>?_|refine wN fun bx=>?_|(refine wH ?_;clear hK))))
 refine qmakeN tyok (m:=s.length) (k:=.u8) (fun g=>?_) ?_
 rotate_left
 ·simp only
  omega
 unfold rowN
 rw[List.length_replicate]
 repeat(first|refine wDB ?_|refine awp_seq_k fun K hK=>?_|refine wN fun bx=>?_|(refine wH ?_;clear hK))
 refine qcopyS tyok s ?_
 (((repeat(first|refine wT ?_|refine wN fun bx=>?_)));(try refine wP ?_);repeat(refine wH ?_;clear hK))
 refine awp_freezeY [] (s:=4) rfl (Nat.le_refl _) ?_
 rw[parseD_rest]
 generalize hn:decide (s.head?=some 45)=neg
 refine awp_seq_k fun K0 hK0=>?_
 refine(have h0:∀T',Weak T' [(2,.ptr b2 0),(4,bytV s),(5,.bool neg)]→K0 T' [.box b2 42 (.agg [.bool false,.nils])]:=cutK (Wk:=[(2,.ptr b2 0),(4,bytV s),(5,.bool neg)]) (H0:=[.box b2 42 (.agg [.bool false,.nils])]) hK0 ?_;?_)
 rotate_left
 ·clear hK0
  match s,hs,hn with
  |[],_,hn=>
   have e0:(([]:List UInt8).length:Int)=0:=rfl
   have hn:false=neg:=hn
   subst hn
   repeat(first|refine wDB ?_|refine awp_seq_k fun K hK=>?_|refine wN fun bx=>?_|(refine wH ?_;clear hK))
   exact h0 _ wk
  |c::r,_,hn=>
   have e1:(((c::r):List UInt8).length:Int)>0:=by rw[List.length_cons];omega
   by_cases hc:(c.toNat:Int)=45
   ·have h45:c=45:=UInt8.toNat_inj.1 (show c.toNat=45 by omega)
    have hn:true=neg:=by rw[←hn,h45];rfl
    subst hn
    repeat(first|refine wDB ?_|refine awp_seq_k fun K hK=>?_|refine wN fun bx=>?_|(refine wH ?_;clear hK))
    exact h0 _ wk
   ·have hn:false=neg:=by
     rw[←hn]
     refine(decide_eq_false fun e=>hc ?_).symm
     rw[Option.some.inj e]
     rfl
    subst hn
    repeat(first|refine wDB ?_|refine awp_seq_k fun K hK=>?_|refine wN fun bx=>?_|(refine wH ?_;clear hK))
    exact h0 _ wk
 refine awp_seq_k fun K1 hK1=>?_
 refine(have h1:∀b:List UInt8,b.length≤20000→restD neg b=restD neg (if neg then s.drop 1 else s)→∀T',Weak T' [(2,.ptr b2 0),(4,bytV b),(5,.bool neg)]→K1 T' [.box b2 42 (.agg [.bool false,.nils])]:=fun b hb hp=>cutK (Wk:=[(2,.ptr b2 0),(4,bytV b),(5,.bool neg)]) (H0:=[.box b2 42 (.agg [.bool false,.nils])]) hK1 ?_;?_)
 rotate_left
 ·clear hK1
  cases neg with
  |false=>
   repeat(first|refine wDB ?_|refine awp_seq_k fun K hK=>?_|refine wN fun bx=>?_|(refine wH ?_;clear hK))
   exact h1 s hs rfl _ wk
  |true=>
   match s,hs,hn with
   |c::r,hs,_=>
    repeat(first|refine wDB ?_|refine awp_seq_k fun K hK=>?_|refine wN fun bx=>?_|(refine wH ?_;clear hK))
    exact h1 r (Nat.le_of_succ_le hs) rfl _ wk
 rw[←hp]
 clear hp hK1 hK0 K1 K0 hs hn hng
 refine awp_seq_k fun K2 hK2=>?_
 refine(have h2:(b≠[]∧¬(b.head?=some 48∧(1<b.length∨neg=true)))→∀T',Weak T' [(2,.ptr b2 0),(4,bytV b),(5,.bool neg)]→K2 T' [.box b2 42 (.agg [.bool false,.nils])]:=fun hgood=>cutK (Wk:=[(2,.ptr b2 0),(4,bytV b),(5,.bool neg)]) (H0:=[.box b2 42 (.agg [.bool false,.nils])]) hK2 ?_;?_)
 rotate_left
 ·clear hK2
  match b,hb with
  |[],_=>
   have e0:(([]:List UInt8).length:Int)=0:=rfl
   repeat(first|refine wDB ?_|refine awp_seq_k fun K hK=>?_|refine wN fun bx=>?_|(refine wH ?_;clear hK))
   refine rcB ?_ ?_
   ·exact int0_sub
   ·exact Sub.refl _
  |c::r,hb=>
   have e1:¬(((c::r):List UInt8).length:Int)=0:=by rw[List.length_cons];omega
   have hrl:((c::r).length:Int)=(r.length:Int)+1:=by rw[List.length_cons];omega
   by_cases hc:(c.toNat:Int)=48
   ·have h48:c=48:=UInt8.toNat_inj.1 (show c.toNat=48 by omega)
    subst h48
    by_cases hl:((48::r:List UInt8).length:Int)>1
    ·have hR:restD neg (48::r)=none:=if_pos (.inr ⟨rfl,.inl (by omega)⟩)
     rw[hR]
     repeat(first|refine wDB ?_|refine awp_seq_k fun K hK=>?_|refine wN fun bx=>?_|(refine wH ?_;clear hK))
     refine rcB ?_ ?_
     ·exact int0_sub
     ·exact Sub.refl _
    ·cases neg with
     |true=>
      have hR:restD true (48::r)=none:=if_pos (.inr ⟨rfl,.inr rfl⟩)
      rw[hR]
      repeat(first|refine wDB ?_|refine awp_seq_k fun K hK=>?_|refine wN fun bx=>?_|(refine wH ?_;clear hK))
      refine rcB ?_ ?_
      ·exact int0_sub
      ·exact Sub.refl _
     |false=>
      repeat(first|refine wDB ?_|refine awp_seq_k fun K hK=>?_|refine wN fun bx=>?_|(refine wH ?_;clear hK))
      exact h2 ⟨List.cons_ne_nil _ _,fun e=>e.2.elim (fun h=>hl (by omega)) fun h=>by cases h⟩ _ wk
   ·repeat(first|refine wDB ?_|refine awp_seq_k fun K hK=>?_|refine wN fun bx=>?_|(refine wH ?_;clear hK))
    exact h2 ⟨List.cons_ne_nil _ _,fun e=>hc (by rw[Option.some.inj e.1];rfl)⟩ _ wk
 have hR:restD neg b=if b.all isD then some (neg,decV b) else none:=if_neg fun e=>e.elim hgood.1 hgood.2
 rw[hR]
 clear hR hK2 K2 hgood
 repeat(first|refine wDB ?_|refine awp_seq_k fun K hK=>?_|refine wN fun bx=>?_|(refine wH ?_;clear hK))
 refine awp_loopP (ι:={y:List UInt8×List UInt8//b=y.1++y.2∧∀c∈y.1,isD c=true}) (fun y=>[(2,.ptr b2 0),(4,bytV y.1.2),(5,.bool neg),(6,lims (digs B32 (decV y.1.1)))])
  (fun _=>[.box b2 42 (.agg [.bool false,.nils])]) (fun y=>y.1.2.length) ⟨([],b),rfl,fun c hc=>absurd hc List.not_mem_nil⟩ ⟨⟨_,rfl,Sub.refl _⟩,⟨_,rfl,Sub.refl _⟩,⟨_,rfl,Sub.refl _⟩,⟨_,rfl,Sub.nilsv _ _⟩,True.intro⟩ qpm ?_
 rintro⟨⟨pre,l⟩,hbe,hpre⟩
 simp only at hbe hpre ⊢
 have hll:l.length≤20000:=by
  rw[hbe,List.length_append]at hb
  omega
 have hpl:pre.length≤20000:=by
  rw[hbe,List.length_append]at hb
  omega
 cases hl0:l with
 |nil=>
  have e0:¬(([]:List UInt8).length:Int)>0:=by decide
  have hall:b.all isD=true:=List.all_eq_true.2 (by rw[hbe,hl0,List.append_nil];exact hpre)
  have hbp:b=pre:=by rw[hbe,hl0,List.append_nil]
  repeat(first|refine wDB ?_|refine awp_seq_k fun K hK=>?_|refine wN fun bx=>?_|(refine wH ?_;clear hK))
  refine rcB ?_ ?_
  ·rw[if_pos hall,hbp]
   exact Sub.refl _
  ·rw[if_pos hall]
   exact Sub.refl _
 |cons c0 r0=>
 rw[←hl0]
 have e1:(l.length:Int)>0:=by rw[hl0,List.length_cons];omega
 have emin:(if(l.length:Int)<9 then(l.length:Int) else 9).toNat=min 9 l.length:=by split<;>omega
 have hml:min 9 l.length≤l.length:=Nat.min_le_right _ _
 generalize hk:min 9 l.length=k at*
 have hk9:k≤9:=by omega
 have hk1:1≤k:=by omega
 have hbk:0≤(if(l.length:Int)<9 then(l.length:Int) else 9)∧(if(l.length:Int)<9 then(l.length:Int) else 9)≤(l.length:Int):=by split<;>omega
 have htl:(l.take k).length=k:=by rw[List.length_take];omega
 repeat(first|refine wDB ?_|refine awp_seq_k fun K hK=>?_|refine wN fun bx=>?_|(refine wH ?_;clear hK))
 refine awp_loopP (ι:={i:Nat//i≤k∧∀c∈(l.take k).take i,isD c=true}) (fun i=>[(2,.ptr b2 0),(4,bytV l),(5,.bool neg),(6,lims (digs B32 (decV pre))),(7,.int .u32 ((decV ((l.take k).take i.1):Nat):Int)),(8,.int .u32 ((10^i.1:Nat):Int)),(58,bytV (l.take k)),(59,.int .i64 k),(60,.int .i64 i.1)])
  (fun _=>[.box b2 42 (.agg [.bool false,.nils])]) (fun i=>k-i.1) ⟨0,Nat.zero_le _,fun c hc=>by rw[List.take_zero]at hc;exact absurd hc List.not_mem_nil⟩ ⟨⟨_,rfl,Sub.refl _⟩,⟨_,rfl,Sub.refl _⟩,⟨_,rfl,Sub.refl _⟩,⟨_,rfl,Sub.refl _⟩,⟨_,rfl,Sub.refl _⟩,⟨_,rfl,Sub.refl _⟩,⟨_,rfl,by rw[emin];exact sub_take hml⟩,⟨_,rfl,Sub.of_eq (by rw[emin])⟩,⟨_,rfl,Sub.refl _⟩,True.intro⟩ qpm ?_
 rintro⟨i,hi,hdig⟩
 simp only at hi hdig ⊢
 by_cases hlt:i<k
 rotate_left
 ·have hge:¬(i:Int)<k:=by omega
  obtain rfl:i=k:=by omega
  rw[List.take_of_length_le (by omega)]at hdig ⊢
  have hpw:10^i≤10^9:=Nat.pow_le_pow_right (by decide) hk9
  have hpb:10^i<B32:=Nat.lt_of_le_of_lt hpw (by decide)
  have hvl:LimOk 100000000 (digs B32 (decV pre)):=⟨digs_lt B32_two _,Nat.le_trans ((digs_len B32_two).2 (Nat.lt_of_lt_of_le (decV_lt hpre) (Nat.pow_le_pow_left (by decide) _))) (by omega)⟩
  have hpc:decV (l.take i)<10^i:=by
   have:=decV_lt hdig
   rw[htl]at this
   exact this
  have gL:=tlimb_c (digs B32 (decV pre)) (10^i) hvl hpb
  rw[val_digs B32_two]at gL
  have hpi:pre.length+i≤20009:=by omega
  have hvl2:LimOk 100000000 (digs B32 (decV pre*10^i)):=⟨digs_lt B32_two _,Nat.le_trans ((digs_len B32_two (k:=pre.length+i)).2 (by
   rw[Nat.pow_add]
   exact Nat.mul_lt_mul'' (Nat.lt_of_lt_of_le (decV_lt hpre) (Nat.pow_le_pow_left (by decide) _)) (Nat.pow_lt_pow_left (by decide) (by omega)))) (by omega)⟩
  have gA:=(add1_c (digs B32 (decV pre*10^i)) [decV (l.take i)] hvl2 ⟨fun x hx=>by rw[List.mem_singleton.1 hx];exact Nat.lt_trans hpc hpb,by simp⟩).sub (vs:=[lims (digs B32 (decV pre*10^i)),.slice 1 1 (chunk [.int .u32 ((decV (l.take i):Nat):Int)] 1) .full]) (.cons (Sub.refl _) (.cons (oneS limE (decV (l.take i)) (SubL.refl _)) .nil))
  have happ:=decV_app pre (l.take i)
  rw[htl]at happ
  rw[val_digs B32_two,show valB B32 [decV (l.take i)]=decV (l.take i) by simp[valB],←happ]at gA
  repeat(first|refine wDB ?_|refine awp_seq_k fun K hK=>?_|refine wN fun bx=>?_|refine wC gL ?_|refine wC gA ?_|(refine wH ?_;clear hK))
  refine⟨⟨(pre++l.take i,l.drop i),by simp only[List.append_assoc,List.take_append_drop];exact hbe,fun c hc=>(List.mem_append.1 hc).elim (hpre c) (hdig c)⟩,⟨⟨_,rfl,Sub.refl _⟩,⟨_,rfl,by rw[emin];exact sub_drop⟩,⟨_,rfl,Sub.refl _⟩,⟨_,rfl,Sub.refl _⟩,True.intro⟩,qpm,?_⟩
  simp only[List.length_drop]
  omega
 have hlt':(i:Int)<k:=by omega
 have hil:i<(l.take k).length:=by omega
 have hsn:(l.take k).take (i+1)=(l.take k).take i++[(l.take k).getD i default]:=by
  rw[List.take_add_one,List.getD_eq_getElem?_getD,List.getElem?_eq_getElem hil]
  rfl
 have hcm:(l.take k).getD i default∈b:=by
  rw[hbe]
  refine List.mem_append.2 (.inr (List.mem_of_mem_take (i:=k) ?_))
  rw[List.getD_eq_getElem?_getD,List.getElem?_eq_getElem hil]
  exact List.getElem_mem hil
 have hbad:isD ((l.take k).getD i default)=false→b.all isD=false:=fun h=>by
  rw[Bool.eq_false_iff]
  intro e
  have:=List.all_eq_true.1 e _ hcm
  rw[h]at this
  cases this
 by_cases c1:(((l.take k).getD ((i:Int)).toNat default).toNat:Int)<48
 ·have hall:=hbad (by rw[Bool.eq_false_iff];intro e;have e:=(isD_iff.1 e).1;have:((l.take k).getD i default).toNat<48:=by {have h:(((l.take k).getD i default).toNat:Int)<48:=c1;omega};omega)
  repeat(first|refine wDB ?_|refine awp_seq_k fun K hK=>?_|refine wN fun bx=>?_|(refine wH ?_;clear hK))
  refine rcB ?_ ?_
  ·rw[if_neg (by rw[hall];decide)]
   exact int0_sub
  ·rw[if_neg (by rw[hall];decide)]
   exact Sub.refl _
 by_cases c2:(((l.take k).getD ((i:Int)).toNat default).toNat:Int)>57
 ·have hall:=hbad (by rw[Bool.eq_false_iff];intro e;have e:=(isD_iff.1 e).2;have h:(((l.take k).getD i default).toNat:Int)>57:=c2;omega)
  repeat(first|refine wDB ?_|refine awp_seq_k fun K hK=>?_|refine wN fun bx=>?_|(refine wH ?_;clear hK))
  refine rcB ?_ ?_
  ·rw[if_neg (by rw[hall];decide)]
   exact int0_sub
  ·rw[if_neg (by rw[hall];decide)]
   exact Sub.refl _
 have d1:¬(((l.take k).getD i default).toNat:Int)<48:=c1
 have d2:¬(((l.take k).getD i default).toNat:Int)>57:=c2
 have hd:isD ((l.take k).getD i default)=true:=isD_iff.2 ⟨by omega,by omega⟩
 have hnl:decV ((l.take k).take i)<10^i:=by
  have:=decV_lt hdig
  rw[List.length_take,Nat.min_eq_left (by omega)]at this
  exact this
 have hpw:10^i≤10^8:=Nat.pow_le_pow_right (by decide) (by omega)
 have w8:∀z:Int,IntKind.u8.wrap z=z%256:=fun _=>rfl
 have w32:∀z:Int,IntKind.u32.wrap z=z%4294967296:=fun _=>rfl
 have hde:decV ((l.take k).take (i+1))=decV ((l.take k).take i)*10+(((l.take k).getD i default).toNat-48):=by rw[hsn,decV_snoc]
 have E1:IntKind.u32.wrap (IntKind.u32.wrap (((decV ((l.take k).take i):Nat):Int)*10)+IntKind.u32.wrap (IntKind.u8.wrap ((((l.take k).getD ((i:Int)).toNat default).toNat:Int)-48)))=((decV ((l.take k).take (i+1)):Nat):Int):=by
  rw[hde]
  show IntKind.u32.wrap (IntKind.u32.wrap (((decV ((l.take k).take i):Nat):Int)*10)+IntKind.u32.wrap (IntKind.u8.wrap ((((l.take k).getD i default).toNat:Int)-48)))=_
  simp only[w8,w32]
  generalize decV ((l.take k).take i)=n at*
  generalize ((l.take k).getD i default).toNat=d at*
  generalize 10^i=q at*
  have:(10^8:Nat)=100000000:=by decide
  omega
 have E2:IntKind.u32.wrap (((10^i:Nat):Int)*10)=((10^(i+1):Nat):Int):=by
  rw[Nat.pow_succ,w32]
  generalize 10^i=q at*
  have:(10^8:Nat)=100000000:=by decide
  omega
 repeat(first|refine wDB ?_|refine awp_seq_k fun K hK=>?_|refine wN fun bx=>?_|(refine wH ?_;clear hK))
 refine⟨⟨i+1,hlt,fun c hc=>?_⟩,⟨⟨_,rfl,Sub.refl _⟩,⟨_,rfl,Sub.refl _⟩,⟨_,rfl,Sub.refl _⟩,⟨_,rfl,Sub.refl _⟩,⟨_,rfl,Sub.of_eq (congrArg (AV.int .u32) E1)⟩,⟨_,rfl,Sub.of_eq (congrArg (AV.int .u32) E2)⟩,⟨_,rfl,Sub.refl _⟩,⟨_,rfl,Sub.refl _⟩,⟨_,rfl,Sub.refl _⟩,True.intro⟩,qpm,by simp only;omega⟩
 rw[hsn]at hc
 rcases List.mem_append.1 hc with hc|hc
 ·exact hdig c hc
 ·rw[List.mem_singleton.1 hc]
  exact hd
end Go.Proofs.YtamgilppehibeaaGreatDoor
