/-
  Layer 3 (divide): DivMod tells the quotient and the rest.
-/
import Derived.Test.YtamgilppehibeaaGreatDoorNdM
import Derived.Test.YtamgilppehibeaaGreatDoorNbM
set_option maxRecDepth 100000
set_option maxHeartbeats 6400000
namespace Go.Proofs.YtamgilppehibeaaGreatDoor
open Go.Ab
section
variable {P:Program} {N:Nat} {ty:TypeId→Option TyI} {T:Tmps} {H:AHeap} {Q:APost} {o:Oper} {l0:List Oper} {LD:LDs} {W:Bool} {l:List (Nat×Oper)} {nn:Nat}
theorem qsl3E (hty:TyOk P ty) {t e:TypeId} {x ya yb yc:Operand} {i ei:TyI} {m cap g off:Nat} {ka kb kc:IntKind} {a b c:Int} {d:Nat} (o' n' c':Nat)
  (k':TR P N ty l0 LD W Q l ((d,.mslice g o' n' c')::T) H)
  (ho:o.op=.slice t x (some ya) (some yb) (some yc):=by exact rfl) (hg:o.guard=none:=by exact rfl) (hd:o.dst=some d:=by exact rfl) (hN:Nat.ble (d+1) N=true:=by exact rfl)
  (hon:optN True T (tmpsOf o.op):=by exact True.intro) (hti:ty t=some i:=by exact rfl) (hk:i.k=.slice e:=by exact rfl) (he:ty e=some ei:=by exact rfl) (hsz:ei.size=1:=by exact rfl)
  (hx:opvL (tmpsOf o.op) T x=some (.mslice g off m cap):=by exact rfl) (ha:opvL (tmpsOf o.op) T ya=some (.int ka a):=by exact rfl) (hb:opvL (tmpsOf o.op) T yb=some (.int kb b):=by exact rfl) (hc:opvL (tmpsOf o.op) T yc=some (.int kc c):=by exact rfl)
  (hh:(0≤a∧a≤b∧b≤c∧c≤(cap:Int)∧a<c)∧off+a.toNat=o'∧b.toNat-a.toNat=n'∧c.toNat-a.toNat=c':=by omega):TR P N ty l0 LD W Q ((nn,o)::l) T H:=by
 obtain⟨h1,rfl,rfl,rfl⟩:=hh
 refine qsl3 hty ?_ ho hg hd hN hon hti hk he hx ha hb hc h1
 rw[hsz,Nat.mul_one]
 exact k'
end
theorem over_part {xs ps:List Nat} {off:Nat} (h:off≤xs.length):((over xs off ps).drop off).take ps.length=ps:=by
 unfold over
 have h1:(xs.take off).length=off:=by rw[List.length_take];omega
 rw[List.append_assoc,List.drop_append_of_le_length (by omega),List.drop_of_length_le (by omega),List.nil_append,List.take_left']
 rfl
theorem over_over {xs ps qs:List Nat} {off:Nat} (h:off+ps.length≤xs.length) (hl:qs.length=ps.length):over (over xs off ps) off qs=over xs off qs:=by
 have h1:(xs.take off).length=off:=by rw[List.length_take];omega
 have h2:(over xs off ps).take off=xs.take off:=by
  unfold over
  rw[List.append_assoc,List.take_append_of_le_length (by omega),List.take_of_length_le (by omega)]
 have h3:(over xs off ps).drop (off+qs.length)=xs.drop (off+qs.length):=by
  unfold over
  rw[hl,List.drop_append_of_le_length (by rw[List.length_append];omega),List.drop_of_length_le (by rw[List.length_append];omega),List.nil_append]
 show(over xs off ps).take off++qs++(over xs off ps).drop (off+qs.length)=_
 rw[h2,h3]
 rfl
theorem over_all {B:Nat} {xs ps:List Nat} {off:Nat} (h:∀z∈xs,z<B) (hp:∀z∈ps,z<B):∀z∈over xs off ps,z<B:=fun z hz=>by
 unfold over at hz
 rcases List.mem_append.1 hz with hz|hz
 ·rcases List.mem_append.1 hz with hz|hz
  ·exact h z (List.mem_of_mem_take hz)
  ·exact hp z hz
 ·exact h z (List.mem_of_mem_drop hz)
theorem cbDm:Callable Tryz.prog 169:=fun _ _=>by kernel_rfl
theorem dm_less (a b:List Nat) (h:LimOk 10000000 a) (k:LimOk 10000000 b) (hlt:valB B32 a<valB B32 b):PCalls Tryz.prog 169 [lims a,lims b] (.tuple [lims (digs B32 (valB B32 a/valB B32 b)),lims (digs B32 (valB B32 a%valB B32 b)),.int .i64 0]):=by
 refine pcalls_of_awp tyok cbDm Tryz.func169 rfl rfl ?_
 have ta:=trimV_c a (h.mono (by decide))
 have tb:=trimV_c b (k.mono (by decide))
 have o1:=h.trim
 have o2:=k.trim
 have gc:=ncmp_c _ _ (o1.mono (show 10000000≤1000000000 by decide)) (o2.mono (show 10000000≤1000000000 by decide))
 rw[val_digs B32_two,val_digs B32_two]at gc
 have hr:cmpN (valB B32 a) (valB B32 b)= -1:=by unfold cmpN;rw[if_pos hlt]
 rw[hr]at gc
 have hn0:¬((digs B32 (valB B32 b)).length:Int)=0:=fun e=>by
  have:digs B32 (valB B32 b)=[]:=List.eq_nil_of_length_eq_zero (by omega)
  rw[digs_nil B32_two]at this
  omega
 repeat(first|refine wDB ?_|refine awp_seq_k fun K hK=>?_|refine wN fun bx=>?_|refine wC ta ?_|refine wC tb ?_|refine wC gc ?_|(refine wH ?_;clear hK))
 refine r3 ?_ ?_ ?_
 ·rw[Nat.div_eq_of_lt hlt]
  exact Sub.nilsv _ _
 ·exact Sub.of_eq (by rw[Nat.mod_eq_of_lt hlt])
 ·exact Sub.refl _
theorem dm_one (a b:List Nat) (h:LimOk 10000000 a) (k:LimOk 10000000 b) (hle:valB B32 b≤valB B32 a) (h1:(digs B32 (valB B32 b)).length=1):PCalls Tryz.prog 169 [lims a,lims b] (.tuple [lims (digs B32 (valB B32 a/valB B32 b)),lims (digs B32 (valB B32 a%valB B32 b)),.int .i64 0]):=by
 refine pcalls_of_awp tyok cbDm Tryz.func169 rfl rfl ?_
 have ta:=trimV_c a (h.mono (by decide))
 have tb:=trimV_c b (k.mono (by decide))
 have o1:=h.trim
 have o2:=k.trim
 have gc:=ncmp_c _ _ (o1.mono (show 10000000≤1000000000 by decide)) (o2.mono (show 10000000≤1000000000 by decide))
 have hvb:=val_digs B32_two (valB B32 b)
 have hva:=val_digs B32_two (valB B32 a)
 rw[hva,hvb]at gc
 have hr:¬cmpN (valB B32 a) (valB B32 b)<0:=by unfold cmpN;rw[if_neg (by omega)];split<;>decide
 have hd0:0<valB B32 b:=by
  rcases Nat.eq_zero_or_pos (valB B32 b)with z|z
  ·rw[z]at h1
   exact absurd h1 (by decide)
  ·exact z
 generalize cmpN (valB B32 a) (valB B32 b)=cm at gc hr
 generalize valB B32 b=vb at tb o2 gc hvb hle h1 hd0 ⊢
 generalize valB B32 a=va at ta o1 gc hva hle ⊢
 generalize digs B32 vb=ys at tb o2 gc hvb h1 ⊢
 generalize digs B32 va=xs at ta o1 gc hva ⊢
 have hd:=o2.getD 0
 obtain⟨d,rfl⟩:∃d,ys=[d]:=by
  match ys,h1 with
  |[d],_=>exact⟨d,rfl⟩
 have hvb':vb=d:=by rw[←hvb];simp[valB]
 subst hvb'
 have hd':vb<B32:=hd
 have gl:=limb_c xs vb (o1.mono (by decide)) hd0 hd'
 rw[hva]at gl
 have hmod:=Nat.mod_lt va hd0
 have hn0:¬((([vb]:List Nat).length:Nat):Int)=0:=by simp
 have hn1:((([vb]:List Nat).length:Nat):Int)=1:=by simp
 have gs:=small1_c (va%vb) (by unfold B32 at hd';omega)
 have w:IntKind.u64.wrap ((va%vb:Nat):Int)=(va%vb:Nat):=w64 _ (by unfold B32 at hd';omega)
 rw[←w]at gs
 repeat(first|refine wDB ?_|refine awp_seq_k fun K hK=>?_|refine wN fun bx=>?_|refine wC ta ?_|refine wC tb ?_|refine wC gc ?_|refine wC gl ?_|refine wC gs ?_|(refine wH ?_;clear hK))
 refine r3 ?_ ?_ ?_
 ·exact Sub.refl _
 ·exact Sub.refl _
 ·exact Sub.refl _
theorem dm_big (a b:List Nat) (h:LimOk 10000000 a) (k:LimOk 10000000 b) (hle:valB B32 b≤valB B32 a) (h2:2≤(digs B32 (valB B32 b)).length):PCalls Tryz.prog 169 [lims a,lims b] (.tuple [lims (digs B32 (valB B32 a/valB B32 b)),lims (digs B32 (valB B32 a%valB B32 b)),.int .i64 0]):=by
 refine pcalls_of_awp tyok cbDm Tryz.func169 rfl rfl ?_
 have ta:=trimV_c a (h.mono (by decide))
 have tb:=trimV_c b (k.mono (by decide))
 have o1:=h.trim
 have o2:=k.trim
 have gc:=ncmp_c _ _ (o1.mono (show 10000000≤1000000000 by decide)) (o2.mono (show 10000000≤1000000000 by decide))
 have hvb:=val_digs B32_two (valB B32 b)
 have hva:=val_digs B32_two (valB B32 a)
 rw[hva,hvb]at gc
 have hr:¬cmpN (valB B32 a) (valB B32 b)<0:=by unfold cmpN;rw[if_neg (by omega)];split<;>decide
 generalize cmpN (valB B32 a) (valB B32 b)=cm at gc hr
 generalize valB B32 b=vb at tb o2 gc hvb hle h2 ⊢
 generalize valB B32 a=va at ta o1 gc hva hle ⊢
 have gb:=bits_c (digs B32 vb) (o2.mono (by decide))
 rw[hvb]at gb
 obtain⟨nb,hN⟩:=norm_ok (b:=vb) (n:=(digs B32 vb).length) rfl (by omega)
 have hlab:(digs B32 vb).length≤(digs B32 va).length:=by
  rcases Nat.lt_or_ge (digs B32 va).length (digs B32 vb).length with z|z
  ·have:=lt_of_len B32_two z
   omega
  ·exact z
 have hvaB:va<B32^(digs B32 va).length:=(digs_len B32_two).1 (Nat.le_refl _)
 have hyx:digs B32 (valB B32 (digs B32 vb))=digs B32 vb:=by rw[hvb]
 have hxx:digs B32 (valB B32 (digs B32 va))=digs B32 va:=by rw[hva]
 generalize digs B32 vb=ys at tb o2 gc hvb h2 gb nb hN hlab hyx
 generalize digs B32 va=xs at ta o1 gc hva hlab hvaB hxx
 generalize bitsD ys=bt at gb nb hN
 obtain⟨s,hs⟩:∃s,s=32*ys.length-bt:=⟨_,rfl⟩
 rw[←hs]at hN
 have es:32*(ys.length:Int)-(bt:Int)=(s:Int):=by omega
 have yl:=o2.len
 have xl:=o1.len
 have hn0:¬(ys.length:Int)=0:=by omega
 have hn1:¬(ys.length:Int)=1:=by omega
 have hs31:=hN.le
 have gs1:=shlV_c ys s (o2.mono (by decide)) (by omega)
 have gs2:=shl_c xs s (o1.mono (by decide)) (by omega)
 rw[hvb,←es]at gs1
 rw[hva,←hva,hxx,hva,←es]at gs2
 obtain⟨V,hV⟩:∃V,V=vb*2^s:=⟨_,rfl⟩
 obtain⟨U,hU⟩:∃U,U=va*2^s:=⟨_,rfl⟩
 have lo:=hN.lo
 have hi:=hN.hi
 have vlen:=hN.len
 have vtop:=hN.top
 rw[←hV]at gs1 lo hi vlen vtop
 rw[←hU]at gs2
 have vlt:=digs_lt B32_two V
 have vval:=val_digs B32_two V
 generalize digs B32 V=vs at gs1 vlen vtop vlt vval
 have hUm:U<V*B32^(xs.length+1-ys.length):=by
  have e1:U<B32^xs.length*2147483648:=by
   have h3:=Nat.mul_lt_mul_of_pos_right hvaB (show 0<2^s from Nat.pow_pos (by decide))
   have h4:2^s≤2^31:=Nat.pow_le_pow_right (by decide) hs31
   have h5:=Nat.mul_le_mul_left (B32^xs.length) h4
   rw[hU]
   exact Nat.lt_of_lt_of_le h3 h5
  have e2:=Nat.mul_le_mul_right (B32^(xs.length+1-ys.length)) lo
  rw[Nat.mul_assoc,←Nat.pow_add,show ys.length-1+(xs.length+1-ys.length)=xs.length by omega,Nat.mul_comm]at e2
  omega
 have huln:(digs B32 U).length≤xs.length+1:=(digs_len B32_two).2 (by
  have h3:V*B32^(xs.length+1-ys.length)<B32^ys.length*B32^(xs.length+1-ys.length):=Nat.mul_lt_mul_of_pos_right hi (b32_pos _)
  rw[←Nat.pow_add,show ys.length+(xs.length+1-ys.length)=xs.length+1 by omega]at h3
  omega)
 have hUdig:U<B32^(digs B32 U).length:=(digs_len B32_two).1 (Nat.le_refl _)
 generalize (digs B32 U).length=ul at gs2 huln hUdig
 repeat(first|refine wDB ?_|refine awp_seq_k fun K hK=>?_|refine wN fun bx=>?_|refine wC ta ?_|refine wC tb ?_|refine wC gc ?_|refine wC gb ?_|refine wC gs1 ?_|(refine wH ?_;clear hK))
 refine qcallXV (ι:=Nat×{us:List Nat//us.length=xs.length+1∧(∀z∈us,z<B32)∧valB B32 us=U}) (G:=[]) (Hc:=[]) (Hc':=fun x=>[rowN .u32 x.1 164 x.2.1]) (H2:=fun x=>[rowN .u32 x.1 164 x.2.1]) gs2 fun x=>?_
 obtain⟨g,us0,hul0,hub0,huv0⟩:=x
 simp only
 unfold rowN rowM
 repeat(first|refine wDB ?_|refine awp_seq_k fun K hK=>?_|refine wN fun bx=>?_|(refine wH ?_;clear hK))
 refine awp_loop0 (ι:={t:List Nat×Nat//t.1.length=xs.length+1∧(∀z∈t.1,z<B32)∧valB B32 t.1=U∧ul≤t.2∧t.2≤xs.length+1})
  (fun t=>[(0,lims xs),(10,.int .i64 (32*(ys.length:Int)-(bt:Int))),(11,lims vs),(13,.mslice g 0 t.1.2 (xs.length+1))])
  (fun t=>[rowN .u32 g 164 t.1.1]) (fun t=>xs.length+1-t.1.2) ⟨(us0,ul),hul0,hub0,huv0,Nat.le_refl _,huln⟩ wk ⟨0,rfl⟩ ?_
 rintro⟨⟨us,n0⟩,hul,hub,huv,hn1',hn2'⟩
 simp only at hul hub huv hn1' hn2' ⊢
 by_cases hgrow:n0≤xs.length
 ·have hgrow':(n0:Int)≤xs.length:=by omega
  have hz0:us.getD n0 0=0:=by
   rw[val_digit n0 hub,Nat.div_eq_of_lt,Nat.zero_mod]
   rw[huv]
   exact Nat.lt_of_lt_of_le hUdig (b32_le hn1')
  have hset:=val_set B32 us n0 0 (by omega)
  rw[hz0,huv]at hset
  unfold rowN rowM
  repeat(first|refine wDB ?_|refine awp_seq_k fun K hK=>?_|refine wN fun bx=>?_|(refine wH ?_;clear hK))
  refine qappM tyok (g:=g) (n:=n0) (cap:=xs.length+1) (m:=1) (M:=us.length) (el:=fun j=>.int .u32 (us.getD j 0:Nat)) ?_ (by decide) (by omega) (by omega)
  repeat(first|refine wDB ?_|refine awp_seq_k fun K hK=>?_|refine wN fun bx=>?_|(refine wH ?_;clear hK))
  refine⟨⟨(us.set n0 0,n0+1),by rw[List.length_set];exact hul,all_put hub (by decide),by simp only;omega,by simp only;omega,by simp only;omega⟩,wk,⟨0,?_⟩,by simp only;omega⟩
  refine congrArg (fun e=>[e]) ?_
  simp only
  refine Eq.trans ?_ (rowN_set (k:=.u32) (g:=g) (t:=164) (xs:=us) (j:=n0) (v:=0) (by omega))
  unfold rowM
  congr 2
  funext j
  by_cases hj:j=n0
  ·subst hj
   rw[if_pos ⟨Nat.le_refl _,Nat.lt_succ_self _⟩,if_pos rfl,Nat.sub_self]
   rfl
  ·rw[if_neg (by omega),if_neg hj]
 have hgrow':¬(n0:Int)≤xs.length:=by omega
 obtain rfl:n0=xs.length+1:=by omega
 have hq:((xs.length+1:Nat):Int)-(vs.length:Int)=((xs.length+1-ys.length:Nat):Int):=by omega
 unfold rowN rowM
 repeat(first|refine wDB ?_|refine awp_seq_k fun K hK=>?_|refine wN fun bx=>?_|(refine wH ?_;clear hK))
 rw[hq]
 refine qmakeN tyok (m:=xs.length+1-ys.length) (k:=.u32) (fun gq=>?_) ?_
 rotate_left
 ·simp only
  omega
 obtain⟨m,hm⟩:∃m,m=xs.length+1-ys.length:=⟨_,rfl⟩
 rw[←hm]at hUm hq ⊢
 unfold rowN rowM
 repeat(first|refine wDB ?_|refine awp_seq_k fun K hK=>?_|refine wN fun bx=>?_|(refine wH ?_;clear hK))
 refine awp_loop0 (ι:={t:List Nat×List Nat//t.1.length≤m∧(∀z∈t.1,z<B32)∧t.2.length=xs.length+1∧(∀z∈t.2,z<B32)∧valB B32 t.2+valB B32 t.1*B32^(m-t.1.length)*V=U∧valB B32 t.2<V*B32^(m-t.1.length)})
  (fun t=>[(4,.mslice gq 0 m m),(10,.int .i64 (32*(ys.length:Int)-(bt:Int))),(11,lims vs),(13,.mslice g 0 (xs.length+1) (xs.length+1)),(15,.int .i64 (vs.length:Int)),(86,.int .i64 m),(87,.int .i64 t.1.1.length)])
  (fun t=>[rowN .u32 gq 164 ((List.replicate m 0).take (m-t.1.1.length)++t.1.1),rowN .u32 g 164 t.1.2]) (fun t=>m-t.1.1.length)
  ⟨([],us),Nat.zero_le _,fun z hz=>absurd hz List.not_mem_nil,hul,hub,by simp[valB,huv],by simp only[List.length_nil,Nat.sub_zero];rw[huv];exact hUm⟩ wk ⟨0,by simp only[List.length_nil,Nat.sub_zero,List.take_replicate,Nat.min_self,List.append_nil];rfl⟩ ?_
 clear hul hub huv hn1' hn2'
 rintro⟨⟨qs,us⟩,hql,hqb,hul,hub,hinv,hlt⟩
 simp only at hql hqb hul hub hinv hlt ⊢
 by_cases hround:qs.length<m
 ·have hround':(qs.length:Int)<m:=by omega
  obtain⟨p,hp⟩:∃p,m-qs.length=p+1:=⟨m-qs.length-1,by omega⟩
  have hp0:0+((m:Int)-1-qs.length).toNat=p:=by omega
  rw[hp]at hinv hlt ⊢
  obtain⟨S,hS⟩:∃S,S=valB B32 ((us.drop p).take (ys.length+1)):=⟨_,rfl⟩
  obtain⟨hSV,hnext⟩:=dm_round (B:=B32) (show 0<B32 by decide) hub (show p+(ys.length+1)≤us.length by omega) hi hinv hlt hS (p:=[])
  clear hnext
  have hnext:=fun ps=>(dm_round (B:=B32) (show 0<B32 by decide) hub (show p+(ys.length+1)≤us.length by omega) hi hinv hlt hS (p:=ps)).2
  have hV0:0<V:=by
   rcases Nat.eq_zero_or_pos V with z|z
   ·rw[z,Nat.zero_mul]at hSV
    omega
   ·exact z
  have uok:LimOk 1000000000 us:=⟨hub,by omega⟩
  have vok:LimOk 1000000000 vs:=⟨vlt,by omega⟩
  have hpl:((us.drop p).take (ys.length+1)).length=ys.length+1:=by rw[List.length_take,List.length_drop];omega
  obtain⟨n2,hn2⟩:∃n2,ys.length=n2+2:=⟨ys.length-2,by omega⟩
  have gg:=guess_c ((us.drop p).take (ys.length+1)) vs n2 ((uok.drop p).take _) vok (by omega) (by omega) (by rw[show n2+1=ys.length-1 by omega];exact vtop) (by rw[←hS,vval];exact hSV)
  rw[←hS,vval]at gg
  have gg2:=ACalls.lend (g:=g) (m:=us.length) (t:=164) (el:=fun j=>.int .u32 (us.getD j 0:Nat)) (vs:=[.mslice g p (ys.length+1) (ys.length+1),lims vs]) (fun i=>Flat.int _ _) gg (.cons (rowN_view (by omega) (Nat.le_refl _)) (.same .nil))
  unfold rowN rowM
  repeat(first|refine wDB ?_|refine awp_seq_k fun K hK=>?_|refine wN fun bx=>?_|(refine wH ?_;clear hK))
  refine qsl3E tyok p (ys.length+1) (ys.length+1) ?_
  repeat(first|refine wDB ?_|refine awp_seq_k fun K hK=>?_|refine wN fun bx=>?_|(refine wH ?_;clear hK))
  refine qcallXV (G:=[rowN .u32 gq 164 ((List.replicate m 0).take (p+1)++qs)]) (Hc:=[rowN .u32 g 164 us]) (Hc':=fun _=>[rowN .u32 g 164 us]) (H2:=fun _=>[rowN .u32 gq 164 ((List.replicate m 0).take (p+1)++qs),rowN .u32 g 164 us]) gg2 fun x=>?_
  obtain⟨x,hxB,hx1,hx2⟩:=x
  simp only
  have go:=off_c g p (ys.length+1) (ys.length+1) x us vs uok vok (by omega) (by omega) hxB
  rw[vval,←hS]at go
  have hlenR:((List.replicate m 0).take (p+1)++qs).length=m:=by rw[List.length_append,List.length_take,List.length_replicate];omega
  have hmr:p<(List.replicate m 0).length:=by rw[List.length_replicate];omega
  have hSd:=Nat.div_add_mod S V
  have hSm:=Nat.mod_lt S hV0
  have hpow:S<B32^(ys.length+1):=by
   rw[Nat.pow_succ]
   have:=Nat.mul_lt_mul_of_pos_right hi (show 0<B32 by decide)
   omega
  by_cases hov:S<x*V
  ·rw[decide_eq_true hov]at go
   have hxq:x=S/V+1:=by
    rcases Nat.lt_or_ge x (S/V+1)with z|z
    ·have:x=S/V:=by omega
     rw[this,Nat.mul_comm]at hov
     omega
    ·omega
   repeat(first|refine wDB ?_|refine awp_seq_k fun K hK=>?_|refine wN fun bx=>?_|(refine wH ?_;clear hK))
   refine qcallXV (ι:=OffR (ys.length+1) S (x*V)) (G:=[rowN .u32 gq 164 ((List.replicate m 0).take (p+1)++qs)]) (Hc:=[rowN .u32 g 164 us]) (u:=fun _=>.bool true) (Hc':=fun w=>[rowN .u32 g 164 (over us p w.1)]) (H2:=fun w=>[rowN .u32 gq 164 ((List.replicate m 0).take (p+1)++qs),rowN .u32 g 164 (over us p w.1)]) go fun w=>?_
   obtain⟨w,hwl,hwb,hwv⟩:=w
   simp only
   rw[if_pos hov]at hwv
   have hol:=over_len (xs:=us) (ps:=w) (off:=p) (by omega)
   have gn:=on_c g p (ys.length+1) (ys.length+1) (over us p w) vs ⟨over_all hub hwb,by omega⟩ vok (by omega) (by omega)
   rw[show((over us p w).drop p).take (ys.length+1)=w by rw[←hwl];exact over_part (by omega),vval]at gn
   have w1:IntKind.u64.wrap ((x:Int)-1)=((S/V:Nat):Int):=by
    rw[show(x:Int)-1=((S/V:Nat):Int) by omega]
    exact w64 _ (Nat.lt_trans (show S/V<B32 by omega) (by decide))
   repeat(first|refine wDB ?_|refine awp_seq_k fun K hK=>?_|refine wN fun bx=>?_|(refine wH ?_;clear hK))
   refine qcallXV (ι:=PartR (ys.length+1) (valB B32 w+V)) (G:=[rowN .u32 gq 164 ((List.replicate m 0).take (p+1)++qs)]) (Hc:=[rowN .u32 g 164 (over us p w)]) (u:=fun _=>.tuple []) (Hc':=fun v=>[rowN .u32 g 164 (over (over us p w) p v.1)]) (H2:=fun v=>[rowN .u32 gq 164 ((List.replicate m 0).take (p+1)++qs),rowN .u32 g 164 (over (over us p w) p v.1)]) gn fun v=>?_
   obtain⟨v,hvl,hvb2,hvv⟩:=v
   simp only
   rw[over_over (by omega) (by omega)]
   have hvm:valB B32 v=S%V:=by
    rw[hvv,show valB B32 w+V=S%V+B32^(ys.length+1) by
     rw[hxq,Nat.add_mul,Nat.one_mul,Nat.mul_comm]at hwv
     omega,Nat.add_mod_right,Nat.mod_eq_of_lt (by omega)]
   obtain⟨z1,z2⟩:=hnext v hvl hvm (S/V) rfl
   have hvol:=over_len (xs:=us) (ps:=v) (off:=p) (by omega)
   unfold rowN rowM
   repeat(first|refine wDB ?_|refine awp_seq_k fun K hK=>?_|refine wN fun bx=>?_|(refine wH ?_;clear hK))
   refine⟨⟨(S/V::qs,over us p v),by simp only[List.length_cons];omega,fun z hz=>?_,by simp only;omega,over_all hub hvb2,?_,?_⟩,?_,⟨0,?_⟩,by simp only[List.length_cons];omega⟩
   ·rcases List.mem_cons.1 hz with rfl|hz
    ·omega
    ·exact hqb z hz
   ·simp only[List.length_cons,valB]
    rw[show m-(qs.length+1)=p by omega]
    exact z1
   ·simp only[List.length_cons]
    rw[show m-(qs.length+1)=p by omega]
    exact z2
   ·simp only[List.length_cons]
    exact wk
   ·simp only[List.length_cons]
    rw[w1,w32,Nat.mod_eq_of_lt (show S/V<B32 by omega),show m-(qs.length+1)=p by omega,hp0,←topB_set hmr]
    exact congrArg (fun e=>[e,rowN .u32 g 164 (over us p v)]) (rowN_set (by omega))
  ·rw[decide_eq_false hov]at go
   have hxq:x=S/V:=by
    rcases Nat.lt_or_ge (S/V) x with z|z
    ·have:x=S/V+1:=by omega
     rw[this,Nat.add_mul,Nat.one_mul,Nat.mul_comm]at hov
     omega
    ·omega
   repeat(first|refine wDB ?_|refine awp_seq_k fun K hK=>?_|refine wN fun bx=>?_|(refine wH ?_;clear hK))
   refine qcallXV (ι:=OffR (ys.length+1) S (x*V)) (G:=[rowN .u32 gq 164 ((List.replicate m 0).take (p+1)++qs)]) (Hc:=[rowN .u32 g 164 us]) (u:=fun _=>.bool false) (Hc':=fun w=>[rowN .u32 g 164 (over us p w.1)]) (H2:=fun w=>[rowN .u32 gq 164 ((List.replicate m 0).take (p+1)++qs),rowN .u32 g 164 (over us p w.1)]) go fun w=>?_
   obtain⟨w,hwl,hwb,hwv⟩:=w
   simp only
   rw[if_neg hov,Nat.add_zero]at hwv
   have hol:=over_len (xs:=us) (ps:=w) (off:=p) (by omega)
   have hvm:valB B32 w=S%V:=by
    rw[hxq,Nat.mul_comm]at hwv
    omega
   obtain⟨z1,z2⟩:=hnext w hwl hvm (S/V) rfl
   unfold rowN rowM
   repeat(first|refine wDB ?_|refine awp_seq_k fun K hK=>?_|refine wN fun bx=>?_|(refine wH ?_;clear hK))
   refine⟨⟨(S/V::qs,over us p w),by simp only[List.length_cons];omega,fun z hz=>?_,by simp only;omega,over_all hub hwb,?_,?_⟩,?_,⟨0,?_⟩,by simp only[List.length_cons];omega⟩
   ·rcases List.mem_cons.1 hz with rfl|hz
    ·omega
    ·exact hqb z hz
   ·simp only[List.length_cons,valB]
    rw[show m-(qs.length+1)=p by omega]
    exact z1
   ·simp only[List.length_cons]
    rw[show m-(qs.length+1)=p by omega]
    exact z2
   ·simp only[List.length_cons]
    exact wk
   ·simp only[List.length_cons]
    rw[hxq,w32,Nat.mod_eq_of_lt (show S/V<B32 by omega),show m-(qs.length+1)=p by omega,hp0,←topB_set hmr]
    exact congrArg (fun e=>[e,rowN .u32 g 164 (over us p w)]) (rowN_set (by omega))
 ·have hround':¬(qs.length:Int)<m:=by omega
  have hqm:qs.length=m:=by omega
  rw[hqm,Nat.sub_self,Nat.pow_zero,Nat.mul_one]at hinv hlt
  have hlaw:=div_law (a:=U) (b:=V) (q:=valB B32 qs) (r:=valB B32 us) hinv hlt
  have hshift:=shift_div (a:=va) (b:=vb) (s:=2^s) (Nat.pow_pos (by decide))
  rw[←hU,←hV]at hshift
  have htk:valB B32 (us.take vs.length)=U%V:=by
   have h3:=val_take_drop B32 us vs.length (by omega)
   rw[drop_zero hub (show valB B32 us<B32^vs.length by rw[vlen];omega),Nat.mul_zero,Nat.add_zero]at h3
   rw[←h3]
   exact hlaw.2
  have gr:=shr_c (us.take vs.length) s ⟨all_take hub _,by rw[List.length_take];omega⟩ (by omega)
  rw[htk,hshift.2,←es]at gr
  have gr2:=PCalls.sub gr (.cons (sl_take limE 1 us (h:=((vs.length:Int)).toNat) (by omega)) (SubL.refl _))
  have gt:=trimV_c qs ⟨hqb,by omega⟩
  rw[hlaw.1,hshift.1]at gt
  rw[hqm,Nat.sub_self,List.take_zero,List.nil_append]
  unfold rowN
  refine awp_freezeM [_] (s:=13) rfl (rowN_all hul) ?_
  refine awp_freezeM [] (s:=4) rfl (rowN_all hqm) ?_
  repeat(first|refine wDB ?_|refine awp_seq_k fun K hK=>?_|refine wN fun bx=>?_|refine wC gr2 ?_|refine wC gt ?_|(refine wH ?_;clear hK))
  refine r3 ?_ ?_ ?_
  ·exact Sub.refl _
  ·exact Sub.refl _
  ·exact Sub.refl _
end Go.Proofs.YtamgilppehibeaaGreatDoor
namespace Go.Proofs.YtamgilppehibeaaGreatDoor
open Go.Ab
theorem dm_c (a b:List Nat) (h:LimOk 10000000 a) (k:LimOk 10000000 b) (hb:valB B32 b≠0):PCalls Tryz.prog 169 [lims a,lims b] (.tuple [lims (digs B32 (valB B32 a/valB B32 b)),lims (digs B32 (valB B32 a%valB B32 b)),.int .i64 0]):=by
 rcases Nat.lt_or_ge (valB B32 a) (valB B32 b)with z|z
 ·exact dm_less a b h k z
 ·have hl:(digs B32 (valB B32 b)).length≠0:=fun e=>hb ((digs_nil B32_two).1 (List.eq_nil_of_length_eq_zero e))
  rcases Nat.lt_or_ge 1 (digs B32 (valB B32 b)).length with y|y
  ·exact dm_big a b h k z y
  ·exact dm_one a b h k z (by omega)
theorem cbExact1:Callable Tryz.prog 170:=fun _ _=>by kernel_rfl
theorem exact1_c (a b:List Nat) (h:LimOk 10000000 a) (k:LimOk 10000000 b) (hb:valB B32 b≠0) (hd:valB B32 b∣valB B32 a):PCalls Tryz.prog 170 [lims a,lims b] (.tuple [lims (digs B32 (valB B32 a/valB B32 b)),.int .i64 0]):=by
 refine pcalls_of_awp tyok cbExact1 Tryz.func170 rfl rfl ?_
 have g:=dm_c a b h k hb
 rw[Nat.mod_eq_zero_of_dvd hd]at g
 have h0:¬((digs B32 0).length:Int)>0:=by rw[digs_zero];simp
 repeat(first|refine wDB ?_|refine awp_seq_k fun K hK=>?_|refine wN fun bx=>?_|refine wC g ?_|(refine wH ?_;clear hK))
 refine r2 ?_ ?_
 ·exact Sub.refl _
 ·exact Sub.refl _
end Go.Proofs.YtamgilppehibeaaGreatDoor
