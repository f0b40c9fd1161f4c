/-
  A polynomial's text is read again by value.Parse (plain law).
-/
import Derived.Test.YtamgilppehibeaaGreatDoorVqM
import Derived.Test.YtamgilppehibeaaGreatDoorKd0
import Derived.Test.YtamgilppehibeaaGreatDoorRdA
import Derived.Test.YtamgilppehibeaaGreatDoorDtM
import Derived.Test.YtamgilppehibeaaGreatDoorVkM
import Derived.Test.YtamgilppehibeaaGreatDoorRw
set_option maxRecDepth 100000
set_option maxHeartbeats 12800000
namespace Go.Proofs.YtamgilppehibeaaGreatDoor
open Go.Ab Go.Lib
theorem nn1 (n:Nat):¬((n:Int)== -1)=true:=fun e=>by
 have:=beq_iff_eq.1 e
 omega
theorem ix_hit (c:UInt8):∀(a r:List UInt8),(∀x∈a,x≠c)→index (a++c::r) [c]=a.length
 |[],r,_=>by
  rw[List.nil_append,index]
  simp
 |b::a,r,h=>by
  have ih:=ix_hit c a r fun x hx=>h x (List.mem_cons_of_mem _ hx)
  have hb:(c==b)=false:=beq_eq_false_iff_ne.2 fun e=>h b (List.mem_cons_self ..) e.symm
  rw[List.cons_append,index,ih,if_neg (by simp[List.isPrefixOf,hb]),if_neg (nn1 _),List.length_cons]
  omega
theorem ix_no (c:UInt8):∀(a:List UInt8),(∀x∈a,x≠c)→index a [c]= -1
 |[],_=>rfl
 |b::a,h=>by
  have ih:=ix_no c a fun x hx=>h x (List.mem_cons_of_mem _ hx)
  have hb:(c==b)=false:=beq_eq_false_iff_ne.2 fun e=>h b (List.mem_cons_self ..) e.symm
  rw[index,ih,if_neg (by simp[List.isPrefixOf,hb]),if_pos (by decide)]
theorem take_at {α:Type} (a:List α) (r:List α):(a++r).take a.length=a:=by simp
theorem drop_at {α:Type} (a:List α) (c:α) (r:List α):(a++c::r).drop (a.length+1)=r:=by
 rw[List.drop_append,List.drop_eq_nil_of_le (by omega),List.nil_append,show a.length+1-a.length=1 by omega]
 rfl
theorem splitK_jn (c:UInt8):∀(xs:List (List UInt8)) (k:Nat),xs≠[]→xs.length≤k+1→(∀x∈xs,∀b∈x,b≠c)→splitK [c] 0 k (Lib.join xs [c])=xs
 |[],_,h,_,_=>absurd rfl h
 |[x],k,_,_,h=>by
  have hx:=ix_no c x (h x (List.mem_cons_self ..))
  rw[Lib.join_one]
  cases k with
  |zero=>rfl
  |succ k=>rw[splitK,hx,if_pos (by decide)]
 |x::y::r,0,_,hl,_=>by simp at hl
 |x::y::r,k+1,_,hl,h=>by
  have hx:=ix_hit c x (Lib.join (y::r) [c]) (h x (List.mem_cons_self ..))
  rw[jn_two,splitK,hx,if_neg (nn1 _)]
  rw[show((x.length:Nat):Int).toNat+0=x.length by omega,show((x.length:Nat):Int).toNat+[c].length=x.length+1 by simp,take_at,drop_at,splitK_jn c (y::r) k (List.cons_ne_nil _ _) (by simp at hl ⊢;omega) fun z hz=>h z (List.mem_cons_of_mem _ hz)]
theorem count_jn (c:UInt8):∀(xs:List (List UInt8)) (f:Nat),xs.length≤f+1→(∀x∈xs,∀b∈x,b≠c)→xs.length≤countFrom [c] f (Lib.join xs [c])+1
 |[],_,_,_=>by simp
 |[x],_,_,_=>by simp
 |x::y::r,0,hl,_=>by simp at hl
 |x::y::r,f+1,hl,h=>by
  have hx:=ix_hit c x (Lib.join (y::r) [c]) (h x (List.mem_cons_self ..))
  have ih:=count_jn c (y::r) f (by simp at hl ⊢;omega) fun z hz=>h z (List.mem_cons_of_mem _ hz)
  rw[jn_two,countFrom,hx,if_neg (nn1 _)]
  rw[show((x.length:Nat):Int).toNat+[c].length=x.length+1 by simp,drop_at]
  rw[List.length_cons]
  omega
theorem split_jn (c:UInt8) {xs:List (List UInt8)} (h0:xs≠[]) (h:∀x∈xs,∀b∈x,b≠c):Lib.split (Lib.join xs [c]) [c]=xs:=by
 have hl:xs.length≤(Lib.join xs [c]).length+1:=by
  cases xs with
  |nil=>exact absurd rfl h0
  |cons x r=>
   rw[join_length,List.length_cons,List.length_singleton,Nat.one_mul]
   omega
 exact splitK_jn c xs _ h0 (count_jn c xs _ (by omega) h) h
theorem cut_hit (c:UInt8) (a b:List UInt8) (h:∀x∈a,x≠c):Lib.cut (a++c::b) [c]=(a,b,true):=by
 unfold Lib.cut
 rw[ix_hit c a b h,if_pos (by omega),show((a.length:Nat):Int).toNat=a.length by omega,List.length_singleton,take_at,drop_at]
theorem cut_no (c:UInt8) (a:List UInt8) (h:∀x∈a,x≠c):Lib.cut a [c]=(a,[],false):=by
 unfold Lib.cut
 rw[ix_no c a h,if_neg (by decide)]
theorem isD_ne {c d:UInt8} (h:isD c=true) (hd:isD d=false):c≠d:=fun e=>by rw[e,hd]at h;cases h
theorem pu_ok:∀(l:List UInt8) (acc:Nat),(∀c∈l,isD c=true)→(acc+1)*10^l.length≤10^18→parseUint10 acc l=.ok (l.foldl (fun n c=>n*10+(c.toNat-48)) acc)
 |[],acc,_,_=>rfl
 |c::l,acc,h,hb=>by
  have hc:=h c (List.mem_cons_self ..)
  unfold isD at hc
  simp only[Bool.and_eq_true,decide_eq_true_eq]at hc
  rw[List.length_cons,Nat.pow_succ',←Nat.mul_assoc]at hb
  have h1:(acc+1)*10*1≤(acc+1)*10*10^l.length:=Nat.mul_le_mul_left _ (Nat.pow_pos (by decide))
  have h2:(acc*10+(c.toNat-48)+1)*10^l.length≤(acc+1)*10*10^l.length:=Nat.mul_le_mul_right _ (by omega)
  rw[parseUint10,if_pos ⟨hc.1,hc.2⟩,if_neg (by omega),if_neg (by omega),pu_ok l _ (fun x hx=>h x (List.mem_cons_of_mem _ hx)) (by omega)]
  rfl
theorem atoi_dec {n:Nat} (h:n<100000):atoiAll (decDigits n)=.ok (n:Int):=by
 have hl:=dec_len (n:=n) (k:=5) (by decide) (by omega)
 have hd:=dec_is n
 have hv:=decV_dec n
 cases hs:decDigits n with
 |nil=>exact absurd hs (dec_ne n)
 |cons c r=>
  rw[hs]at hl hd hv
  have hc:=hd c (List.mem_cons_self ..)
  unfold isD at hc
  simp only[Bool.and_eq_true,decide_eq_true_eq]at hc
  have hp:(0+1)*10^(c::r).length≤10^18:=by
   rw[Nat.zero_add,Nat.one_mul]
   exact Nat.pow_le_pow_right (by decide) (by omega)
  rw[atoiAll_plain c r (by omega) (by omega)]
  unfold parseMag
  rw[if_neg (List.cons_ne_nil _ _),pu_ok _ 0 hd hp]
  show signless (.ok (decV (c::r)))=_
  rw[hv,signless,if_neg (by omega)]
theorem small_itoa {n:Int} (h:0≤n) (h2:n<100000):smallF (itoa n)=some n:=by
 unfold smallF
 have e:atoiAll (itoa n)=.ok n:=by
  rw[itoa_pos h,atoi_dec (by omega),Int.toNat_of_nonneg h]
 rw[e]
 exact if_pos rfl
theorem itoa_is {n:Int} (h:0≤n):∀c∈itoa n,isD c=true:=by
 rw[itoa_pos h]
 exact dec_is _
theorem powers_text {w:Pw} (h1:1≤w.1∧w.1≤200) (h2:1≤w.2∧w.2≤10000):powersF (powT w)=some w:=by
 have hn:∀x∈itoa w.1,x≠94:=fun x hx=>isD_ne (itoa_is (by omega) x hx) (by decide)
 unfold powersF powT
 rw[if_pos List.head?_cons,show∀l:List UInt8,(120::l).drop 1=l from fun _=>rfl]
 by_cases he:w.2=1
 ·rw[if_pos he,List.append_nil,cut_no 94 _ hn]
  simp only
  rw[small_itoa (by omega) (by omega),Option.bind_some,if_neg (by decide),←he]
 ·rw[if_neg he,cut_hit 94 _ _ hn]
  simp only
  rw[small_itoa (by omega) (by omega),Option.bind_some,if_pos trivial,small_itoa (by omega) (by omega)]
  rfl
theorem parse_dec (v:Nat):parseD (decDigits v)=some (false,v):=by
 have hd:=dec_is v
 have hv:=decV_dec v
 have hh:=dec_head v
 have h0:=dec_zero
 unfold parseD
 cases hs:decDigits v with
 |nil=>exact absurd hs (dec_ne v)
 |cons c r=>
  rw[hs]at hd hv
  have hc:=hd c (List.mem_cons_self ..)
  have hn:decide ((c::r).head?=some 45)=false:=decide_eq_false fun e=>isD_ne hc (d:=45) (by decide) (Option.some.inj e)
  simp only[hn]
  rw[if_neg (by decide:¬(false=true)),if_neg ?_,if_pos (List.all_eq_true.2 hd),hv]
  rintro(e|⟨e,hl⟩)
  ·cases e
  ·by_cases hz:v=0
   ·rw[hz,h0]at hs
    cases hs
    rcases hl with hl|hl
    ·simp at hl
    ·cases hl
   ·obtain⟨c',r',e2,hne⟩:=hh hz
    rw[hs]at e2
    cases e2
    exact hne (Option.some.inj e)
theorem hp_cons (c d:UInt8) (r:List UInt8):Lib.hasPrefix (c::r) [d]=(d==c):=by
 unfold Lib.hasPrefix
 simp[List.isPrefixOf]
theorem part_pows:∀(m m0:List Pw) (c:IntR) (fs:Bool),(∀w∈m,1≤w.1∧w.1≤200∧1≤w.2∧w.2≤10000)→partF fs (c,m0) (m.map powT)=some (c,m0++m)
 |[],m0,c,fs,_=>by rw[List.map_nil,partF,List.append_nil]
 |w::m,m0,c,fs,h=>by
  have hw:=h w (List.mem_cons_self ..)
  rw[List.map_cons,partF,if_pos (.inr (by unfold powT;rw[hp_cons];decide)),powers_text ⟨hw.1,hw.2.1⟩ ⟨hw.2.2.1,hw.2.2.2⟩,Option.bind_some,
   part_pows m (m0++[w]) c false fun x hx=>h x (List.mem_cons_of_mem _ hx),List.append_assoc]
  rfl
theorem part_text {v:Nat} {m:List Pw} (hm:may m=true):partF true (⟨false,digs B32 1⟩,[]) (partsT v m)=some (⟨false,digs B32 v⟩,m):=by
 have hp:=fun c fs=>part_pows m [] c fs fun w hw=>may_pos hm hw
 unfold partsT
 split
 ·rename_i h
  have hv:=decV_dec v
  rw[h.1]at hv
  have hv:v=1:=hv.symm
  subst hv
  exact hp _ _
 ·rename_i h
  have hd:=dec_is v
  have hpd:=parse_dec v
  cases hs:decDigits v with
  |nil=>exact absurd hs (dec_ne v)
  |cons c r=>
   rw[hs]at hd hpd
   have hc:=hd c (List.mem_cons_self ..)
   rw[List.singleton_append,partF,if_neg ?_,hpd,Option.bind_some]
   ·exact hp _ _
   ·rintro(e|e)
    ·cases e
    ·rw[hp_cons]at e
     exact isD_ne hc (d:=120) (by decide) (beq_iff_eq.1 e).symm
def inT (c:UInt8):Bool:=isD c || c==120 || c==94
theorem inT_ne {c d:UInt8} (h:inT c=true) (hd:inT d=false):c≠d:=fun e=>by rw[e,hd]at h;cases h
theorem powT_in {w:Pw} (h1:0≤w.1) (h2:0≤w.2):∀c∈powT w,inT c=true:=fun c hc=>by
 have hi:∀{c},isD c=true→inT c=true:=fun h=>by unfold inT;rw[h];rfl
 unfold powT at hc
 rcases List.mem_cons.1 hc with rfl|hc
 ·rfl
 rcases List.mem_append.1 hc with hc|hc
 ·exact hi (itoa_is h1 c hc)
 split at hc
 ·cases hc
 rcases List.mem_cons.1 hc with rfl|hc
 ·rfl
 ·exact hi (itoa_is h2 c hc)
theorem parts_in {v:Nat} {m:List Pw} (hm:may m=true):∀x∈partsT v m,∀c∈x,inT c=true:=fun x hx c hc=>by
 rcases partsT_mem hx with rfl|⟨w,hw,rfl⟩
 ·unfold inT
  rw[dec_is _ c hc]
  rfl
 ·have:=may_pos hm hw
  exact powT_in (by omega) (by omega) c hc
theorem trm_in {v:Nat} {m:List Pw} (hm:may m=true):∀c∈trmT v m,c=42∨inT c=true:=fun c hc=>by
 rcases jn_mem 42 _ c hc with rfl|⟨x,hx,hc⟩
 ·exact .inl rfl
 ·exact .inr (parts_in hm x hx c hc)
def Sgd (s:List UInt8):Prop:=s=[]∨∃c r,s=c::r∧(c=43∨c=45)
theorem until_app {a r:List UInt8} (h:∀c∈a,([43,45]:List UInt8).contains c=false) (hr:Sgd r):untilF (a++r)=a.length:=by
 have hn:NoAny (a++r) [43,45] a.length:=fun j x hj hx=>h x (by
  rw[List.getElem?_append_left hj]at hx
  exact List.mem_of_getElem? hx)
 unfold untilF
 rcases hr with rfl|⟨c,r,rfl,hc⟩
 ·rw[List.append_nil]at hn ⊢
  rw[indexAny_none hn,if_pos (by decide)]
 ·rw[indexAny_hit hn (x:=c) (by simp) (by rcases hc with rfl|rfl<;>decide),if_neg (by omega)]
  omega
theorem front_sgn {c:UInt8} {r:List UInt8} (hc:c=43∨c=45):frontF (c::r)=r:=by
 unfold frontF trimLeftS
 rcases hc with rfl|rfl<;>simp
theorem front_no {c:UInt8} {r:List UInt8} (h:([43,45]:List UInt8).contains c=false):frontF (c::r)=c::r:=by
 unfold frontF trimLeftS
 rw[List.take_succ_cons,List.take_zero,List.dropWhile_cons,h]
 rfl
def CnT (t:TermR):Prop:=t.c.mag=digs B32 (absT t)
theorem term_rest {t:TermR} {r:List UInt8} (hm:may t.m=true) (hc:CnT t) (hr:Sgd r) {s:List UInt8} (hf:frontF s=trmT (absT t) t.m++r) (hn:Lib.hasPrefix s [45]=t.c.neg):termF s=some (t,r):=by
 have hu:=until_app (a:=trmT (absT t) t.m) (r:=r) (fun c hc=>by
  rcases trm_in hm c hc with rfl|h
  ·decide
  ·unfold inT at h
   rw[Bool.eq_false_iff]
   intro e
   have e:=List.contains_iff_mem.1 e
   rcases List.mem_cons.1 e with rfl|e
   ·exact absurd h (by decide)
   ·rw[List.mem_singleton.1 e]at h
    exact absurd h (by decide)) hr
 unfold termF
 rw[hf,hu,take_at,List.drop_left,hn]
 unfold trmT
 rw[split_jn 42 partsT_ne fun x hx b hb=>inT_ne (parts_in hm x hx b hb) (by decide),part_text hm,Option.map_some]
 obtain⟨⟨n,mag⟩,m⟩:=t
 unfold CnT at hc
 simp only at hc ⊢
 rw[←hc]
theorem term_text {fs:Bool} {t:TermR} {r:List UInt8} (hm:may t.m=true) (hc:CnT t) (hr:Sgd r):termF (termT fs t++r)=some (t,r):=by
 obtain⟨c,q,e,h1,-⟩:=trmT_head (v:=absT t) t.m
 have hcs:([43,45]:List UInt8).contains c=false:=by
  rcases h1 with h|rfl
  ·rw[Bool.eq_false_iff]
   intro e
   have e:=List.contains_iff_mem.1 e
   rcases List.mem_cons.1 e with rfl|e
   ·exact absurd h (by decide)
   ·rw[List.mem_singleton.1 e]at h
    exact absurd h (by decide)
  ·decide
 have hc45:(45==c)=false:=by
  rw[Bool.eq_false_iff]
  intro e
  rw[←beq_iff_eq.1 e]at hcs
  exact absurd hcs (by decide)
 unfold termT
 by_cases hn:t.c.neg=true
 ·rw[if_pos hn]
  exact term_rest hm hc hr (front_sgn (.inr rfl)) (by rw[hn];rfl)
 ·rw[if_neg hn]
  have hn':t.c.neg=false:=by simpa using hn
  cases fs with
  |false=>
   rw[if_neg (by decide)]
   exact term_rest hm hc hr (front_sgn (.inl rfl)) (by rw[hn'];rfl)
  |true=>
   rw[if_pos rfl,List.nil_append]
   refine term_rest hm hc hr ?_ ?_
   ·rw[e,List.cons_append,front_no hcs]
   ·rw[e,List.cons_append,hp_cons,hc45,hn']
theorem textL_sgd:∀(p:List TermR),Sgd (textL false p)
 |[]=>.inl rfl
 |t::p=>by
  rw[textL]
  unfold termT
  by_cases hn:t.c.neg=true
  ·rw[if_pos hn]
   exact .inr ⟨45,_,rfl,.inr rfl⟩
  ·rw[if_neg hn,if_neg (by decide)]
   exact .inr ⟨43,_,rfl,.inl rfl⟩
theorem termT_ne (fs:Bool) (t:TermR):0<(termT fs t).length:=by
 obtain⟨c,q,e,-,-⟩:=trmT_head (v:=absT t) t.m
 unfold termT
 rw[e,List.length_append,List.length_cons]
 omega
theorem terms_text:∀{p:List TermR} {n:Nat} {fs:Bool},(∀t∈p,may t.m=true∧CnT t)→(textL fs p).length≤n→termsF n (textL fs p)=some p
 |[],n,fs,_,_=>by
  rw[textL]
  cases n<;>rfl
 |t::p,n,fs,h,hn=>by
  have ht:=h t (List.mem_cons_self ..)
  have h0:=termT_ne fs t
  rw[textL,List.length_append]at hn
  rw[textL]
  cases n with
  |zero=>omega
  |succ n=>
   rw[termsF,if_neg (fun e=>by rw[List.append_eq_nil_iff.1 e |>.1]at h0;exact Nat.lt_irrefl _ h0),term_text ht.1 ht.2 (textL_sgd p),Option.bind_some,
    terms_text (p:=p) (n:=n) (fs:=false) (fun u hu=>h u (List.mem_cons_of_mem _ hu)) (by omega)]
   rfl
theorem tx_cn {p:List TermR} (h:∀t∈p,LimOk 100 t.c.mag) (hm:mayP p=true):∀t∈p,may t.m=true∧CnT t:=fun t ht=>by
 refine⟨mayP_m hm t ht,?_⟩
 obtain⟨i,hi,e⟩:=List.getElem_of_mem ht
 have hT:=mayP_may hm hi
 rw[List.getD_eq_getElem?_getD,List.getElem?_eq_getElem hi,Option.getD_some,e]at hT
 unfold mayT at hT
 simp only[Bool.and_eq_true,decide_eq_true_eq]at hT
 have hz:=(mayZ_C (h t ht)).1 hT.1.2
 unfold CnT absT
 have hmag:t.c.mag=digs B32 t.c.z.natAbs:=congrArg IntR.mag hz
 have hv:t.c.z.natAbs=valB B32 t.c.mag:=by
  unfold IntR.z
  split<;>simp
 rw[←hv]
 exact hmag
theorem text_ne48 {t:TermR} {p:List TermR} (hm:mayP (t::p)=true) (h:textP (t::p)=[48]):False:=by
 unfold textP at h
 rw[if_neg (by rw[hm];decide),if_neg (List.cons_ne_nil _ _),textL]at h
 have ht:=mayP_may hm (i:=0) (Nat.succ_pos _)
 have ht:mayT t=true:=ht
 unfold mayT at ht
 simp only[Bool.and_eq_true,decide_eq_true_eq]at ht
 have hv:absT t≠0:=fun e=>ht.1.1 (by unfold IntR.z;unfold absT at e;rw[e];split<;>rfl)
 obtain⟨c,r,e,-,h2⟩:=trmT_head (v:=absT t) t.m
 unfold termT at h
 rw[e]at h
 by_cases hn:t.c.neg=true
 ·rw[if_pos hn]at h
  exact absurd (List.cons.inj h).1 (by decide)
 ·rw[if_neg hn,if_pos rfl]at h
  exact h2 hv (List.cons.inj h).1
theorem parse_text {p:List TermR} (h:TxB p) (hm:mayP p=true) (hl:(textP p).length≤65536):parseV (textP p)=(p,0):=by
 unfold parseV
 rw[if_neg (by omega)]
 obtain⟨c,r,e,-,-⟩:=textP_head hm
 rw[if_neg (by rw[e];exact List.cons_ne_nil _ _)]
 cases p with
 |nil=>rfl
 |cons t p=>
  rw[if_neg fun e=>text_ne48 hm e]
  have ht:textP (t::p)=textL true (t::p):=by
   unfold textP
   rw[if_neg (by rw[hm];decide),if_neg (List.cons_ne_nil _ _)]
  have hT:=terms_text (n:=(textP (t::p)).length) (fs:=true) (tx_cn h.c hm) (by rw[ht];exact Nat.le_refl _)
  rw[←ht]at hT
  rw[hT]
  exact if_pos ⟨hm,rfl⟩
end Go.Proofs.YtamgilppehibeaaGreatDoor
namespace Go.Proofs.YtamgilppehibeaaGreatDoor
open Go.Ab Go.Lib
def shortF (l:List UInt8):Int:=if l.length≤5 then(decV l:Int) else 99999
def starR (s:List UInt8):List UInt8:=if s.head?=some 42 then s.drop 1 else s
def powR (s:List UInt8):Pw×List UInt8:=
 if((s.drop 1).dropWhile isD).head?=some 94 then((shortF ((s.drop 1).takeWhile isD),shortF ((((s.drop 1).dropWhile isD).drop 1).takeWhile isD)),starR ((((s.drop 1).dropWhile isD).drop 1).dropWhile isD))
 else((shortF ((s.drop 1).takeWhile isD),1),starR ((s.drop 1).dropWhile isD))
def powsR:Nat→List Pw→List UInt8→List Pw×List UInt8
 |0,m,s=>(m,s)
 |n+1,m,s=>if s.head?=some 120 then powsR n (m++[(powR s).1]) (powR s).2 else(m,s)
def sgnR (s:List UInt8):List UInt8:=if s.head?=some 45∨s.head?=some 43 then s.drop 1 else s
def numR (s:List UInt8):Nat×List UInt8:=if s≠[]∧s.head?≠some 120 then(decV (s.takeWhile isD),starR (s.dropWhile isD)) else(1,s)
def minR (s:List UInt8) (n:Nat):Int:=if s.head?=some 45 then -(n:Int) else n
def termR (s:List UInt8):Option (TermR×List UInt8):=
 let x:=numR (sgnR s)
 let y:=powsR x.2.length [] x.2
 if y.2≠[]∧y.2.head?≠some 45∧y.2.head?≠some 43 then none else some (⟨intC (minR s x.1),y.1⟩,y.2)
def termsR:Nat→List UInt8→Option (List TermR)
 |0,s=>if s=[] then some [] else none
 |n+1,s=>if s=[] then some [] else(termR s).bind fun x=>(termsR n x.2).map (x.1:: ·)
def parseW (s:List UInt8):List TermR×Int:=match (if s=[48] then some [] else termsR s.length s)with
 |none=>([],4)
 |some p=>if mayP p=true∧textP p=s then(p,0) else([],4)
theorem drw_le (s:List UInt8):(s.dropWhile isD).length≤s.length:=(List.dropWhile_sublist _).length_le
theorem star_le (s:List UInt8):(starR s).length≤s.length:=by
 unfold starR
 split
 ·rw[List.length_drop];omega
 ·exact Nat.le_refl _
theorem powR_lt {s:List UInt8} (h:s.head?=some 120):(powR s).2.length<s.length:=by
 have h0:0<s.length:=by
  cases s with
  |nil=>cases h
  |cons c r=>exact Nat.succ_pos _
 have h1:=drw_le (s.drop 1)
 have h2:=drw_le (((s.drop 1).dropWhile isD).drop 1)
 have h3:=star_le ((((s.drop 1).dropWhile isD).drop 1).dropWhile isD)
 have h4:=star_le ((s.drop 1).dropWhile isD)
 rw[List.length_drop]at h1 h2
 unfold powR
 split
 ·simp only
  omega
 ·simp only
  omega
theorem powsR_fuel:∀{n k:Nat} {m:List Pw} {s:List UInt8},s.length≤n→s.length≤k→powsR n m s=powsR k m s
 |0,0,_,_,_,_=>rfl
 |0,k+1,m,s,h,_=>by
  have:s=[]:=List.eq_nil_of_length_eq_zero (by omega)
  subst this
  rfl
 |n+1,0,m,s,_,h=>by
  have:s=[]:=List.eq_nil_of_length_eq_zero (by omega)
  subst this
  rfl
 |n+1,k+1,m,s,h1,h2=>by
  rw[powsR,powsR]
  split
  ·rename_i h
   have:=powR_lt h
   exact powsR_fuel (by omega) (by omega)
  ·rfl
theorem powsR_le:∀{n:Nat} {m:List Pw} {s:List UInt8},(powsR n m s).2.length≤s.length∧(powsR n m s).1.length+(powsR n m s).2.length≤m.length+s.length
 |0,m,s=>⟨Nat.le_refl _,Nat.le_refl _⟩
 |n+1,m,s=>by
  rw[powsR]
  split
  ·rename_i h
   have h1:=powR_lt h
   obtain⟨h2,h3⟩:=powsR_le (n:=n) (m:=m++[(powR s).1]) (s:=(powR s).2)
   rw[List.length_append,List.length_singleton]at h3
   omega
  ·exact⟨Nat.le_refl _,Nat.le_refl _⟩
theorem tw_all (s:List UInt8):∀c∈s.takeWhile isD,isD c=true:=fun _ hc=>List.all_eq_true.1 List.all_takeWhile _ hc
theorem tw_le (s:List UInt8):(s.takeWhile isD).length≤s.length:=(List.takeWhile_sublist _).length_le
theorem sgnR_le (s:List UInt8):(sgnR s).length≤s.length:=by
 unfold sgnR
 split
 ·rw[List.length_drop];omega
 ·exact Nat.le_refl _
theorem numR_le (s:List UInt8):(numR s).2.length≤s.length∧(numR s).1<10^(s.length+1):=by
 unfold numR
 split
 ·have h1:=drw_le s
  have h2:=star_le (s.dropWhile isD)
  refine⟨by simp only;omega,Nat.lt_of_lt_of_le (decV_lt (tw_all s)) (Nat.pow_le_pow_right (by decide) ?_)⟩
  have:=tw_le s
  omega
 ·exact⟨Nat.le_refl _,Nat.one_lt_pow (by omega) (by decide)⟩
theorem minR_abs (s:List UInt8) (n:Nat):(minR s n).natAbs=n:=by
 unfold minR
 split<;>omega
structure TrB (t:TermR):Prop where
 c:LimOk 100 t.c.mag
 m:t.m.length≤899
theorem numR_b32 {s:List UInt8} (h:s.length≤899):(numR s).1<B32^100:=ten_b32 (numR_le s).2 (by omega)
theorem termR_ok {s r:List UInt8} {t:TermR} (h0:s≠[]) (hs:s.length≤899) (h:termR s=some (t,r)):r.length<s.length∧TrB t:=by
 unfold termR at h
 simp only at h
 have g1:=sgnR_le s
 obtain⟨g2,-⟩:=numR_le (sgnR s)
 have g3:=numR_b32 (s:=sgnR s) (by omega)
 obtain⟨p1,p2⟩:=powsR_le (n:=(numR (sgnR s)).2.length) (m:=[]) (s:=(numR (sgnR s)).2)
 rw[List.length_nil]at p2
 split at h
 ·cases h
 rename_i hc
 cases h
 refine⟨?_,⟨LimOk.digs (by rw[minR_abs];exact g3),by simp only;omega⟩⟩
 cases s with
 |nil=>exact absurd rfl h0
 |cons c s=>
  by_cases hsg:(c::s).head?=some 45∨(c::s).head?=some 43
  ·have:(sgnR (c::s)).length=s.length:=by
    unfold sgnR
    rw[if_pos hsg]
    rfl
   rw[List.length_cons]
   omega
  ·have e1:sgnR (c::s)=c::s:=by
    unfold sgnR
    rw[if_neg hsg]
   rw[e1]at hc g2 p1 p2 ⊢
   by_cases h120:c=120
   ·have e2:numR (c::s)=(1,c::s):=by
     unfold numR
     rw[if_neg (by rw[h120];simp)]
    rw[e2]at hc p1 ⊢
    simp only[List.length_cons,powsR]at hc p1 ⊢
    rw[if_pos (by rw[h120];rfl)]at hc p1 ⊢
    have h1:=powR_lt (s:=c::s) (by rw[h120];rfl)
    have h2:=(powsR_le (n:=s.length) (m:=[]++[(powR (c::s)).1]) (s:=(powR (c::s)).2)).1
    rw[List.length_cons]at h1
    omega
   ·have e2:numR (c::s)=(decV ((c::s).takeWhile isD),starR ((c::s).dropWhile isD)):=by
     unfold numR
     rw[if_pos ⟨List.cons_ne_nil _ _,fun e=>h120 (Option.some.inj e)⟩]
    rw[e2]at hc p1 ⊢
    simp only at hc p1 ⊢
    have hle:=star_le ((c::s).dropWhile isD)
    cases hd:isD c with
    |true=>
     have e3:(c::s).dropWhile isD=s.dropWhile isD:=by rw[List.dropWhile_cons,hd];rfl
     have:=drw_le s
     rw[e3]at hle p1 ⊢
     rw[List.length_cons]
     omega
    |false=>
     have e3:(c::s).dropWhile isD=c::s:=by rw[List.dropWhile_cons,hd];rfl
     rw[e3]at hc p1 ⊢
     by_cases h42:c=42
     ·have e4:starR (c::s)=s:=by
       unfold starR
       rw[if_pos (by rw[h42];rfl)]
       rfl
      rw[e4]at p1 ⊢
      rw[List.length_cons]
      omega
     ·have e4:starR (c::s)=c::s:=by
       unfold starR
       rw[if_neg (show¬(c::s).head?=some 42 from fun e=>h42 (Option.some.inj e))]
      rw[e4]at hc
      simp only[List.length_cons,powsR]at hc
      rw[if_neg (show¬(c::s).head?=some 120 from fun e=>h120 (Option.some.inj e))]at hc
      exact absurd ⟨List.cons_ne_nil _ _,fun e=>hsg (.inl e),fun e=>hsg (.inr e)⟩ hc
theorem termsR_bd:∀{n:Nat} {s:List UInt8} {p:List TermR},s.length≤899→termsR n s=some p→p.length≤s.length∧∀t∈p,TrB t
 |0,s,p,hs,h=>by
  rw[termsR]at h
  split at h
  ·cases h
   exact⟨Nat.zero_le _,fun t ht=>absurd ht List.not_mem_nil⟩
  ·cases h
 |n+1,s,p,hs,h=>by
  rw[termsR]at h
  split at h
  ·cases h
   exact⟨Nat.zero_le _,fun t ht=>absurd ht List.not_mem_nil⟩
  ·rename_i h0
   cases hF:termR s with
   |none=>rw[hF]at h;cases h
   |some x=>
    obtain⟨t,r⟩:=x
    rw[hF,Option.bind_some]at h
    obtain⟨hlt,htb⟩:=termR_ok h0 hs hF
    cases hq:termsR n r with
    |none=>rw[hq]at h;cases h
    |some q=>
     rw[hq]at h
     cases h
     obtain⟨h1,h2⟩:=termsR_bd (n:=n) (s:=r) (by omega) hq
     refine⟨by rw[List.length_cons];omega,fun u hu=>?_⟩
     rcases List.mem_cons.1 hu with rfl|hu
     ·exact htb
     ·exact h2 u hu
theorem tr_tx {p:List TermR} (hl:p.length≤1000) (h:∀t∈p,TrB t):TxB p:=⟨hl,fun t ht=>(h t ht).c⟩
theorem parseW_cases {s:List UInt8} (hs:s.length≤899):(∃p,parseW s=(p,0)∧mayP p=true∧textP p=s∧TxB p)∨parseW s=([],4):=by
 unfold parseW
 split
 ·exact .inr rfl
 ·rename_i p hp
  by_cases h:mayP p=true∧textP p=s
  ·rw[if_pos h]
   refine .inl ⟨p,rfl,h.1,h.2,?_⟩
   split at hp
   ·cases hp
    exact⟨by decide,fun t ht=>absurd ht List.not_mem_nil⟩
   ·obtain⟨h1,h2⟩:=termsR_bd hs hp
    exact tr_tx (by omega) h2
  ·rw[if_neg h]
   exact .inr rfl
def NoD (r:List UInt8):Prop:=∀c,r.head?=some c→isD c=false
theorem run_app:∀(a r:List UInt8),(∀c∈a,isD c=true)→NoD r→(a++r).takeWhile isD=a∧(a++r).dropWhile isD=r
 |[],[],_,_=>⟨rfl,rfl⟩
 |[],c::r,_,h=>by
  have:=h c rfl
  rw[List.nil_append,List.takeWhile_cons,List.dropWhile_cons,this]
  exact⟨rfl,rfl⟩
 |c::a,r,h,hr=>by
  obtain⟨h1,h2⟩:=run_app a r (fun x hx=>h x (List.mem_cons_of_mem _ hx)) hr
  rw[List.cons_append,List.takeWhile_cons,List.dropWhile_cons,h c (List.mem_cons_self ..),if_pos rfl,if_pos rfl,h1,h2]
  exact⟨rfl,rfl⟩
theorem Sgd.head {r:List UInt8} (h:Sgd r) {c:UInt8} (hc:r.head?=some c):c=43∨c=45:=by
 rcases h with rfl|⟨d,q,rfl,hd⟩
 ·cases hc
 ·cases hc
  exact hd
theorem Sgd.noD {r:List UInt8} (h:Sgd r):NoD r:=fun c hc=>by
 rcases h.head hc with rfl|rfl<;>decide
theorem Sgd.ne {r:List UInt8} (h:Sgd r) {c:UInt8} (h1:c≠43) (h2:c≠45):r.head?≠some c:=fun e=>by
 rcases h.head e with rfl|rfl
 ·exact h1 rfl
 ·exact h2 rfl
theorem Sgd.star {r:List UInt8} (h:Sgd r):starR r=r:=by
 unfold starR
 rw[if_neg (h.ne (by decide) (by decide))]
theorem short_itoa {n:Int} (h:0≤n) (h2:n<100000):shortF (itoa n)=n:=by
 have hl:=dec_len (n:=n.toNat) (k:=5) (by decide) (by omega)
 unfold shortF
 rw[itoa_pos h,if_pos hl,decV_dec]
 omega
theorem powR_text {w:Pw} (h1:1≤w.1∧w.1≤200) (h2:1≤w.2∧w.2≤10000) {r:List UInt8} (hr:NoD r) (hn:r.head?≠some 94):powR (powT w++r)=(w,starR r):=by
 have i1:=itoa_is (n:=w.1) (by omega)
 have i2:=itoa_is (n:=w.2) (by omega)
 have s1:=short_itoa (n:=w.1) (by omega) (by omega)
 have s2:=short_itoa (n:=w.2) (by omega) (by omega)
 unfold powR powT
 rw[List.cons_append,show∀l:List UInt8,(120::l).drop 1=l from fun _=>rfl]
 by_cases he:w.2=1
 ·rw[if_pos he,List.append_nil]
  obtain⟨t,d⟩:=run_app _ r i1 hr
  rw[t,d,if_neg hn,s1,←he]
 ·rw[if_neg he,List.append_assoc]
  obtain⟨t,d⟩:=run_app _ ((94::itoa w.2)++r) i1 (fun c hc=>by cases hc;decide)
  rw[t,d,if_pos (show((94::itoa w.2)++r).head?=some 94 from rfl),List.cons_append,show∀l:List UInt8,(94::l).drop 1=l from fun _=>rfl]
  obtain⟨t2,d2⟩:=run_app _ r i2 hr
  rw[t2,d2,s1,s2]
theorem powsR_text:∀(m:List Pw) (n:Nat) (m0:List Pw) (r:List UInt8),(∀w∈m,1≤w.1∧w.1≤200∧1≤w.2∧w.2≤10000)→Sgd r→(Lib.join (m.map powT) [42]++r).length≤n→powsR n m0 (Lib.join (m.map powT) [42]++r)=(m0++m,r)
 |[],n,m0,r,_,hr,_=>by
  rw[List.map_nil,Lib.join_nil,List.nil_append,List.append_nil]
  cases n with
  |zero=>rfl
  |succ n=>rw[powsR,if_neg (hr.ne (by decide) (by decide))]
 |[w],n,m0,r,h,hr,hl=>by
  have hw:=h w (List.mem_cons_self ..)
  rw[List.map_cons,List.map_nil,Lib.join_one]at hl ⊢
  have hlen:0<(powT w).length:=by unfold powT;exact Nat.succ_pos _
  rw[List.length_append]at hl
  cases n with
  |zero=>omega
  |succ n=>
   rw[powsR,if_pos (by unfold powT;rfl),powR_text ⟨hw.1,hw.2.1⟩ ⟨hw.2.2.1,hw.2.2.2⟩ hr.noD (hr.ne (by decide) (by decide)),hr.star]
   exact powsR_text [] n (m0++[w]) r (fun _ hx=>absurd hx List.not_mem_nil) hr (by rw[List.map_nil,Lib.join_nil,List.nil_append];omega) |>.trans (by rw[List.append_nil])
 |w::x::m,n,m0,r,h,hr,hl=>by
  have hw:=h w (List.mem_cons_self ..)
  rw[List.map_cons,List.map_cons,jn_two,List.append_assoc,List.cons_append]at hl ⊢
  have hlen:0<(powT w).length:=by unfold powT;exact Nat.succ_pos _
  rw[List.length_append,List.length_cons]at hl
  cases n with
  |zero=>omega
  |succ n=>
   rw[powsR,if_pos (by unfold powT;rfl),powR_text ⟨hw.1,hw.2.1⟩ ⟨hw.2.2.1,hw.2.2.2⟩ (fun c hc=>by cases hc;decide) (by simp)]
   have ih:=powsR_text (x::m) n (m0++[w]) r (fun y hy=>h y (List.mem_cons_of_mem _ hy)) hr (by rw[List.map_cons];omega)
   rw[List.map_cons]at ih
   refine Eq.trans ih ?_
   rw[List.append_assoc]
   rfl
theorem numR_text {v:Nat} {m:List Pw} {r:List UInt8} (hr:Sgd r):∃q,numR (trmT v m++r)=(v,q)∧q=Lib.join (m.map powT) [42]++r:=by
 have hd:=dec_is v
 have hv:=decV_dec v
 unfold trmT partsT
 split
 ·rename_i h
  rw[h.1]at hv
  have hv:v=1:=hv.symm
  subst hv
  refine⟨_,?_,rfl⟩
  unfold numR
  rw[List.nil_append,if_neg]
  cases m with
  |nil=>exact absurd rfl h.2
  |cons w m=>
   obtain⟨s,e⟩:=jn_cons (powT w) (m.map powT) 42
   rw[List.map_cons,e]
   unfold powT
   exact fun e=>e.2 rfl
 ·rename_i h
  have hne:∀q,decDigits v++q≠[]∧(decDigits v++q).head?≠some 120:=fun q=>by
   cases hs:decDigits v with
   |nil=>exact absurd hs (dec_ne v)
   |cons c l=>
    refine⟨List.cons_ne_nil _ _,fun e=>?_⟩
    rw[hs]at hd
    exact isD_ne (hd c (List.mem_cons_self ..)) (d:=120) (by decide) (Option.some.inj e)
  refine⟨_,?_,rfl⟩
  unfold numR
  cases m with
  |nil=>
   rw[List.map_nil,List.append_nil,Lib.join_one,Lib.join_nil,if_pos (hne _)]
   obtain⟨t,d⟩:=run_app _ r hd hr.noD
   rw[t,d,hv,hr.star,List.nil_append]
  |cons w m=>
   rw[List.map_cons,List.singleton_append,jn_two,List.append_assoc,List.cons_append,if_pos (hne _)]
   obtain⟨t,d⟩:=run_app _ (42::(Lib.join (powT w::m.map powT) [42]++r)) hd (fun c hc=>by cases hc;decide)
   rw[t,d,hv]
   exact congrArg (Prod.mk v) (if_pos rfl)
theorem termR_rest {t:TermR} {r s:List UInt8} (hm:may t.m=true) (hc:t.c=intC (minR s (absT t))) (hr:Sgd r) (hf:sgnR s=trmT (absT t) t.m++r):termR s=some (t,r):=by
 obtain⟨q,e1,e2⟩:=numR_text (v:=absT t) (m:=t.m) hr
 have hp:=powsR_text t.m q.length [] r (fun w hw=>may_pos hm hw) hr (by rw[e2];exact Nat.le_refl _)
 rw[←e2,List.nil_append]at hp
 unfold termR
 simp only
 rw[hf,e1]
 simp only
 rw[hp]
 simp only
 rw[if_neg,←hc]
 rintro⟨h0,h1,h2⟩
 rcases hr with e|⟨c,q,e,hc|hc⟩
 ·exact h0 e
 ·exact h2 (by rw[e,hc];rfl)
 ·exact h1 (by rw[e,hc];rfl)
theorem intR_min {t:TermR} (hz:t.c=intC t.c.z) {s:List UInt8} (h:s.head?=some 45↔t.c.neg=true):t.c=intC (minR s (absT t)):=by
 refine hz.trans (congrArg intC ?_)
 unfold minR IntR.z absT
 by_cases hn:t.c.neg=true
 ·rw[if_pos hn,if_pos (h.2 hn)]
 ·rw[if_neg hn,if_neg fun e=>hn (h.1 e)]
theorem termR_text {fs:Bool} {t:TermR} {r:List UInt8} (hm:may t.m=true) (hz:t.c=intC t.c.z) (hr:Sgd r):termR (termT fs t++r)=some (t,r):=by
 obtain⟨c,q,e,h1,-⟩:=trmT_head (v:=absT t) t.m
 have hc45:c≠45∧c≠43:=by
  rcases h1 with h|rfl
  ·exact⟨isD_ne h (by decide),isD_ne h (by decide)⟩
  ·decide
 unfold termT
 by_cases hn:t.c.neg=true
 ·rw[if_pos hn]
  exact termR_rest hm (intR_min hz (by simp[hn])) hr rfl
 ·rw[if_neg hn]
  cases fs with
  |false=>
   rw[if_neg (by decide)]
   exact termR_rest hm (intR_min hz (by simp[hn])) hr rfl
  |true=>
   rw[if_pos rfl,List.nil_append]
   refine termR_rest hm (intR_min hz ?_) hr ?_
   ·rw[e]
    simp[hn,hc45.1]
   ·unfold sgnR
    rw[if_neg]
    rw[e]
    simp[hc45]
theorem termsR_text:∀{p:List TermR} {n:Nat} {fs:Bool},(∀t∈p,may t.m=true∧t.c=intC t.c.z)→(textL fs p).length≤n→termsR n (textL fs p)=some p
 |[],n,fs,_,_=>by
  rw[textL]
  cases n<;>rfl
 |t::p,n,fs,h,hn=>by
  have ht:=h t (List.mem_cons_self ..)
  have h0:=termT_ne fs t
  rw[textL,List.length_append]at hn
  rw[textL]
  cases n with
  |zero=>omega
  |succ n=>
   rw[termsR,if_neg (fun e=>by rw[List.append_eq_nil_iff.1 e |>.1]at h0;exact Nat.lt_irrefl _ h0),termR_text ht.1 ht.2 (textL_sgd p),Option.bind_some,
    termsR_text (p:=p) (n:=n) (fs:=false) (fun u hu=>h u (List.mem_cons_of_mem _ hu)) (by omega)]
   rfl
theorem tx_z {p:List TermR} (h:∀t∈p,LimOk 100 t.c.mag) (hm:mayP p=true):∀t∈p,may t.m=true∧t.c=intC t.c.z:=fun t ht=>by
 refine⟨mayP_m hm t ht,?_⟩
 obtain⟨i,hi,e⟩:=List.getElem_of_mem ht
 have hT:=mayP_may hm hi
 rw[List.getD_eq_getElem?_getD,List.getElem?_eq_getElem hi,Option.getD_some,e]at hT
 unfold mayT at hT
 simp only[Bool.and_eq_true,decide_eq_true_eq]at hT
 exact(mayZ_C (h t ht)).1 hT.1.2
theorem parseW_text {p:List TermR} (h:TxB p) (hm:mayP p=true):parseW (textP p)=(p,0):=by
 cases p with
 |nil=>rfl
 |cons t p=>
  unfold parseW
  rw[if_neg fun e=>text_ne48 hm e]
  have ht:textP (t::p)=textL true (t::p):=by
   unfold textP
   rw[if_neg (by rw[hm];decide),if_neg (List.cons_ne_nil _ _)]
  have hT:=termsR_text (n:=(textP (t::p)).length) (fs:=true) (tx_z h.c hm) (by rw[ht];exact Nat.le_refl _)
  rw[←ht]at hT
  rw[hT]
  exact if_pos ⟨hm,rfl⟩
end Go.Proofs.YtamgilppehibeaaGreatDoor
namespace Go.Proofs.YtamgilppehibeaaGreatDoor
open Go.Ab Go.Lib
theorem top_dig {ds:List Nat} {j:Nat} (hj:j<ds.length):(ds.reverse.take (j+1)).map digC=(ds.reverse.take j).map digC++[digC (ds.getD (ds.length-1-j) 0)]:=by
 rw[List.take_add_one,List.getElem?_eq_getElem (by rw[List.length_reverse];exact hj),List.map_append,List.getElem_reverse,List.getD_eq_getElem?_getD,List.getElem?_eq_getElem (by omega)]
 rfl
theorem cbRDig:Callable Tryz.prog 50:=fun _ _=>by kernel_rfl
theorem rdig_c (z:Int) (k:Nat) (hk:k≤1000000) (hz:ZOk k z):PCalls Tryz.prog 50 [.agg (zE z)] (.str (decDigits z.natAbs)):=by
 refine pcalls_of_awp tyok cbRDig Tryz.func50 rfl rfl ?_
 have hok:=DecOk.of (m:=10*k) hz (Nat.le_refl _)
 have hdec:=dec_digs z.natAbs
 have hzero:=digs_nil (n:=z.natAbs) ten_two
 have hlt:=hok.lt
 have hlen:=hok.len
 unfold zE
 generalize digs 10 z.natAbs=ds at*
 generalize decide (z<0)=sg
 by_cases h0:ds=[]
 ·subst h0
  rw[hzero.1 rfl,dec_zero]
  have e0:(([]:List Nat).length:Int)=0:=rfl
  ((repeat(first|refine wDB ?_|refine awp_seq_k fun K hK=>?_|(refine wH ?_;clear hK)));refine wN fun b1=>?_;(repeat(first|refine wDB ?_|refine awp_seq_k fun K hK=>?_|refine wN fun bx=>?_|(refine wH ?_;clear hK))))
  refine r1 ?_
  exact Sub.refl _
 have hpos:0<ds.length:=List.length_pos_iff.2 h0
 have hpos':¬(ds.length:Int)=0:=by omega
 have hz0:z.natAbs≠0:=fun e=>h0 (hzero.2 e)
 rw[hdec hz0]
 ((repeat(first|refine wDB ?_|refine awp_seq_k fun K hK=>?_|(refine wH ?_;clear hK)));refine wN fun b1=>?_;(repeat(first|refine wDB ?_|refine awp_seq_k fun K hK=>?_|refine wN fun bx=>?_|(refine wH ?_;clear hK))))
 refine awp_loopP (ι:={y:Nat×Buf//y.1≤ds.length∧BufI y.2 y.1}) (fun y=>[(1,.ptr b1 0),(3,bufV y.1.2 y.1.1),(4,.int .i64 ((ds.length:Int)-1-y.1.1))])
  (fun y=>.box b1 53 (.agg [.bool sg,decs ds])::bufH y.1.2 ((ds.reverse.take y.1.1).map digC)) (fun y=>ds.length-y.1.1)
  ⟨(0,none),Nat.zero_le _,rfl⟩ ⟨⟨_,rfl,Sub.refl _⟩,⟨_,rfl,Sub.refl _⟩,⟨_,rfl,Sub.of_eq (by simp)⟩,True.intro⟩ qpm ?_
 rintro⟨⟨j,b⟩,hj,hb⟩
 simp only at hj hb ⊢
 by_cases hjt:j<ds.length
 rotate_left
 ·have hge:¬(ds.length:Int)-1-j≥0:=by omega
  obtain rfl:j=ds.length:=by omega
  have e1:ds.reverse.take ds.length=ds.reverse:=List.take_of_length_le (by rw[List.length_reverse];exact Nat.le_refl _)
  match b,hb with
  |none,hb=>exact absurd hb (by unfold BufI;omega)
  |some x,hb=>
   have hb:ds.length≤x.2∧x.2≤maxLen:=hb
   simp only[bufV,bufH]
   rw[e1]
   have hl:ds.length=(ds.reverse.map digC).length:=by rw[List.length_map,List.length_reverse]
   have hb1:=hb.1
   generalize ds.reverse.map digC=out at*
   rw[hl]
   repeat(first|refine wDB ?_|refine awp_seq_k fun K hK=>?_|refine wN fun bx=>?_|(refine wH ?_;clear hK))
   refine qbstr tyok out ?_ ?_
   ·rw[←hl]
    exact hb1
   repeat(first|refine wDB ?_|refine awp_seq_k fun K hK=>?_|refine wN fun bx=>?_|(refine wH ?_;clear hK))
   refine r1 ?_
   exact Sub.refl _
 have hjt':(ds.length:Int)-1-j≥0:=by omega
 have hjm:(ds.length:Int)-1-j<ds.length:=by omega
 have ej:((ds.length:Int)-1-j).toNat=ds.length-1-j:=by omega
 have hsn:=top_dig hjt
 have hd:=hlt _ (getD_mem (l:=ds) (i:=ds.length-1-j) (by omega))
 have hdd:ds.getD (ds.length-1-j) 0=ds.getD (ds.length-1-j) default:=rfl
 rw[hdd]at hsn
 have hyl:((ds.reverse.take j).map digC).length=j:=by rw[List.length_map,List.length_take,List.length_reverse];omega
 have w8:∀z:Int,IntKind.u8.wrap z=z%256:=fun _=>rfl
 have hdr:ds.getD ((ds.length:Int)-1-j).toNat default<10:=by rw[ej];exact hd
 have E:IntKind.u8.wrap (48+((ds.getD ((ds.length:Int)-1-j).toNat default:Nat):Int))=(((digC (ds.getD (ds.length-1-j) default)).toNat:Nat):Int):=by
  rw[ej,digC_nat hd,w8]
  omega
 generalize (ds.reverse.take j).map digC=ys at*
 match b,hb with
 |none,hb=>
  have hb:j=0:=hb
  subst hb
  obtain rfl:ys=[]:=List.eq_nil_of_length_eq_zero hyl
  simp only[bufV,bufH]
  repeat(first|refine wDB ?_|refine awp_seq_k fun K hK=>?_|refine wN fun bx=>?_|(refine wH ?_;clear hK))
  refine qappO tyok byE [digC (ds.getD (ds.length-1-0) default)] (fun g' c' h1 h2=>?_) (fun i hi=>?_) (Nat.succ_pos _) ?_
  rotate_left
  ·obtain rfl:i=0:=by simpa using hi
   exact congrArg (fun z:Int=>[AV.int .u8 z]) E
  ·simp only[List.length_singleton]
   omega
  repeat(first|refine wDB ?_|refine awp_seq_k fun K hK=>?_|refine wN fun bx=>?_|(refine wH ?_;clear hK))
  refine⟨⟨(0+1,some (g',c')),by simp only;omega,?_⟩,⟨⟨_,rfl,Sub.refl _⟩,⟨_,rfl,Sub.refl _⟩,⟨_,rfl,Sub.of_eq (congrArg _ (by simp only;omega))⟩,True.intro⟩,?_,by simp only;omega⟩
  ·have h1:1≤c':=h1
   exact⟨by simp only;omega,h2⟩
  ·simp only
   rw[hsn]
   exact qpm
 |some x,hb=>
  have hb:j≤x.2∧x.2≤maxLen:=hb
  have hb1:=hb.1
  subst hyl
  simp only[bufV,bufH]
  repeat(first|refine wDB ?_|refine awp_seq_k fun K hK=>?_|refine wN fun bx=>?_|(refine wH ?_;clear hK))
  refine qappB tyok byE ys [digC (ds.getD (ds.length-1-ys.length) default)] (fun i hi=>?_) (fun _ _=>rfl) (by omega) hb.2 ?_ (fun g' c' h1 h2=>?_)
  ·obtain rfl:i=0:=by simpa using hi
   exact congrArg (fun z:Int=>[AV.int .u8 z]) E
  ·simp only[List.length_singleton]
   omega
  repeat(first|refine wDB ?_|refine awp_seq_k fun K hK=>?_|refine wN fun bx=>?_|(refine wH ?_;clear hK))
  refine⟨⟨(ys.length+1,some (g',c')),by simp only;omega,?_⟩,⟨⟨_,rfl,Sub.refl _⟩,⟨_,rfl,Sub.refl _⟩,⟨_,rfl,Sub.of_eq (congrArg _ (by simp only;omega))⟩,True.intro⟩,?_,by simp only;omega⟩
  ·have h1:ys.length+1≤c':=h1
   exact⟨by simp only;omega,h2⟩
  ·simp only
   rw[hsn]
   exact qpm
theorem cbRSmall10:Callable Tryz.prog 51:=fun _ _=>by kernel_rfl
theorem rsmall_c (n:Int) (h0:0≤n) (h1:n<4294967296):PCalls Tryz.prog 51 [.int .i64 n] (.str (itoa n)):=by
 refine pcalls_of_awp tyok cbRSmall10 Tryz.func51 rfl rfl ?_
 have g1:=zSmall_c n (by omega) (by omega)
 have g2:=rdig_c n 1 (by decide) (ZOk.small (by omega))
 rw[show n.natAbs=n.toNat by omega,←itoa_pos h0]at g2
 repeat(first|refine wDB ?_|refine awp_seq_k fun K hK=>?_|refine wN fun bx=>?_|refine wC g1 ?_|refine wC g2 ?_|(refine wH ?_;clear hK))
 refine r1 ?_
 exact Sub.refl _
def growT (v:Nat) (m:List Pw) (k:Nat):List UInt8:=decDigits v++((m.take k).map fun w=>42::powT w).flatten
theorem growT_step {v:Nat} {m:List Pw} {k:Nat} (hk:k<m.length):growT v m (k+1)=growT v m k++42::powT (m.getD k default):=by
 unfold growT
 rw[take_snoc hk,List.map_append,List.flatten_append,List.append_assoc]
 simp
theorem growT_len {v K:Nat} {m:List Pw} (hK:1≤K) (hv:v<10^K) (hm:may m=true):∀{k:Nat},k≤m.length→(growT v m k).length≤K+13*k
 |0,_=>by
  have:=dec_len hK hv
  unfold growT
  simp
  exact this
 |k+1,hk=>by
  have ih:=growT_len hK hv hm (k:=k) (by omega)
  obtain⟨w1,w2,w3,w4⟩:=may_pos hm (getD_mem (l:=m) (i:=k) (by omega))
  have hp:=powT_len ⟨w1,w2⟩ ⟨w3,w4⟩
  rw[growT_step (by omega),List.length_append,List.length_cons]
  omega
theorem itoa_len5 {n:Int} (h0:0≤n) (h:n<100000):(itoa n).length≤5:=by
 rw[itoa_pos h0]
 exact dec_len (by decide) (by omega)
theorem jn_flat (c:UInt8):∀(r:List (List UInt8)) (x:List UInt8),Lib.join (x::r) [c]=x++(r.map fun y=>c::y).flatten
 |[],x=>by rw[Lib.join_one];simp
 |y::r,x=>by
  rw[jn_two,jn_flat c r y,List.map_cons,List.flatten_cons]
  rfl
theorem growT_done (v:Nat) (m:List Pw):(∃r,r≠[]∧growT v m m.length=49::42::r∧trmT v m=r)∨
  (growT v m m.length=trmT v m∧¬(2<(trmT v m).length∧(trmT v m).getD 0 default=49∧(trmT v m).getD 1 default=42)):=by
 have hd:=dec_is v
 unfold growT trmT partsT
 rw[List.take_length]
 split
 ·rename_i h
  refine .inl ⟨_,?_,?_,rfl⟩
  ·cases m with
   |nil=>exact absurd rfl h.2
   |cons w m=>
    obtain⟨s,e⟩:=jn_cons (powT w) (m.map powT) 42
    rw[List.nil_append,List.map_cons,e]
    unfold powT
    exact List.cons_ne_nil _ _
  ·rw[h.1]
   cases m with
   |nil=>exact absurd rfl h.2
   |cons w m=>
    rw[List.nil_append,List.map_cons,List.map_cons,jn_flat,List.flatten_cons,List.map_map]
    rfl
 ·rename_i h
  refine .inr ⟨?_,?_⟩
  ·rw[List.singleton_append,jn_flat,List.map_map]
   rfl
  ·rintro⟨h2,h0,h1⟩
   rw[List.singleton_append,jn_flat]at h2 h0 h1
   cases hs:decDigits v with
   |nil=>exact absurd hs (dec_ne v)
   |cons c r=>
    rw[hs]at h2 h0 h1 hd h
    have h0:c=49:=h0
    subst h0
    cases r with
    |nil=>
     cases m with
     |nil=>simp at h2
     |cons w m=>exact h ⟨rfl,List.cons_ne_nil _ _⟩
    |cons d r=>
     have h1:d=42:=h1
     subst h1
     exact absurd (hd 42 (by simp)) (by decide)
theorem cbRText10:Callable Tryz.prog 13:=fun _ _=>by kernel_rfl
theorem rtext_c (p:List TermR) (hx:TxB p) (hm:mayP p=true):PCalls Tryz.prog 13 [pZ (pz p)] (.str (textP p)):=by
 refine pcalls_of_awp tyok cbRText10 Tryz.func13 rfl rfl ?_
 obtain⟨P,hP⟩:∃P,P=pz p:=⟨_,rfl⟩
 have hPl:P.length=p.length:=by rw[hP,List.length_map]
 have hPg:∀i,i<P.length→P.getD i default=zT (p.getD i default):=fun i hi=>by rw[hP];exact map_getD (by omega)
 rw[←hP]
 have hz:=tx_z hx.c hm
 have hlen:=hx.len
 by_cases h0:p=[]
 ·have hp0:P=[]:=by rw[hP,h0];rfl
  subst hp0
  subst h0
  have e0:(([]:PZ).length:Int)=0:=rfl
  repeat(first|refine wDB ?_|refine awp_seq_k fun K hK=>?_|refine wN fun bx=>?_|(refine wH ?_;clear hK))
  refine r1 ?_
  exact Sub.refl _
 have hpos:¬(P.length:Int)=0:=fun e=>h0 (List.eq_nil_of_length_eq_zero (by omega))
 have ht:textP p=textL true p:=by
  unfold textP
  rw[if_neg (by rw[hm];decide),if_neg h0]
 rw[ht]
 repeat(first|refine wDB ?_|refine awp_seq_k fun K hK=>?_|refine wN fun bx=>?_|(refine wH ?_;clear hK))
 refine awp_loopP (ι:={i:Nat//i≤P.length}) (fun i=>[(0,pZ P),(3,.str (textL true (p.take i.1))),(4,.int .i64 i.1)]) (fun _=>[]) (fun i=>P.length-i.1) ⟨0,Nat.zero_le _⟩ wk qpm ?_
 rintro⟨i,hi⟩
 simp only at hi ⊢
 by_cases hlt:i<P.length
 rotate_left
 ·have hge:¬(i:Int)<P.length:=by omega
  obtain rfl:i=P.length:=by omega
  rw[hPl,List.take_length]
  repeat(first|refine wDB ?_|refine awp_seq_k fun K hK=>?_|refine wN fun bx=>?_|(refine wH ?_;clear hK))
  refine r1 ?_
  exact Sub.refl _
 have hlt':(i:Int)<P.length:=by omega
 have hti:p.getD i default∈p:=getD_mem (by omega)
 obtain⟨hmt,hzt⟩:=hz _ hti
 have hg:=hPg i hlt
 have hstep:=textL_take (p:=p) (i:=i) (by omega)
 have h1:(P.getD i default).1=(p.getD i default).c.z:=by rw[hg];rfl
 have h2:(P.getD i default).2=(p.getD i default).m:=by rw[hg];rfl
 have hzk:ZOk 100 (P.getD i default).1:=by rw[h1];exact intR_zok (hx.c _ hti)
 have hab:(P.getD i default).1.natAbs=absT (p.getD i default):=by
  rw[h1]
  unfold absT IntR.z
  split<;>simp
 have hneg:(p.getD i default).c.neg=decide ((P.getD i default).1<0):=by
  rw[h1]
  exact congrArg IntR.neg hzt
 have hmay:may (P.getD i default).2=true:=by rw[h2];exact hmt
 have gD:=rdig_c (P.getD i default).1 100 (by decide) hzk
 have gS:=zSign_c (P.getD i default).1
 have hml:=may_len200 hmay
 unfold termT at hstep
 rw[hneg,←hab,←h2]at hstep
 have hT0:=textL_len (p:=p.take i) (fs:=true) (fun t ht=>hx.c t (List.mem_of_mem_take ht)) fun t ht=>(hz t (List.mem_of_mem_take ht)).1
 rw[List.length_take]at hT0
 have hT0:(textL true (p.take i)).length≤203614000:=Nat.le_trans hT0 (Nat.le_trans (Nat.mul_le_mul_right _ (show min i p.length≤1000 by omega)) (by decide))
 obtain⟨K0,hK0,hvB⟩:=dec_bound (hx.c _ hti)
 have hvB:(P.getD i default).1.natAbs<10^(K0+1):=by
  rw[hab]
  exact Nat.lt_of_lt_of_le hvB (Nat.pow_le_pow_right (by decide) (Nat.le_succ _))
 have htrm:(trmT (P.getD i default).1.natAbs (P.getD i default).2).length≤203613:=by rw[hab,h2];exact trmB (hx.c _ hti) hmt
 generalize hT:textL true (p.take i)=T0 at*
 repeat(first|refine wDB ?_|refine awp_seq_k fun K hK=>?_|refine wN fun bx=>?_|refine wC gD ?_|(refine wH ?_;clear hK))
 clear K
 rename_i K
 refine(have hr:∀T',Weak T' [(0,pZ P),(3,.str T0),(4,.int .i64 i),(5,.str (growT (P.getD i default).1.natAbs (P.getD i default).2 (P.getD i default).2.length))]→K T' []:=cutK (Wk:=[(0,pZ P),(3,.str T0),(4,.int .i64 i),(5,.str (growT (P.getD i default).1.natAbs (P.getD i default).2 (P.getD i default).2.length))]) (H0:=[]) hK ?_;?_)
 rotate_left
 ·clear hK
  rw[show decDigits (P.getD i default).1.natAbs=growT (P.getD i default).1.natAbs (P.getD i default).2 0 from (List.append_nil _).symm]
  refine awp_loopP (ι:={k:Nat//k≤(P.getD i default).2.length}) (fun k=>[(0,pZ P),(3,.str T0),(4,.int .i64 i),(5,.str (growT (P.getD i default).1.natAbs (P.getD i default).2 k.1)),(6,.int .i64 k.1)]) (fun _=>[]) (fun k=>(P.getD i default).2.length-k.1) ⟨0,Nat.zero_le _⟩ wk qpm ?_
  rintro⟨k,hk⟩
  simp only at hk ⊢
  by_cases hkt:k<(P.getD i default).2.length
  rotate_left
  ·have hge:¬(k:Int)<(P.getD i default).2.length:=by omega
   obtain rfl:k=(P.getD i default).2.length:=by omega
   repeat(first|refine wDB ?_|refine awp_seq_k fun K hK=>?_|refine wN fun bx=>?_|(refine wH ?_;clear hK))
   exact hr _ wk
  have hkt':(k:Int)<(P.getD i default).2.length:=by omega
  obtain⟨w1,w2,w3,w4⟩:=may_pos hmay (getD_mem hkt)
  have gV:=rsmall_c ((P.getD i default).2.getD k default).1 (by omega) (by omega)
  have hl1:=itoa_len5 (n:=((P.getD i default).2.getD k default).1) (by omega) (by omega)
  have hl2:=itoa_len5 (n:=((P.getD i default).2.getD k default).2) (by omega) (by omega)
  have hgl:=growT_len (by omega) hvB hmay hk
  have hkt2:(k:Int)<(P.getD ((i:Int)).toNat default).2.length:=hkt'
  have sgl:=hgl
  have sl1:=hl1
  have sl2:=hl2
  simp only[List.getD_eq_getElem?_getD]at sgl sl1 sl2
  have hgs:=growT_step (v:=(P.getD i default).1.natAbs) hkt
  unfold powT at hgs
  by_cases he:((P.getD i default).2.getD k default).2>1
  ·have gE:=rsmall_c ((P.getD i default).2.getD k default).2 (by omega) (by omega)
   rw[if_neg (by omega)]at hgs
   have hgs':growT (P.getD i default).1.natAbs (P.getD i default).2 (k+1)=growT (P.getD i default).1.natAbs (P.getD i default).2 k++[42,120]++itoa ((P.getD i default).2.getD k default).1++[94]++itoa ((P.getD i default).2.getD k default).2:=by
    rw[hgs]
    simp only[List.append_assoc,List.cons_append,List.nil_append]
   repeat(first|refine wDB ?_|refine awp_seq_k fun K hK=>?_|refine wN fun bx=>?_|refine wC gV ?_|refine wC gE ?_|(refine wH ?_;clear hK))
   refine⟨⟨k+1,hkt⟩,?_,qpm,by simp only;omega⟩
   simp only[hgs']
   exact wk
  ·rw[if_pos (by omega),List.append_nil]at hgs
   have hgs':growT (P.getD i default).1.natAbs (P.getD i default).2 (k+1)=growT (P.getD i default).1.natAbs (P.getD i default).2 k++[42,120]++itoa ((P.getD i default).2.getD k default).1:=by
    rw[hgs]
    simp only[List.append_assoc,List.cons_append,List.nil_append]
   repeat(first|refine wDB ?_|refine awp_seq_k fun K hK=>?_|refine wN fun bx=>?_|refine wC gV ?_|(refine wH ?_;clear hK))
   refine⟨⟨k+1,hkt⟩,?_,qpm,by simp only;omega⟩
   simp only[hgs']
   exact wk
 clear hK
 refine awp_seq_k fun K2 hK2=>?_
 refine(have hr:∀T',Weak T' [(0,pZ P),(3,.str T0),(4,.int .i64 i),(5,.str (trmT (P.getD i default).1.natAbs (P.getD i default).2))]→K2 T' []:=cutK (Wk:=[(0,pZ P),(3,.str T0),(4,.int .i64 i),(5,.str (trmT (P.getD i default).1.natAbs (P.getD i default).2))]) (H0:=[]) hK2 ?_;?_)
 rotate_left
 ·clear hK2
  rcases growT_done (P.getD i default).1.natAbs (P.getD i default).2 with⟨r,hr0,e1,e2⟩|⟨e1,e2⟩
  ·rw[e1]
   rw[e2]at hr
   have hl:((49::42::r:List UInt8).length:Int)=r.length+2:=by rw[List.length_cons,List.length_cons];omega
   have hl0:(0:Int)<r.length:=by
    have:=List.length_pos_iff.2 hr0
    omega
   repeat(first|refine wDB ?_|refine awp_seq_k fun K hK=>?_|refine wN fun bx=>?_|(refine wH ?_;clear hK))
   exact hr _ wk
  ·rw[e1]
   generalize trmT (P.getD i default).1.natAbs (P.getD i default).2=t at*
   match t,e2,hr with
   |[],_,hr=>
    repeat(first|refine wDB ?_|refine awp_seq_k fun K hK=>?_|refine wN fun bx=>?_|(refine wH ?_;clear hK))
    exact hr _ wk
   |[_],_,hr=>
    repeat(first|refine wDB ?_|refine awp_seq_k fun K hK=>?_|refine wN fun bx=>?_|(refine wH ?_;clear hK))
    exact hr _ wk
   |[_,_],_,hr=>
    repeat(first|refine wDB ?_|refine awp_seq_k fun K hK=>?_|refine wN fun bx=>?_|(refine wH ?_;clear hK))
    exact hr _ wk
   |c::d::x::r,e2,hr=>
    have hl:((c::d::x::r:List UInt8).length:Int)=r.length+3:=by simp only[List.length_cons];omega
    by_cases hc:(c.toNat:Int)=49
    ·have hd:¬(d.toNat:Int)=42:=fun hd=>e2 ⟨by simp only[List.length_cons];omega,UInt8.toNat_inj.1 (show c.toNat=49 by omega),UInt8.toNat_inj.1 (show d.toNat=42 by omega)⟩
     repeat(first|refine wDB ?_|refine awp_seq_k fun K hK=>?_|refine wN fun bx=>?_|(refine wH ?_;clear hK))
     exact hr _ wk
    ·repeat(first|refine wDB ?_|refine awp_seq_k fun K hK=>?_|refine wN fun bx=>?_|(refine wH ?_;clear hK))
     exact hr _ wk
 clear hK2
 simp only[List.getD_eq_getElem?_getD]at htrm
 by_cases hn:(P.getD i default).1<0
 ·have hs:signZ (P.getD i default).1<0:=by unfold signZ;split<;>omega
  rw[if_pos (decide_eq_true hn),←List.append_assoc]at hstep
  repeat(first|refine wDB ?_|refine awp_seq_k fun K hK=>?_|refine wN fun bx=>?_|refine wC gS ?_|(refine wH ?_;clear hK))
  refine⟨⟨i+1,hlt⟩,?_,qpm,by simp only;omega⟩
  simp only[hstep]
  exact wk
 ·have hs:¬signZ (P.getD i default).1<0:=by unfold signZ;split<;>omega
  rw[if_neg (by rw[decide_eq_false hn];decide)]at hstep
  by_cases hi0:i=0
  ·have hi0':¬(i:Int)>0:=by omega
   rw[if_pos (decide_eq_true hi0),List.nil_append]at hstep
   repeat(first|refine wDB ?_|refine awp_seq_k fun K hK=>?_|refine wN fun bx=>?_|refine wC gS ?_|(refine wH ?_;clear hK))
   refine⟨⟨i+1,hlt⟩,?_,qpm,by simp only;omega⟩
   simp only[hstep]
   exact wk
  ·have hi0':(i:Int)>0:=by omega
   rw[if_neg (by rw[decide_eq_false hi0];decide),←List.append_assoc]at hstep
   repeat(first|refine wDB ?_|refine awp_seq_k fun K hK=>?_|refine wN fun bx=>?_|refine wC gS ?_|(refine wH ?_;clear hK))
   refine⟨⟨i+1,hlt⟩,?_,qpm,by simp only;omega⟩
   simp only[hstep]
   exact wk
end Go.Proofs.YtamgilppehibeaaGreatDoor
namespace Go.Proofs.YtamgilppehibeaaGreatDoor
open Go.Ab Go.Lib
def runAt (s:List UInt8) (at':Nat):List UInt8:=(s.drop at').takeWhile isD
theorem tw_get:∀{l:List UInt8} {k:Nat},k<(l.takeWhile isD).length→k<l.length∧(l.takeWhile isD).getD k 0=l.getD k 0∧isD (l.getD k 0)=true
 |[],k,hk=>by simp at hk
 |c::l,k,hk=>by
  rw[List.takeWhile_cons]at hk ⊢
  cases hc:isD c with
  |false=>
   rw[hc]at hk
   simp at hk
  |true=>
   rw[hc]at hk
   simp only[if_true,List.length_cons]at hk ⊢
   cases k with
   |zero=>exact⟨by omega,rfl,hc⟩
   |succ k=>
    obtain⟨h1,h2,h3⟩:=tw_get (l:=l) (k:=k) (by omega)
    exact⟨by omega,h2,h3⟩
theorem tw_end:∀{l:List UInt8},(l.takeWhile isD).length<l.length→isD (l.getD (l.takeWhile isD).length 0)=false
 |[],h=>by simp at h
 |c::l,h=>by
  rw[List.takeWhile_cons]at h ⊢
  cases hc:isD c with
  |false=>
   simp only[Bool.false_eq_true,if_false]
   exact hc
  |true=>
   rw[hc]at h
   simp only[if_true,List.length_cons]at h ⊢
   exact tw_end (l:=l) (by omega)
theorem run_get {s:List UInt8} {a k:Nat} (hk:k<(runAt s a).length):a+k<s.length∧(runAt s a).getD k 0=s.getD (a+k) 0∧isD (s.getD (a+k) 0)=true:=by
 obtain⟨h1,h2,h3⟩:=tw_get hk
 have e:(s.drop a).getD k 0=s.getD (a+k) 0:=by rw[List.getD_eq_getElem?_getD,List.getD_eq_getElem?_getD,List.getElem?_drop]
 rw[List.length_drop]at h1
 rw[e]at h2 h3
 exact⟨by omega,h2,h3⟩
theorem run_end {s:List UInt8} {a:Nat} (h:a+(runAt s a).length<s.length):isD (s.getD (a+(runAt s a).length) 0)=false:=by
 have:=tw_end (l:=s.drop a) (by rw[List.length_drop];unfold runAt at h;omega)
 rw[List.getD_eq_getElem?_getD,List.getElem?_drop]at this
 rw[List.getD_eq_getElem?_getD]
 exact this
theorem run_le {s:List UInt8} {a:Nat} (ha:a≤s.length):a+(runAt s a).length≤s.length:=by
 have:=tw_le (s.drop a)
 rw[List.length_drop]at this
 unfold runAt
 omega
theorem run_take {s:List UInt8} {a k:Nat} (hk:k<(runAt s a).length):(runAt s a).take (k+1)=(runAt s a).take k++[s.getD (a+k) 0]:=by
 rw[List.take_add_one,List.getElem?_eq_getElem hk,←(run_get hk).2.1,List.getD_eq_getElem?_getD,List.getElem?_eq_getElem hk]
 rfl
theorem run_drop (s:List UInt8) (a:Nat):s.drop (a+(runAt s a).length)=(s.drop a).dropWhile isD:=by
 have h:=List.takeWhile_append_dropWhile (p:=isD) (l:=s.drop a)
 rw[←List.drop_drop]
 conv=>lhs;arg 2;rw[←h]
 exact List.drop_left
theorem run_isD (s:List UInt8) (a:Nat):∀c∈runAt s a,isD c=true:=tw_all _
theorem isD_not {c:UInt8} (h:isD c=false):¬(48≤(c.toNat:Int)∧(c.toNat:Int)≤57):=fun e=>by
 rw[isD_iff.2 (by omega)]at h
 cases h
theorem cbRNum10:Callable Tryz.prog 58:=fun _ _=>by kernel_rfl
theorem rnum_c (s:List UInt8) (a:Nat) (ha:a≤s.length) (hs:s.length≤899):PCalls Tryz.prog 58 [.str s,.int .i64 a] (.tuple [.agg (zE (decV (runAt s a))),.int .i64 ((a+(runAt s a).length:Nat):Int)]):=by
 refine pcalls_of_awp tyok cbRNum10 Tryz.func58 rfl rfl ?_
 have hrl:=run_le ha
 have g0:=zSmall_c 0 (by decide) (by decide)
 have g10:=zSmall_c 10 (by decide) (by decide)
 ((repeat(first|refine wDB ?_|refine awp_seq_k fun K hK=>?_|refine wC g0 ?_|(refine wH ?_;clear hK)));refine wN fun b4=>?_;(repeat(first|refine wDB ?_|refine awp_seq_k fun K hK=>?_|refine wC g0 ?_|(refine wH ?_;clear hK)));refine wN fun b6=>?_;(repeat(first|refine wDB ?_|refine awp_seq_k fun K hK=>?_|refine wN fun bx=>?_|refine wC g0 ?_|(refine wH ?_;clear hK))))
 refine awp_loopP (ι:={k:Nat//k≤(runAt s a).length}) (fun k=>[(0,.str s),(1,.int .i64 ((a+k.1:Nat):Int)),(4,.ptr b4 0),(6,.ptr b6 0)])
  (fun k=>[.box b6 53 (.agg (zE (decV ((runAt s a).take k.1)))),.box b4 53 (.agg [.bool false,.nils])]) (fun k=>(runAt s a).length-k.1) ⟨0,Nat.zero_le _⟩ wk qpm ?_
 rintro⟨k,hk⟩
 simp only at hk ⊢
 by_cases hkt:k<(runAt s a).length
 rotate_left
 ·obtain rfl:k=(runAt s a).length:=by omega
  rw[List.take_length]
  by_cases he:a+(runAt s a).length<s.length
  ·have hd:=isD_not (run_end he)
   have he':((a+(runAt s a).length:Nat):Int)<s.length:=by omega
   by_cases h48:48≤(((s.getD (a+(runAt s a).length) 0).toNat:Nat):Int)
   ·have h57:¬(((s.getD (a+(runAt s a).length) 0).toNat:Nat):Int)≤57:=fun e=>hd ⟨h48,e⟩
    repeat(first|refine wDB ?_|refine awp_seq_k fun K hK=>?_|refine wN fun bx=>?_|(refine wH ?_;clear hK))
    refine rcB ?_ ?_
    ·exact Sub.refl _
    ·exact Sub.refl _
   ·repeat(first|refine wDB ?_|refine awp_seq_k fun K hK=>?_|refine wN fun bx=>?_|(refine wH ?_;clear hK))
    refine rcB ?_ ?_
    ·exact Sub.refl _
    ·exact Sub.refl _
  ·have he':¬((a+(runAt s a).length:Nat):Int)<s.length:=by omega
   repeat(first|refine wDB ?_|refine awp_seq_k fun K hK=>?_|refine wN fun bx=>?_|(refine wH ?_;clear hK))
   refine rcB ?_ ?_
   ·exact Sub.refl _
   ·exact Sub.refl _
 obtain⟨h1,h2,h3⟩:=run_get hkt
 have h4:=isD_iff.1 h3
 have h5:=run_take hkt
 have h1':((a+k:Nat):Int)<s.length:=by omega
 have c48:48≤(((s.getD (a+k) 0).toNat:Nat):Int):=by omega
 have c57:(((s.getD (a+k) 0).toNat:Nat):Int)≤57:=by omega
 have hv:decV ((runAt s a).take (k+1))=decV ((runAt s a).take k)*10+((s.getD (a+k) 0).toNat-48):=by rw[h5,decV_snoc]
 have hz:ZOk 100 (decV ((runAt s a).take k)):=ZOk.nat (ten_b32 (q:=100) (decV_lt fun c hc=>run_isD s a c (List.mem_of_mem_take hc)) (by rw[List.length_take];omega))
 generalize decV ((runAt s a).take k)=V at*
 have gM:=zMul_c 100 V 10 (by decide) hz ((ZOk.small (by decide)).mono (by decide))
 have gA:=zAdd_c 200 ((V:Int)*10) ((s.getD (a+k) 0).toNat-48) (by decide) ((hz.mul ((ZOk.small (z:=10) (by decide)).mono (m:=100) (by decide)))) ((ZOk.small (by omega)).mono (by decide))
 rw[show(V:Int)*10+((s.getD (a+k) 0).toNat-48)=(decV ((runAt s a).take (k+1)):Int) by omega]at gA
 repeat(first|refine wKB ?_|refine awp_seq_k fun K hK=>?_|refine wN fun bx=>?_|(refine wH ?_;clear hK))
 refine areg_soft mixed tyok [1,2,8,9] [] [0,1,2,3,4,5,6,7,8,9,10] (by decide +kernel) ?_
 have w8:∀z:Int,IntKind.u8.wrap z=z%256:=fun _=>rfl
 have E:IntKind.i64.wrap (IntKind.u8.wrap ((((s.getD ((a+k:Nat):Int).toNat 0).toNat:Nat):Int)-48))=(((s.getD (a+k) 0).toNat:Nat):Int)-48:=by
  rw[Int.toNat_natCast,w8]
  have h8:((((s.getD (a+k) 0).toNat:Nat):Int)-48)%256=(((s.getD (a+k) 0).toNat:Nat):Int)-48:=by
   have:=(s.getD (a+k) 0).toNat_lt
   omega
  rw[h8]
  exact wrap_inK (by simp only[inK];omega)
 have gS:=zSmall_c ((((s.getD (a+k) 0).toNat:Nat):Int)-48) (by omega) (by omega)
 have gS:PCalls Tryz.prog 57 [.int .i64 (IntKind.i64.wrap (IntKind.u8.wrap ((((s.getD ((a+k:Nat):Int).toNat 0).toNat:Nat):Int)-48)))] (.agg (zE ((((s.getD (a+k) 0).toNat:Nat):Int)-48))):=by
  rw[E]
  exact gS
 repeat(first|refine wDB ?_|refine awp_seq_k fun K hK=>?_|refine wN fun bx=>?_|refine wC g10 ?_|refine wC gM ?_|refine wC gS ?_|refine wC gA ?_|(refine wH ?_;clear hK))
 exact⟨⟨k+1,hkt⟩,wk,qpm,by simp only;omega⟩
theorem short_step {s:List UInt8} {a k:Nat} (hk:k<(runAt s a).length):shortF ((runAt s a).take (k+1))=if k<5 then shortF ((runAt s a).take k)*10+(((s.getD (a+k) 0).toNat:Nat):Int)-48 else 99999:=by
 obtain⟨h1,h2,h3⟩:=run_get hk
 have h4:=isD_iff.1 h3
 have l1:((runAt s a).take k).length=k:=by rw[List.length_take];omega
 have l2:((runAt s a).take (k+1)).length=k+1:=by rw[List.length_take];omega
 unfold shortF
 rw[l1,l2]
 by_cases h:k<5
 ·rw[if_pos h,if_pos (by omega),if_pos (by omega),run_take hk,decV_snoc]
  omega
 ·rw[if_neg h,if_neg (by omega)]
theorem short_lt {s:List UInt8} {a k:Nat} (hk:k≤5):0≤shortF ((runAt s a).take k)∧shortF ((runAt s a).take k)<100000:=by
 have l1:((runAt s a).take k).length≤k:=by rw[List.length_take];omega
 have h1:=decV_lt (b:=(runAt s a).take k) fun c hc=>run_isD s a c (List.mem_of_mem_take hc)
 have h2:10^((runAt s a).take k).length≤10^5:=Nat.pow_le_pow_right (by decide) (by omega)
 unfold shortF
 rw[if_pos (by omega)]
 omega
theorem cbRShort10:Callable Tryz.prog 59:=fun _ _=>by kernel_rfl
theorem rshort_c (s:List UInt8) (a:Nat) (ha:a≤s.length) (hs:s.length≤899):PCalls Tryz.prog 59 [.str s,.int .i64 a] (.tuple [.int .i64 (shortF (runAt s a)),.int .i64 ((a+(runAt s a).length:Nat):Int)]):=by
 refine pcalls_of_awp tyok cbRShort10 Tryz.func59 rfl rfl ?_
 have hrl:=run_le ha
 repeat(first|refine wDB ?_|refine awp_seq_k fun K hK=>?_|refine wN fun bx=>?_|(refine wH ?_;clear hK))
 refine awp_loopP (ι:={k:Nat//k≤(runAt s a).length}) (fun k=>[(0,.str s),(1,.int .i64 ((a+k.1:Nat):Int)),(6,.int .i64 (shortF ((runAt s a).take k.1))),(7,.int .i64 a)])
  (fun _=>[]) (fun k=>(runAt s a).length-k.1) ⟨0,Nat.zero_le _⟩ wk qpm ?_
 rintro⟨k,hk⟩
 simp only at hk ⊢
 by_cases hkt:k<(runAt s a).length
 rotate_left
 ·obtain rfl:k=(runAt s a).length:=by omega
  rw[List.take_length]
  by_cases he:a+(runAt s a).length<s.length
  ·have hd:=isD_not (run_end he)
   have he':((a+(runAt s a).length:Nat):Int)<s.length:=by omega
   by_cases h48:48≤(((s.getD (a+(runAt s a).length) 0).toNat:Nat):Int)
   ·have h57:¬(((s.getD (a+(runAt s a).length) 0).toNat:Nat):Int)≤57:=fun e=>hd ⟨h48,e⟩
    repeat(first|refine wDB ?_|refine awp_seq_k fun K hK=>?_|refine wN fun bx=>?_|(refine wH ?_;clear hK))
    refine r2 ?_ ?_
    ·exact Sub.refl _
    ·exact Sub.refl _
   ·repeat(first|refine wDB ?_|refine awp_seq_k fun K hK=>?_|refine wN fun bx=>?_|(refine wH ?_;clear hK))
    refine r2 ?_ ?_
    ·exact Sub.refl _
    ·exact Sub.refl _
  ·have he':¬((a+(runAt s a).length:Nat):Int)<s.length:=by omega
   repeat(first|refine wDB ?_|refine awp_seq_k fun K hK=>?_|refine wN fun bx=>?_|(refine wH ?_;clear hK))
   refine r2 ?_ ?_
   ·exact Sub.refl _
   ·exact Sub.refl _
 obtain⟨h1,h2,h3⟩:=run_get hkt
 have h4:=isD_iff.1 h3
 have h5:=short_step hkt
 have h1':((a+k:Nat):Int)<s.length:=by omega
 have c48:48≤(((s.getD (a+k) 0).toNat:Nat):Int):=by omega
 have c57:(((s.getD (a+k) 0).toNat:Nat):Int)≤57:=by omega
 by_cases h5k:k<5
 ·have hl:=short_lt (s:=s) (a:=a) (k:=k) (by omega)
  rw[if_pos h5k]at h5
  have w8:∀z:Int,IntKind.u8.wrap z=z%256:=fun _=>rfl
  have E:IntKind.i64.wrap (IntKind.u8.wrap ((((s.getD ((a+k:Nat):Int).toNat 0).toNat:Nat):Int)-48))=(((s.getD (a+k) 0).toNat:Nat):Int)-48:=by
   rw[Int.toNat_natCast,w8]
   have h8:((((s.getD (a+k) 0).toNat:Nat):Int)-48)%256=(((s.getD (a+k) 0).toNat:Nat):Int)-48:=by omega
   rw[h8]
   exact wrap_inK (by simp only[inK];omega)
  have hk5:((a+k:Nat):Int)-a<5:=by omega
  have h5r:shortF ((runAt s a).take (k+1))=shortF ((runAt s a).take k)*10+IntKind.i64.wrap (IntKind.u8.wrap ((((s.getD ((a+k:Nat):Int).toNat 0).toNat:Nat):Int)-48)):=by
   rw[h5,E]
   omega
  generalize shortF ((runAt s a).take k)=V at*
  repeat(first|refine wDB ?_|refine awp_seq_k fun K hK=>?_|refine wN fun bx=>?_|(refine wH ?_;clear hK))
  refine⟨⟨k+1,hkt⟩,?_,qpm,by simp only;omega⟩
  simp only[h5r]
  exact wk
 ·rw[if_neg h5k]at h5
  have hk5:¬((a+k:Nat):Int)-a<5:=by omega
  repeat(first|refine wDB ?_|refine awp_seq_k fun K hK=>?_|refine wN fun bx=>?_|(refine wH ?_;clear hK))
  refine⟨⟨k+1,hkt⟩,?_,qpm,by simp only;omega⟩
  simp only[h5]
  exact wk
end Go.Proofs.YtamgilppehibeaaGreatDoor
namespace Go.Proofs.YtamgilppehibeaaGreatDoor
open Go.Ab Go.Lib
structure PsI (s:List UInt8) (acc:List TermR) (a:Nat):Prop where
 le:a≤s.length
 len:acc.length≤a
 ok:∀t∈acc,TrB t
 eq:∃n,s.length≤n+a∧termsR s.length s=(termsR n (s.drop a)).map (acc++ ·)
theorem PsI.done {s:List UInt8} {acc:List TermR} (h:PsI s acc s.length):termsR s.length s=some acc:=by
 obtain⟨n,-,e⟩:=h.eq
 have h0:termsR n []=some []:=by cases n<;>rfl
 rw[e,List.drop_length,h0,Option.map_some,List.append_nil]
theorem drop_ne {s:List UInt8} {a:Nat} (h:a<s.length):s.drop a≠[]:=fun e=>by
 have:=congrArg List.length e
 rw[List.length_drop,List.length_nil]at this
 omega
theorem PsI.none {s:List UInt8} {acc:List TermR} {a:Nat} (h:PsI s acc a) (h0:a<s.length) (hF:termR (s.drop a)=none):termsR s.length s=none:=by
 obtain⟨n,hn,e⟩:=h.eq
 cases n with
 |zero=>omega
 |succ n=>
  rw[e,termsR,if_neg (drop_ne h0),hF]
  rfl
theorem PsI.step {s:List UInt8} {acc:List TermR} {t:TermR} {a b:Nat} (h:PsI s acc a) (hs:s.length≤899) (h0:a<s.length) (hb:b≤s.length) (hF:termR (s.drop a)=some (t,s.drop b)):a<b∧PsI s (acc++[t]) b:=by
 have hls:(s.drop a).length≤899:=by rw[List.length_drop];omega
 obtain⟨hlt,htb⟩:=termR_ok (drop_ne h0) hls hF
 rw[List.length_drop,List.length_drop]at hlt
 have hab:a<b:=by omega
 obtain⟨n,hn,e⟩:=h.eq
 have hle:=h.len
 refine⟨hab,hb,by rw[List.length_append,List.length_singleton];omega,fun u hu=>?_,?_⟩
 ·rcases List.mem_append.1 hu with hu|hu
  ·exact h.ok u hu
  ·rw[List.mem_singleton.1 hu]
   exact htb
 ·cases n with
  |zero=>omega
  |succ n=>
   refine⟨n,by omega,?_⟩
   rw[e,termsR,if_neg (drop_ne h0),hF,Option.bind_some]
   cases termsR n (s.drop b)with
   |none=>rfl
   |some q=>simp
theorem head_at {s:List UInt8} {a:Nat} (h:a<s.length):(s.drop a).head?=some (s.getD a default):=by
 rw[List.head?_drop,List.getD_eq_getElem?_getD,List.getElem?_eq_getElem h]
 rfl
theorem head_end {s:List UInt8} {a:Nat} (h:¬a<s.length):s.drop a=[]:=List.drop_eq_nil_of_le (by omega)
theorem sgnR_at {s:List UInt8} {a:Nat} (h:a<s.length):sgnR (s.drop a)=if s.getD a default=45∨s.getD a default=43 then s.drop (a+1) else s.drop a:=by
 unfold sgnR
 rw[head_at h,List.drop_drop]
 simp only[Option.some.injEq]
theorem starR_at {s:List UInt8} {a:Nat} (h:a<s.length):starR (s.drop a)=if s.getD a default=42 then s.drop (a+1) else s.drop a:=by
 unfold starR
 rw[head_at h,List.drop_drop]
 simp only[Option.some.injEq]
theorem starR_end {s:List UInt8} {a:Nat} (h:¬a<s.length):starR (s.drop a)=s.drop a:=by
 rw[head_end h]
 rfl
theorem numR_at {s:List UInt8} {a:Nat} (h:a<s.length) (hx:s.getD a default≠120):numR (s.drop a)=(decV (runAt s a),starR (s.drop (a+(runAt s a).length))):=by
 unfold numR
 rw[if_pos ⟨drop_ne h,by rw[head_at h];exact fun e=>hx (Option.some.inj e)⟩,run_drop]
 rfl
theorem numR_no {s:List UInt8} {a:Nat} (h:¬(a<s.length∧s.getD a default≠120)):numR (s.drop a)=(1,s.drop a):=by
 unfold numR
 rw[if_neg]
 rintro⟨h1,h2⟩
 have ha:a<s.length:=by
  by_cases ha:a<s.length
  ·exact ha
  ·exact absurd (head_end ha) h1
 exact h ⟨ha,fun e=>h2 (by rw[head_at ha,e])⟩
theorem powR_no {s:List UInt8} {a:Nat} (hn:a+1+(runAt s (a+1)).length<s.length→s.getD (a+1+(runAt s (a+1)).length) default≠94):powR (s.drop a)=((shortF (runAt s (a+1)),1),starR (s.drop (a+1+(runAt s (a+1)).length))):=by
 unfold powR
 rw[List.drop_drop,←run_drop,if_neg]
 ·rfl
 ·intro e
  by_cases hl:a+1+(runAt s (a+1)).length<s.length
  ·rw[head_at hl]at e
   exact hn hl (Option.some.inj e)
  ·rw[head_end hl]at e
   cases e
theorem powR_yes {s:List UInt8} {a b:Nat} (hb:b=a+1+(runAt s (a+1)).length) (h:b<s.length) (hn:s.getD b default=94):powR (s.drop a)=((shortF (runAt s (a+1)),shortF (runAt s (b+1))),starR (s.drop (b+1+(runAt s (b+1)).length))):=by
 subst hb
 unfold powR
 rw[List.drop_drop,←run_drop,if_pos (by rw[head_at h,hn]),List.drop_drop,←run_drop]
 rfl
theorem powsR_stop {s:List UInt8} {a n:Nat} {m:List Pw} (h:a<s.length→s.getD a default≠120):powsR n m (s.drop a)=(m,s.drop a):=by
 cases n with
 |zero=>rfl
 |succ n=>
  rw[powsR,if_neg]
  intro e
  by_cases hl:a<s.length
  ·rw[head_at hl]at e
   exact h hl (Option.some.inj e)
  ·rw[head_end hl]at e
   cases e
theorem powsR_go {s:List UInt8} {a b:Nat} {m:List Pw} {w:Pw} (h:a<s.length) (hx:s.getD a default=120) (hw:powR (s.drop a)=(w,s.drop b)):powsR (s.drop a).length m (s.drop a)=powsR (s.drop b).length (m++[w]) (s.drop b)∧(b≤s.length→a<b):=by
 have hd:(s.drop a).head?=some 120:=by rw[head_at h,hx]
 have hlt:=powR_lt hd
 rw[hw]at hlt
 simp only[List.length_drop]at hlt
 refine⟨?_,fun _=>by omega⟩
 rw[show(s.drop a).length=(s.length-a-1)+1 by rw[List.length_drop];omega,powsR,if_pos hd,hw]
 exact powsR_fuel (by rw[List.length_drop];omega) (Nat.le_refl _)
theorem minR_at {s:List UInt8} {a n:Nat} (h:a<s.length):minR (s.drop a) n=if s.getD a default=45 then -(n:Int) else n:=by
 unfold minR
 rw[head_at h]
 simp only[Option.some.injEq]
theorem termR_at {s:List UInt8} {a a1 a2 a3 n:Nat} {m:List Pw} (h1:s.drop a1=sgnR (s.drop a)) (h2:(n,s.drop a2)=numR (s.drop a1)) (h3:powsR (s.drop a2).length [] (s.drop a2)=(m,s.drop a3)):
  termR (s.drop a)=if s.drop a3≠[]∧(s.drop a3).head?≠some 45∧(s.drop a3).head?≠some 43 then none else some (⟨intC (minR (s.drop a) n),m⟩,s.drop a3):=by
 unfold termR
 simp only
 rw[←h1,←h2]
 simp only
 rw[h3]
theorem byte_of {c:UInt8} {k:Nat} (hk:k<256) (h:(c.toNat:Int)=k):c=UInt8.ofNat k:=UInt8.toNat_inj.1 (by rw[UInt8.toNat_ofNat'];omega)
theorem cbRParse:Callable Tryz.prog 16:=fun _ _=>by kernel_rfl
theorem rparse_c (s:List UInt8) (hs:s.length≤899):PCalls Tryz.prog 16 [.str s] (.tuple [polyV (parseW s).1,.int .i64 (parseW s).2]):=by
 refine pcalls_of_awp tyok cbRParse Tryz.func16 rfl rfl ?_
 have hng:¬(s.length:Int)>65536:=by omega
 repeat(first|refine wDB ?_|refine awp_seq_k fun K hK=>?_|refine wN fun bx=>?_|(refine wH ?_;clear hK))
 clear K
 rename_i K
 refine(have hr:∀(acc:List TermR) (ad:Option Addr) (cp:Nat),TxB acc→(∀t∈acc,TrB t)→parseW s=(if mayP acc=true∧textP acc=s then(acc,0) else([],4))→∀T',Weak T' [(0,.str s),(4,sl termE 3 acc (.own ad cp))]→K T' [.tok ad cp acc.length 3 70]:=
  fun acc ad cp hx hb hres=>cutK (Wk:=[(0,.str s),(4,sl termE 3 acc (.own ad cp))]) (H0:=[.tok ad cp acc.length 3 70]) hK ?_;?_)
 rotate_left
 ·clear hK
  refine awp_tok0 3 70 ?_
  by_cases h48:s=[48]
  ·subst h48
   have hres:parseW [48]=(if mayP []=true∧textP []=[48] then([],0) else([],4)):=rfl
   refine awp_loopP (ι:=Unit) (fun _=>[(0,.str [48]),(4,sl termE 3 [] (.own none 0)),(5,.int .i64 0)]) (fun _=>[.tok none 0 0 3 70]) (fun _=>0) () wk qpm ?_
   rintro⟨⟩
   have hne:(([48]:List UInt8) !=[48])=false:=rfl
   repeat(first|refine wDB ?_|refine awp_seq_k fun K hK=>?_|refine wN fun bx=>?_|(refine wH ?_;clear hK))
   exact hr [] none 0 ⟨by decide,fun t ht=>absurd ht List.not_mem_nil⟩ (fun t ht=>absurd ht List.not_mem_nil) hres _ wk
  have hpW:parseW s=match termsR s.length s with
   |none=>([],4)
   |some p=>if mayP p=true∧textP p=s then(p,0) else([],4):=by
   unfold parseW
   rw[if_neg h48]
   first|done|rfl
  have hne:(s !=[48])=true:=bne_iff_ne.2 h48
  refine awp_loopP (ι:={y:List TermR×Nat×Option Addr×Nat//PsI s y.1 y.2.1}) (fun y=>[(0,.str s),(4,sl termE 3 y.1.1 (.own y.1.2.2.1 y.1.2.2.2)),(5,.int .i64 y.1.2.1)]) (fun y=>[.tok y.1.2.2.1 y.1.2.2.2 y.1.1.length 3 70]) (fun y=>s.length-y.1.2.1)
   ⟨([],0,none,0),Nat.zero_le _,Nat.zero_le _,fun t ht=>absurd ht List.not_mem_nil,s.length,Nat.le_refl _,by rw[List.drop_zero];cases termsR s.length s<;>simp⟩ wk qpm ?_
  rintro⟨⟨acc,at',ad,cp⟩,hI⟩
  simp only at hI ⊢
  by_cases hat:at'<s.length
  rotate_left
  ·have hge:¬(at':Int)<s.length:=by omega
   obtain rfl:at'=s.length:=by have:=hI.le;omega
   have hd:=hI.done
   rw[hd]at hpW
   have hal:=hI.len
   repeat(first|refine wDB ?_|refine awp_seq_k fun K hK=>?_|refine wN fun bx=>?_|(refine wH ?_;clear hK))
   exact hr acc ad cp (tr_tx (by omega) hI.ok) hI.ok hpW _ wk
  have hat':(at':Int)<s.length:=by omega
  clear hr
  have hle:=hI.le
  have hal:=hI.len
  have hdf:∀b,s.getD b 0=s.getD b default:=fun _=>rfl
  repeat(first|refine wDB ?_|refine awp_seq_k fun K hK=>?_|refine wN fun bx=>?_|(refine wH ?_;clear hK))
  clear K
  rename_i K
  refine(have hj:∀a1:Nat,a1≤s.length→s.drop a1=sgnR (s.drop at')→∀T',Weak T' [(0,.str s),(4,sl termE 3 acc (.own ad cp)),(5,.int .i64 a1),(6,.bool ((((s.getD at' default).toNat:Nat):Int)==45))]→K T' [.tok ad cp acc.length 3 70]:=
   fun a1 ha1 e1=>cutK (Wk:=[(0,.str s),(4,sl termE 3 acc (.own ad cp)),(5,.int .i64 a1),(6,.bool ((((s.getD at' default).toNat:Nat):Int)==45))]) (H0:=[.tok ad cp acc.length 3 70]) hK ?_;?_)
  rotate_left
  ·clear hK
   have hs:=sgnR_at hat
   refine awp_cond rfl (fun hb=>?_) (fun hb=>?_)
   ·rw[if_pos ?_]at hs
    ·repeat(first|refine wDB ?_|refine awp_seq_k fun K hK=>?_|refine wN fun bx=>?_|(refine wH ?_;clear hK))
     exact hj (at'+1) hat hs.symm _ wk
    ·rw[Bool.or_eq_true,beq_iff_eq,beq_iff_eq]at hb
     rcases hb with hb|hb
     ·exact .inl (byte_of (by decide) hb)
     ·exact .inr (byte_of (by decide) hb)
   ·rw[if_neg ?_]at hs
    ·repeat(first|refine wDB ?_|refine awp_seq_k fun K hK=>?_|refine wN fun bx=>?_|(refine wH ?_;clear hK))
     exact hj at' hle hs.symm _ wk
    ·rw[Bool.or_eq_false_iff,beq_eq_false_iff_ne,beq_eq_false_iff_ne]at hb
     rintro(e|e)
     ·exact hb.1 (show(((s.getD at' default).toNat:Nat):Int)=45 by rw[e];rfl)
     ·exact hb.2 (show(((s.getD at' default).toNat:Nat):Int)=43 by rw[e];rfl)
  clear hK
  have g1:=zSmall_c 1 (by decide) (by decide)
  ((repeat(first|refine wDB ?_|refine awp_seq_k fun K hK=>?_|refine wC g1 ?_|(refine wH ?_;clear hK)));refine wN fun b7=>?_;(repeat(first|refine wDB ?_|refine awp_seq_k fun K hK=>?_|refine wN fun bx=>?_|refine wC g1 ?_|(refine wH ?_;clear hK))))
  clear K
  rename_i K
  refine awp_boxSub [] (v':=.agg (zE ((1:Nat):Int))) (Sub.of_eq rfl) ?_
  refine(have hj:∀n a2:Nat,a2≤s.length→(n,s.drop a2)=numR (s.drop a1)→∀T',Weak T' [(0,.str s),(4,sl termE 3 acc (.own ad cp)),(5,.int .i64 a2),(6,.bool ((((s.getD at' default).toNat:Nat):Int)==45)),(7,.ptr b7 0)]→K T' [.box b7 53 (.agg (zE (n:Int))),.tok ad cp acc.length 3 70]:=
   fun n a2 ha2 e2=>cutK (Wk:=[(0,.str s),(4,sl termE 3 acc (.own ad cp)),(5,.int .i64 a2),(6,.bool ((((s.getD at' default).toNat:Nat):Int)==45)),(7,.ptr b7 0)]) (H0:=[.box b7 53 (.agg (zE (n:Int))),.tok ad cp acc.length 3 70]) hK ?_;?_)
  rotate_left
  ·clear hK
   refine awp_cond rfl (fun hb=>?_) (fun hb=>?_)
   ·rw[Bool.and_eq_true,decide_eq_true_eq,bne_iff_ne]at hb
    have hlt:a1<s.length:=by omega
    have hx:s.getD a1 default≠120:=fun e=>hb.2 (show(((s.getD a1 default).toNat:Nat):Int)=120 by rw[e];rfl)
    have gN:=rnum_c s a1 ha1 hs
    have hnum:=numR_at hlt hx
    have hrl:=run_le ha1
    generalize hq:a1+(runAt s a1).length=q at*
    repeat(first|refine wDB ?_|refine awp_seq_k fun K hK=>?_|refine wN fun bx=>?_|refine wC gN ?_|(refine wH ?_;clear hK))
    refine awp_cond rfl (fun hc=>?_) (fun hc=>?_)
    ·rw[Bool.and_eq_true,decide_eq_true_eq,beq_iff_eq]at hc
     have hql:q<s.length:=by omega
     rw[starR_at hql,if_pos (show s.getD q default=42 from byte_of (by decide) hc.2)]at hnum
     repeat(first|refine wDB ?_|refine awp_seq_k fun K hK=>?_|refine wN fun bx=>?_|(refine wH ?_;clear hK))
     exact hj _ (q+1) hql hnum.symm _ wk
    ·have hq2:starR (s.drop q)=s.drop q:=by
      by_cases hql:q<s.length
      ·rw[starR_at hql,if_neg]
       intro e
       rw[Bool.and_eq_false_imp]at hc
       have:=hc (decide_eq_true (by omega))
       rw[beq_eq_false_iff_ne]at this
       exact this (show(((s.getD q default).toNat:Nat):Int)=42 by rw[e];rfl)
      ·exact starR_end hql
     rw[hq2]at hnum
     repeat(first|refine wDB ?_|refine awp_seq_k fun K hK=>?_|refine wN fun bx=>?_|(refine wH ?_;clear hK))
     exact hj _ q hrl hnum.symm _ wk
   ·have hnum:=numR_no (s:=s) (a:=a1) (by
     rintro⟨h1,h2⟩
     rw[Bool.and_eq_false_imp]at hb
     have:=hb (decide_eq_true (by omega))
     rw[bne_eq_false_iff_eq]at this
     exact h2 (byte_of (by decide) this))
    repeat(first|refine wDB ?_|refine awp_seq_k fun K hK=>?_|refine wN fun bx=>?_|(refine wH ?_;clear hK))
    exact hj 1 a1 ha1 hnum.symm _ wk
  clear hK
  have hls:(sgnR (s.drop at')).length≤899:=by rw[←e1,List.length_drop];omega
  have hzn:ZOk 100 (n:Int):=by
   have:=numR_b32 hls
   rw[←e1,←e2]at this
   exact ZOk.nat this
  repeat(first|refine wDB ?_|refine awp_seq_k fun K hK=>?_|refine wN fun bx=>?_|(refine wH ?_;clear hK))
  refine awp_tok0 2 103 ?_
  refine(have hj:∀(m:List Pw) (a3:Nat) (ad2:Option Addr) (cp2:Nat),a3≤s.length→m.length≤s.length→powsR (s.drop a2).length [] (s.drop a2)=(m,s.drop a3)→∀T',Weak T' [(0,.str s),(4,sl termE 3 acc (.own ad cp)),(5,.int .i64 a3),(6,.bool ((((s.getD at' default).toNat:Nat):Int)==45)),(7,.ptr b7 0),(8,sl encP 2 m (.own ad2 cp2))]→K T' [.tok ad2 cp2 m.length 2 103,.box b7 53 (.agg (zE (n:Int))),.tok ad cp acc.length 3 70]:=
   fun m a3 ad2 cp2 ha3 hml e3=>cutK (Wk:=[(0,.str s),(4,sl termE 3 acc (.own ad cp)),(5,.int .i64 a3),(6,.bool ((((s.getD at' default).toNat:Nat):Int)==45)),(7,.ptr b7 0),(8,sl encP 2 m (.own ad2 cp2))]) (H0:=[.tok ad2 cp2 m.length 2 103,.box b7 53 (.agg (zE (n:Int))),.tok ad cp acc.length 3 70]) hK ?_;?_)
  rotate_left
  ·clear hK
   refine awp_loopP (ι:={y:List Pw×Nat×Option Addr×Nat//y.2.1≤s.length∧y.1.length≤y.2.1∧powsR (s.drop a2).length [] (s.drop a2)=powsR (s.drop y.2.1).length y.1 (s.drop y.2.1)})
    (fun y=>[(0,.str s),(4,sl termE 3 acc (.own ad cp)),(5,.int .i64 y.1.2.1),(6,.bool ((((s.getD at' default).toNat:Nat):Int)==45)),(7,.ptr b7 0),(8,sl encP 2 y.1.1 (.own y.1.2.2.1 y.1.2.2.2))])
    (fun y=>[.tok y.1.2.2.1 y.1.2.2.2 y.1.1.length 2 103,.box b7 53 (.agg (zE (n:Int))),.tok ad cp acc.length 3 70]) (fun y=>s.length-y.1.2.1)
    ⟨([],a2,none,0),ha2,Nat.zero_le _,rfl⟩ wk qpm ?_
   rintro⟨⟨m,a,ad2,cp2⟩,hal2,hml,hpw⟩
   simp only at hal2 hml hpw ⊢
   repeat(first|refine wDB ?_|refine awp_seq_k fun K hK=>?_|refine wN fun bx=>?_|(refine wH ?_;clear hK))
   refine awp_cond rfl (fun hb=>?_) (fun hb=>?_)
   rotate_left
   ·have hst:=powsR_stop (s:=s) (a:=a) (n:=(s.drop a).length) (m:=m) fun h e=>by
     rw[Bool.and_eq_false_imp]at hb
     have:=hb (decide_eq_true (by omega))
     rw[beq_eq_false_iff_ne]at this
     exact this (show(((s.getD a default).toNat:Nat):Int)=120 by rw[e];rfl)
    repeat(first|refine wDB ?_|refine awp_seq_k fun K hK=>?_|refine wN fun bx=>?_|(refine wH ?_;clear hK))
    exact hj m a ad2 cp2 hal2 (by omega) (hpw.trans hst) _ wk
   rw[Bool.and_eq_true,decide_eq_true_eq,beq_iff_eq]at hb
   have hlt:a<s.length:=by omega
   have hx:s.getD a default=120:=byte_of (by decide) hb.2
   clear hj
   have gS:=rshort_c s (a+1) hlt hs
   have hrl:=run_le (s:=s) (a:=a+1) hlt
   generalize hq:a+1+(runAt s (a+1)).length=q at*
   ((repeat(first|refine wDB ?_|refine awp_seq_k fun K hK=>?_|refine wC gS ?_|(refine wH ?_;clear hK)));refine wN fun b9=>?_;(repeat(first|refine wDB ?_|refine awp_seq_k fun K hK=>?_|refine wN fun bx=>?_|refine wC gS ?_|(refine wH ?_;clear hK))))
   clear K
   rename_i K
   generalize hv:shortF (runAt s (a+1))=v at*
   refine awp_boxSub [] (v':=.agg [.int .i64 v,.int .i64 1]) (Sub.of_eq rfl) ?_
   refine(have hj:∀(e:Int) (a4:Nat),a<a4→a4≤s.length→powR (s.drop a)=((v,e),starR (s.drop a4))→∀T',Weak T' [(0,.str s),(4,sl termE 3 acc (.own ad cp)),(5,.int .i64 a4),(6,.bool ((((s.getD at' default).toNat:Nat):Int)==45)),(7,.ptr b7 0),(8,sl encP 2 m (.own ad2 cp2)),(9,.ptr b9 0)]→K T' [.box b9 103 (.agg [.int .i64 v,.int .i64 e]),.tok ad2 cp2 m.length 2 103,.box b7 53 (.agg (zE (n:Int))),.tok ad cp acc.length 3 70]:=
    fun e a4 hlt4 ha4 e4=>cutK (Wk:=[(0,.str s),(4,sl termE 3 acc (.own ad cp)),(5,.int .i64 a4),(6,.bool ((((s.getD at' default).toNat:Nat):Int)==45)),(7,.ptr b7 0),(8,sl encP 2 m (.own ad2 cp2)),(9,.ptr b9 0)]) (H0:=[.box b9 103 (.agg [.int .i64 v,.int .i64 e]),.tok ad2 cp2 m.length 2 103,.box b7 53 (.agg (zE (n:Int))),.tok ad cp acc.length 3 70]) hK ?_;?_)
   rotate_left
   ·clear hK
    refine awp_cond rfl (fun hc=>?_) (fun hc=>?_)
    ·rw[Bool.and_eq_true,decide_eq_true_eq,beq_iff_eq]at hc
     have hql:q<s.length:=by omega
     have hp:=powR_yes (s:=s) (a:=a) hq.symm hql (byte_of (by decide) hc.2)
     have gS2:=rshort_c s (q+1) hql hs
     have hrl2:=run_le (s:=s) (a:=q+1) hql
     rw[hv]at hp
     repeat(first|refine wDB ?_|refine awp_seq_k fun K hK=>?_|refine wN fun bx=>?_|refine wC gS2 ?_|(refine wH ?_;clear hK))
     exact hj _ (q+1+(runAt s (q+1)).length) (by omega) hrl2 hp _ wk
    ·have hp:=powR_no (s:=s) (a:=a) (by
      rw[hq]
      intro h e
      rw[Bool.and_eq_false_imp]at hc
      have:=hc (decide_eq_true (by omega))
      rw[beq_eq_false_iff_ne]at this
      exact this (show(((s.getD q default).toNat:Nat):Int)=94 by rw[e];rfl))
     rw[hv,hq]at hp
     repeat(first|refine wDB ?_|refine awp_seq_k fun K hK=>?_|refine wN fun bx=>?_|(refine wH ?_;clear hK))
     exact hj 1 q (by omega) hrl hp _ wk
   clear hK
   repeat(first|refine wDB ?_|refine awp_seq_k fun K hK=>?_|refine wN fun bx=>?_|(refine wH ?_;clear hK))
   refine qapp tyok encP m (v,e) (SubL.refl _) ?_ fun ad3 cp3=>?_
   ·simp only
    omega
   repeat(first|refine wDB ?_|refine awp_seq_k fun K hK=>?_|refine wN fun bx=>?_|(refine wH ?_;clear hK))
   refine awp_cond rfl (fun hc=>?_) (fun hc=>?_)
   ·rw[Bool.and_eq_true,decide_eq_true_eq,beq_iff_eq]at hc
    have hql:a4<s.length:=by omega
    rw[starR_at hql,if_pos (show s.getD a4 default=42 from byte_of (by decide) hc.2)]at e4
    obtain⟨k1,-⟩:=powsR_go (m:=m) hlt hx e4
    repeat(first|refine wDB ?_|refine awp_seq_k fun K hK=>?_|refine wN fun bx=>?_|(refine wH ?_;clear hK))
    exact⟨⟨(m++[(v,e)],a4+1,ad3,cp3),hql,by simp only[List.length_append,List.length_singleton];omega,hpw.trans k1⟩,wk,qpm,by simp only;omega⟩
   ·have hq2:starR (s.drop a4)=s.drop a4:=by
     by_cases hql:a4<s.length
     ·rw[starR_at hql,if_neg]
      intro e
      rw[Bool.and_eq_false_imp]at hc
      have:=hc (decide_eq_true (by omega))
      rw[beq_eq_false_iff_ne]at this
      exact this (show(((s.getD a4 default).toNat:Nat):Int)=42 by rw[e];rfl)
     ·exact starR_end hql
    rw[hq2]at e4
    obtain⟨k1,-⟩:=powsR_go (m:=m) hlt hx e4
    repeat(first|refine wDB ?_|refine awp_seq_k fun K hK=>?_|refine wN fun bx=>?_|(refine wH ?_;clear hK))
    exact⟨⟨(m++[(v,e)],a4,ad3,cp3),ha4,by simp only[List.length_append,List.length_singleton];omega,hpw.trans k1⟩,wk,qpm,by simp only;omega⟩
  clear hK
  have hT:=termR_at e1 e2 e3
  have hmin:=minR_at (n:=n) hat
  repeat(first|refine wDB ?_|refine awp_seq_k fun K hK=>?_|refine wN fun bx=>?_|(refine wH ?_;clear hK))
  refine awp_cond rfl (fun hc=>?_) (fun hc=>?_)
  ·simp only[Bool.and_eq_true,decide_eq_true_eq,bne_iff_ne]at hc
   have hal3:a3<s.length:=by omega
   rw[if_pos ⟨drop_ne hal3,by
    rw[head_at hal3]
    exact fun e=>hc.1.2 (show(((s.getD a3 default).toNat:Nat):Int)=45 by rw[Option.some.inj e];rfl),by
    rw[head_at hal3]
    exact fun e=>hc.2 (show(((s.getD a3 default).toNat:Nat):Int)=43 by rw[Option.some.inj e];rfl)⟩]at hT
   rw[hI.none hat hT]at hpW
   rw[hpW]
   repeat(first|refine wDB ?_|refine awp_seq_k fun K hK=>?_|refine wN fun bx=>?_|(refine wH ?_;clear hK))
   refine r2 ?_ ?_
   ·exact Sub.nilsv _ _
   ·exact Sub.refl _
  ·rw[if_neg ?_]at hT
   rotate_left
   ·rintro⟨h0,h1,h2⟩
    by_cases hal3:a3<s.length
    ·rw[head_at hal3]at h1 h2
     simp only[Bool.and_eq_false_imp,Bool.and_eq_true,decide_eq_true_eq,bne_iff_ne,bne_eq_false_iff_eq]at hc
     have:=hc ⟨by omega,fun e=>h1 (congrArg some (byte_of (by decide) e))⟩
     exact h2 (congrArg some (byte_of (by decide) this))
    ·exact h0 (head_end hal3)
   obtain⟨hlt3,hI3⟩:=hI.step hs hat ha3 hT
   have hacc:acc.length≤899:=by omega
   repeat(first|refine wDB ?_|refine awp_seq_k fun K hK=>?_|refine wN fun bx=>?_|(refine wH ?_;clear hK))
   refine awp_cond rfl (fun hd=>?_) (fun hd=>?_)
   ·rw[beq_iff_eq]at hd
    rw[if_pos (show s.getD at' default=45 from byte_of (by decide) hd)]at hmin
    rw[hmin]at hI3
    have gN:=zNeg_c (n:Int)
    have gI:=zInt_c 100 (-(n:Int)) (by decide) hzn.neg
    repeat(first|refine wDB ?_|refine awp_seq_k fun K hK=>?_|refine wN fun bx=>?_|refine wC gN ?_|refine wC gI ?_|(refine wH ?_;clear hK))
    refine qapp tyok termE acc ⟨intC (-(n:Int)),m⟩ (.cons (Sub.refl _) (.cons (Sub.refl _) (.cons (Sub.view _ _ _ _) .nil))) ?_ fun ad3 cp3=>?_
    ·simp only
     omega
    repeat(first|refine wDB ?_|refine awp_seq_k fun K hK=>?_|refine wN fun bx=>?_|(refine wH ?_;clear hK))
    exact⟨⟨(acc++[⟨intC (-(n:Int)),m⟩],a3,ad3,cp3),hI3⟩,wk,qpm,by simp only;omega⟩
   ·rw[beq_eq_false_iff_ne]at hd
    rw[if_neg fun e=>hd (show(((s.getD at' default).toNat:Nat):Int)=45 by rw[e];rfl)]at hmin
    rw[hmin]at hI3
    have gI:=zInt_c 100 (n:Int) (by decide) hzn
    repeat(first|refine wDB ?_|refine awp_seq_k fun K hK=>?_|refine wN fun bx=>?_|refine wC gI ?_|(refine wH ?_;clear hK))
    refine qapp tyok termE acc ⟨intC (n:Int),m⟩ (.cons (Sub.refl _) (.cons (Sub.refl _) (.cons (Sub.view _ _ _ _) .nil))) ?_ fun ad3 cp3=>?_
    ·simp only
     omega
    repeat(first|refine wDB ?_|refine awp_seq_k fun K hK=>?_|refine wN fun bx=>?_|(refine wH ?_;clear hK))
    exact⟨⟨(acc++[⟨intC (n:Int),m⟩],a3,ad3,cp3),hI3⟩,wk,qpm,by simp only;omega⟩
 clear hK
 have hok:PolyOk 100 acc:=⟨Nat.le_trans hx.len (by decide),fun t ht=>⟨(hb t ht).c,Nat.le_trans (hb t ht).m (by decide)⟩⟩
 have gMay:=(rpmay_c acc (hok.mono (by decide))).sub (vs:=[sl termE 3 acc (.own ad cp)]) (.cons (Sub.view _ _ _ _) .nil)
 cases hm:mayP acc with
 |false=>
  rw[hm]at gMay
  rw[if_neg (by rw[hm];exact fun e=>Bool.noConfusion e.1)]at hres
  rw[hres]
  repeat(first|refine wDB ?_|refine awp_seq_k fun K hK=>?_|refine wN fun bx=>?_|refine wC gMay ?_|(refine wH ?_;clear hK))
  refine r2 ?_ ?_
  ·exact Sub.nilsv _ _
  ·exact Sub.refl _
 |true=>
  rw[hm]at gMay hres
  have hc:=canon_of hm
  have gO:=(rpof_c acc 100 (by decide) hok fun t ht=>hc.may (zT t) (List.mem_map_of_mem ht)).sub (vs:=[sl termE 3 acc (.own ad cp)]) (.cons (Sub.view _ _ _ _) .nil)
  rw[colZ_self hc]at gO
  have gX:=rtext_c acc hx hm
  by_cases he:textP acc=s
  ·rw[if_pos ⟨rfl,he⟩]at hres
   rw[hres]
   rw[he]at gX
   repeat(first|refine wDE ?_|refine awp_seq_k fun K hK=>?_|refine wN fun bx=>?_|refine wC gMay ?_|refine wC gO ?_|refine wC gX ?_|(refine wH ?_;clear hK))
   refine r2 ?_ ?_
   ·exact Sub.view _ _ _ _
   ·exact Sub.refl _
  ·rw[if_neg fun e=>he e.2]at hres
   rw[hres]
   have hb2:(textP acc !=s)=true:=bne_iff_ne.2 he
   repeat(first|refine wDB ?_|refine awp_seq_k fun K hK=>?_|refine wN fun bx=>?_|refine wC gMay ?_|refine wC gO ?_|refine wC gX ?_|(refine wH ?_;clear hK))
   refine r2 ?_ ?_
   ·exact Sub.nilsv _ _
   ·exact Sub.refl _
end Go.Proofs.YtamgilppehibeaaGreatDoor
namespace Go.Proofs.YtamgilppehibeaaGreatDoor
open Go.Ab Go.Lib
theorem jn_len2 {B:Nat} (c:UInt8):∀(r:List (List UInt8)) (x:List UInt8),(∀y∈r,y.length≤B)→(Lib.join (x::r) [c]).length≤x.length+r.length*(B+1)
 |[],x,_=>by rw[Lib.join_one];simp
 |y::r,x,h=>by
  have h1:=h y (List.mem_cons_self ..)
  have h2:=jn_len2 c r y fun z hz=>h z (List.mem_cons_of_mem _ hz)
  rw[jn_two,List.length_append,List.length_cons,List.length_cons,Nat.succ_mul]
  omega
theorem trm_short {v:Nat} {m:List Pw} (hv:v<10^200) (hm:may m=true):(trmT v m).length≤200+m.length*13:=by
 have hp:∀(l:List Pw),(∀w∈l,w∈m)→∀y∈l.map powT,y.length≤12:=fun l hl y hy=>by
  obtain⟨w,hw,rfl⟩:=List.mem_map.1 hy
  have:=may_pos hm (hl w hw)
  exact powT_len ⟨this.1,this.2.1⟩ ⟨this.2.2.1,this.2.2.2⟩
 unfold trmT partsT
 split
 ·rename_i h
  cases m with
  |nil=>exact absurd rfl h.2
  |cons w m=>
   have h1:=hp [w] (fun x hx=>by rw[List.mem_singleton.1 hx];exact List.mem_cons_self ..) (powT w) (List.mem_cons_self ..)
   have h2:=jn_len2 42 (m.map powT) (powT w) (hp m fun x hx=>List.mem_cons_of_mem _ hx)
   rw[List.nil_append,List.map_cons]
   rw[List.length_map]at h2
   rw[List.length_cons]
   omega
 ·have h1:=dec_len (by decide) hv
  have h2:=jn_len2 42 (m.map powT) (decDigits v) (hp m fun _ hx=>hx)
  rw[List.singleton_append]
  rw[List.length_map]at h2
  omega
theorem textL_short:∀{p:List TermR} {fs:Bool},(∀t∈p,LimOk 20 t.c.mag∧t.m.length≤12)→(∀t∈p,may t.m=true)→(textL fs p).length≤p.length*357
 |[],_,_,_=>Nat.zero_le _
 |t::p,fs,h,hm=>by
  have h0:=h t (List.mem_cons_self ..)
  have hv:absT t<10^200:=b32_dec (Nat.lt_of_lt_of_le (val_lt h0.1.lt) (b32_le h0.1.len))
  have h1:=trm_short hv (hm t (List.mem_cons_self ..))
  have h2:=textL_short (p:=p) (fs:=false) (fun u hu=>h u (List.mem_cons_of_mem _ hu)) fun u hu=>hm u (List.mem_cons_of_mem _ hu)
  rw[textL,List.length_append,List.length_cons,Nat.succ_mul]
  unfold termT
  rw[List.length_append]
  have h3:(if t.c.neg=true then [45] else if fs=true then [] else [43]:List UInt8).length≤1:=by
   split
   ·decide
   ·split<;>decide
  omega
theorem textP_short {p:List TermR} (hl:p.length≤20) (h:∀t∈p,LimOk 20 t.c.mag∧t.m.length≤12) (hm:mayP p=true):(textP p).length≤7140:=by
 unfold textP
 rw[if_neg (by rw[hm];decide)]
 split
 ·decide
 ·have:=textL_short (fs:=true) h (mayP_m hm)
  omega
theorem great8_ok {p:List TermR} {most:Nat} (hr:RawP p) (h:greatP8 p most=false):p.length≤most∧∀t∈p,LimOk 20 t.c.mag∧t.m.length≤12:=by
 unfold greatP8 at h
 rw[Bool.or_eq_false_iff]at h
 refine⟨by have:=of_decide_eq_false h.2;omega,fun t ht=>?_⟩
 have h1:=List.any_eq_false.1 h.1 t ht
 unfold bigT8 at h1
 simp only[Bool.or_eq_true,decide_eq_true_eq,not_or]at h1
 exact⟨⟨(hr.at' t ht).lt,by omega⟩,by omega⟩
theorem texts_hT {p:List TermR} (h:TxB p) (hm:mayP p=true):∀q,termsF (textP p).length (textP p)=some q→TxB q∧∀t∈q,t.m.length≤400000:=fun q hq=>by
 cases p with
 |nil=>exact short_tx (by decide) q hq
 |cons t p=>
  have ht:textP (t::p)=textL true (t::p):=by
   unfold textP
   rw[if_neg (by rw[hm];decide),if_neg (List.cons_ne_nil _ _)]
  have hT:=terms_text (n:=(textP (t::p)).length) (fs:=true) (tx_cn h.c hm) (by rw[ht];exact Nat.le_refl _)
  rw[←ht,hq]at hT
  cases hT
  exact⟨h,fun u hu=>may_short (mayP_m hm u hu)⟩
theorem both_parse {s:List UInt8} (hs:s.length≤899):parseW s=parseV s:=by
 rcases parse_cases (s:=s) (by omega)with⟨p,e,hm,ht,hx,-⟩|e
 ·rw[e,←ht]
  exact parseW_text hx hm
 ·rcases parseW_cases hs with⟨p,e2,hm,ht,hx⟩|e2
  ·have:=parse_text hx hm (by rw[ht];omega)
   rw[ht,e]at this
   cases this
  ·rw[e,e2]
theorem parseV_ok {s:List UInt8} (hs:s.length≤899):PolyOk 1000000000 (parseV s).1:=by
 rcases parse_cases (s:=s) (by omega)with⟨p,e,-,-,-,ho⟩|e
 ·rw[e]
  exact ho.mono (by decide)
 ·rw[e]
  exact⟨by decide,fun t ht=>absurd ht List.not_mem_nil⟩
theorem cbTexts10:Callable Tryz.prog 3:=fun _ _=>by kernel_rfl
theorem valueTexts_c (p:List TermR) (s:List UInt8) (hr:RawP p):PCalls Tryz.prog 3 [polyV p,.str s] (.bool true):=by
 refine pcalls_of_awp tyok cbTexts10 Tryz.func3 rfl rfl ?_
 have gK:=known10_c
 have gG:=rpgreat_c p 20 hr.len
 cases hg:greatP8 p 20 with
 |true=>
  rw[hg]at gG
  repeat(first|refine wDB ?_|refine awp_seq_k fun K hK=>?_|refine wN fun bx=>?_|refine wC gG ?_|refine wC gK ?_|(refine wH ?_;clear hK))
  refine r1 ?_
  exact Sub.refl _
 |false=>
 rw[hg]at gG
 by_cases h4:(s.length:Int)>400
 ·repeat(first|refine wDB ?_|refine awp_seq_k fun K hK=>?_|refine wN fun bx=>?_|refine wC gG ?_|refine wC gK ?_|(refine wH ?_;clear hK))
  refine r1 ?_
  exact Sub.refl _
 have hsl:s.length≤400:=by omega
 obtain⟨hpl,hb⟩:=great8_ok (most:=20) hr hg
 have hpl:p.length≤20:=hpl
 have hx:TxB p:=⟨by omega,fun t ht=>(hb t ht).1.mono (by decide)⟩
 have ho:PolyOk 1000000 p:=hx.ok fun t ht=>by have:=(hb t ht).2;omega
 have gM:=rpmay_c p ho
 have gP:=vparse_c s (by omega) (short_tx (by omega))
 have gR:=rparse_c s (by omega)
 rw[both_parse (by omega)]at gR
 have hok:=parseV_ok (s:=s) (by omega)
 generalize parseV s=w at gP gR hok
 obtain⟨a,e⟩:=w
 simp only at gP gR hok
 have gS:=rpsame_c a a hok hok
 rw[(sameP8_iff a a).2 rfl]at gS
 cases hm:mayP p with
 |false=>
  rw[hm]at gM
  have gT:=vtext_no p ho hm
  repeat(first|refine wDB ?_|refine awp_seq_k fun K hK=>?_|refine wN fun bx=>?_|refine wC gG ?_|refine wC gT ?_|refine wC gM ?_|refine wC gP ?_|refine wC gR ?_|(refine wH ?_;clear hK))
  repeat(first|refine wDE ?_|refine awp_seq_k fun K hK=>?_|refine wN fun bx=>?_|refine wC gS ?_|refine wC gK ?_|(refine wH ?_;clear hK))
  refine r1 ?_
  exact Sub.refl _
 |true=>
 rw[hm]at gM
 have gT:=vtext_c p hx hm
 have hsh:=textP_short hpl hb hm
 have gV:=vparse_c (textP p) (by omega) (texts_hT hx hm)
 rw[parse_text hx hm (by omega)]at gV
 have hc:=canon_of hm
 have gO:=rpof_c p 20 (by decide) ⟨by omega,fun t ht=>⟨(hb t ht).1,by have:=(hb t ht).2;omega⟩⟩ fun t ht=>hc.may (zT t) (List.mem_map_of_mem ht)
 rw[colZ_self hc]at gO
 have gX:=rtext_c p hx hm
 have gQ:=rpsame_c p p (ho.mono (by decide)) (ho.mono (by decide))
 rw[(sameP8_iff p p).2 rfl]at gQ
 repeat(first|refine wDB ?_|refine awp_seq_k fun K hK=>?_|refine wN fun bx=>?_|refine wC gG ?_|refine wC gT ?_|refine wC gM ?_|refine wC gV ?_|(refine wH ?_;clear hK))
 repeat(first|refine wDE ?_|refine awp_seq_k fun K hK=>?_|refine wN fun bx=>?_|refine wC gO ?_|refine wC gX ?_|refine wC gQ ?_|refine wC gP ?_|refine wC gR ?_|refine wC gS ?_|refine wC gK ?_|(refine wH ?_;clear hK))
 refine r1 ?_
 exact Sub.refl _
end Go.Proofs.YtamgilppehibeaaGreatDoor
