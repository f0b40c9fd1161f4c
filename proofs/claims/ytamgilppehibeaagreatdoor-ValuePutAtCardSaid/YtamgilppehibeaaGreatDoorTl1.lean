/-
  Package value: told, Text.
-/
import Derived.Test.YtamgilppehibeaaGreatDoorTxM
import Derived.Test.YtamgilppehibeaaGreatDoorDtM
import Derived.Test.YtamgilppehibeaaGreatDoorBeM
import Derived.Test.YtamgilppehibeaaGreatDoorCaM
import Derived.Test.YtamgilppehibeaaGreatDoorPcM
set_option maxRecDepth 100000
set_option maxHeartbeats 6400000
namespace Go.Proofs.YtamgilppehibeaaGreatDoor
open Go.Ab Go.Lib
theorem dec_len {n k:Nat} (hk:1≤k) (h:n<10^k):(decDigits n).length≤k:=by
 by_cases h0:n=0
 ·rw[h0,dec_zero]
  exact hk
 ·rw[dec_digs n h0,List.length_map,List.length_reverse]
  exact(digs_len ten_two).2 h
theorem jn_len {B:Nat} (c:UInt8):∀(xs:List (List UInt8)),(∀x∈xs,x.length≤B)→(Lib.join xs [c]).length≤xs.length*(B+1)
 |[],_=>by rw[Lib.join_nil];exact Nat.zero_le _
 |[x],h=>by
  rw[Lib.join_one]
  have:=h x (List.mem_cons_self ..)
  simp only[List.length_cons,List.length_nil]
  omega
 |x::y::r,h=>by
  have h1:=h x (List.mem_cons_self ..)
  have h2:=jn_len c (y::r) fun z hz=>h z (List.mem_cons_of_mem _ hz)
  rw[jn_two,List.length_append,List.length_cons,List.length_cons,Nat.succ_mul]
  omega
theorem powT_len {w:Pw} (h1:1≤w.1∧w.1≤200) (h2:1≤w.2∧w.2≤10000):(powT w).length≤12:=by
 have a:=dec_len (n:=w.1.toNat) (k:=5) (by decide) (by omega)
 have b:=dec_len (n:=w.2.toNat) (k:=5) (by decide) (by omega)
 unfold powT
 rw[List.length_cons,List.length_append,itoa_pos (by omega),itoa_pos (by omega)]
 split
 ·simp only[List.length_nil]
  omega
 ·rw[List.length_cons]
  omega
theorem may_len200 {m:List Pw} (h:may m=true):m.length≤200:=by
 have:=may_len m 0 (by decide) h
 omega
theorem partsT_len {v k:Nat} {m:List Pw} (hv:v<10^k) (hk:12≤k) (hm:may m=true):(∀x∈partsT v m,x.length≤k)∧(partsT v m).length≤201:=by
 refine⟨fun x hx=>?_,?_⟩
 ·rcases partsT_mem hx with rfl|⟨w,hw,rfl⟩
  ·exact dec_len (by omega) hv
  ·have:=may_pos hm hw
   exact Nat.le_trans (powT_len ⟨this.1,this.2.1⟩ ⟨this.2.2.1,this.2.2.2⟩) hk
 ·have:=may_len200 hm
  unfold partsT
  rw[List.length_append,List.length_map]
  split
  ·simp only[List.length_nil]
   omega
  ·simp only[List.length_cons,List.length_nil]
   omega
theorem trmT_len {v k:Nat} {m:List Pw} (hv:v<10^k) (hk:12≤k) (hm:may m=true):(trmT v m).length≤201*(k+1):=by
 obtain⟨h1,h2⟩:=partsT_len hv hk hm
 exact Nat.le_trans (jn_len 42 _ h1) (Nat.mul_le_mul_right _ h2)
theorem cbTold:Callable Tryz.prog 42:=fun _ _=>by kernel_rfl
theorem told_c (t:TermR) (h:LimOk 100 t.c.mag) (hm:may t.m=true):PCalls Tryz.prog 42 [.agg (termE t)] (.str (trmT (absT t) t.m)):=by
 refine pcalls_of_awp tyok cbTold Tryz.func42 rfl rfl ?_
 obtain⟨⟨neg,mag⟩,m⟩:=t
 simp only at h hm ⊢
 have gD:=dtext_c ⟨false,mag⟩ (h.mono (by decide))
 rw[show textI false (valB B32 mag)=decDigits (valB B32 mag) from if_neg fun e=>Bool.noConfusion e.2]at gD
 obtain⟨KN,hKN,hvk⟩:=dec_bound h
 have hml:=may_len200 hm
 show AWP _ _ _ _ _ (fnQ ty _ (fun r H'=>r=.ret (.str (trmT (valB B32 mag) m))∧H'=[]))
 have hpl:=partsT_len (k:=12+KN) (Nat.lt_of_lt_of_le hvk (Nat.pow_le_pow_right (by decide) (by omega))) (by omega) hm
 have htl:=trmT_len (k:=12+KN) (Nat.lt_of_lt_of_le hvk (Nat.pow_le_pow_right (by decide) (by omega))) (by omega) hm
 generalize valB B32 mag=v at*
 ((repeat(first|refine wDB ?_|refine awp_seq_k fun K hK=>?_|refine wC gD ?_|(refine wH ?_;clear hK)));refine wN fun b1=>?_;(repeat(first|refine wDB ?_|refine awp_seq_k fun K hK=>?_|refine wC gD ?_|(refine wH ?_;clear hK)));refine wN fun b3=>?_;(repeat(first|refine wDB ?_|refine awp_seq_k fun K hK=>?_|refine wN fun bx=>?_|refine wC gD ?_|(refine wH ?_;clear hK))))
 refine awp_dropF (G:=[_]) ?_
 refine awp_tok0 1 9 ?_
 generalize hps:(if decDigits v=[49]∧m≠[] then [] else [decDigits v])=ps
 have hpt:partsT v m=ps++m.map powT:=by rw[←hps];rfl
 refine(have hr:=fun(a:Option Addr) (c:Nat)=>cutK (Wk:=[(1,.ptr b1 0),(4,sl strE 1 ps (.own a c))]) (H0:=[.tok a c ps.length 1 9,.box b1 70 (.agg (termE ⟨⟨neg,mag⟩,m⟩))]) hK ?_;?_)
 rotate_left
 ·clear hK
  refine awp_cond rfl (fun hb=>?_) (fun hb=>?_)
  ·have hne:¬(decDigits v=[49]∧m≠[]):=fun e=>by
    simp[e.1,e.2]at hb
   rw[if_neg hne]at hps
   refine awp_weak (T':=[(1,.ptr b1 0),(4,sl strE 1 [] (.own none 0)),(5,.str (decDigits v))]) wk ?_
   repeat(first|refine wDB ?_|refine awp_seq_k fun K hK=>?_|refine wN fun bx=>?_|(refine wH ?_;clear hK))
   refine qapp tyok strE [] (decDigits v) (SubL.refl _) ?_ fun ad cp=>?_
   ·have e0:([]:List (List UInt8)).length=0:=rfl
    simp only
    omega
   repeat(first|refine wDB ?_|refine awp_seq_k fun K hK=>?_|refine wN fun bx=>?_|(refine wH ?_;clear hK))
   subst hps
   exact hr ad cp _ wk
  ·have hyes:decDigits v=[49]∧m≠[]:=by
    simp at hb
    exact⟨hb.1,fun e=>by simp[e]at hb⟩
   rw[if_pos hyes]at hps
   subst hps
   refine awp_weak (T':=[(1,.ptr b1 0),(4,sl strE 1 [] (.own none 0)),(5,.str (decDigits v))]) wk ?_
   repeat(first|refine wDB ?_|refine awp_seq_k fun K hK=>?_|refine wN fun bx=>?_|(refine wH ?_;clear hK))
   exact hr none 0 _ wk
 rw[show ps=ps++(m.take 0).map powT from (List.append_nil _).symm]
 clear hK hps
 repeat(first|refine wDB ?_|refine awp_seq_k fun K hK=>?_|refine wN fun bx=>?_|(refine wH ?_;clear hK))
 refine awp_loopP (ι:={y:Nat×Option Addr×Nat//y.1≤m.length}) (fun y=>[(4,sl strE 1 (ps++(m.take y.1.1).map powT) (.own y.1.2.1 y.1.2.2)),(27,mono m),(28,.int .i64 m.length),(29,.int .i64 y.1.1)])
  (fun y=>[.tok y.1.2.1 y.1.2.2 (ps++(m.take y.1.1).map powT).length 1 9]) (fun y=>m.length-y.1.1) ⟨(0,a,c),Nat.zero_le _⟩ wk qpm ?_
 rintro⟨⟨i,ad,cp⟩,hi⟩
 simp only at hi ⊢
 by_cases hlt:i<m.length
 rotate_left
 ·have hge:¬(i:Int)<m.length:=by omega
  obtain rfl:i=m.length:=by omega
  rw[List.take_length,←hpt]
  have gJ:=join_c (partsT v m) [42] (.own ad cp) (by omega) (Nat.le_trans htl (by omega))
  repeat(first|refine wDB ?_|refine awp_seq_k fun K hK=>?_|refine wN fun bx=>?_|refine wC gJ ?_|(refine wH ?_;clear hK))
  refine r1 ?_
  exact Sub.refl _
 have hlt':(i:Int)<m.length:=by omega
 have hw:m.getD i default∈m:=getD_mem hlt
 have hwp:=may_pos hm hw
 have hst:(m.take (i+1)).map powT=(m.take i).map powT++[powT (m.getD i default)]:=by
  rw[List.take_add_one,List.map_append,List.getD_eq_getElem?_getD,List.getElem?_eq_getElem hlt]
  rfl
 have g1:=itoa_c (m.getD i default).1 (by omega) (by omega)
 have g2:=itoa_c (m.getD i default).2 (by omega) (by omega)
 have hpw:(ps++(m.take i).map powT).length≤500:=by
  rw[List.length_append,List.length_map,List.length_take]
  have:=hpl.2
  rw[hpt,List.length_append]at this
  omega
 have l1:(itoa (m.getD i default).1).length≤5:=by
  rw[itoa_pos (by omega)]
  exact dec_len (by decide) (by omega)
 have l2:(itoa (m.getD i default).2).length≤5:=by
  rw[itoa_pos (by omega)]
  exact dec_len (by decide) (by omega)
 have hpo1:(m.getD i default).2=1→powT (m.getD i default)=[120]++itoa (m.getD i default).1:=fun he=>by
  unfold powT
  rw[if_pos he,List.append_nil]
  rfl
 have hpo2:¬(m.getD i default).2=1→powT (m.getD i default)=([120]++itoa (m.getD i default).1)++([94]++itoa (m.getD i default).2):=fun he=>by
  unfold powT
  rw[if_neg he]
  rfl
 generalize itoa (m.getD i default).1=s1 at*
 generalize itoa (m.getD i default).2=s2 at*
 by_cases he:(m.getD i default).2=1
 ·have hpo:=hpo1 he
  have he':(m.getD ((i:Int)).toNat default).2=1:=he
  ((repeat(first|refine wDB ?_|refine awp_seq_k fun K hK=>?_|refine wC g1 ?_|(refine wH ?_;clear hK)));refine wN fun b7=>?_;(repeat(first|refine wDB ?_|refine awp_seq_k fun K hK=>?_|refine wN fun bx=>?_|refine wC g1 ?_|(refine wH ?_;clear hK))))
  refine qapp tyok strE _ (powT (m.getD i default)) ?_ ?_ fun ad2 cp2=>?_
  ·rw[hpo]
   exact SubL.refl _
  ·simp only
   omega
  repeat(first|refine wDB ?_|refine awp_seq_k fun K hK=>?_|refine wN fun bx=>?_|(refine wH ?_;clear hK))
  refine⟨⟨(i+1,ad2,cp2),hlt⟩,?_,?_,by simp only;omega⟩
  ·rw[hst,←List.append_assoc]
   exact wk
  ·rw[hst,←List.append_assoc]
   exact qpm
 ·have hpo:=hpo2 he
  have he':¬(m.getD ((i:Int)).toNat default).2=1:=he
  ((repeat(first|refine wDB ?_|refine awp_seq_k fun K hK=>?_|refine wC g1 ?_|refine wC g2 ?_|(refine wH ?_;clear hK)));refine wN fun b7=>?_;(repeat(first|refine wDB ?_|refine awp_seq_k fun K hK=>?_|refine wN fun bx=>?_|refine wC g1 ?_|refine wC g2 ?_|(refine wH ?_;clear hK))))
  refine qapp tyok strE _ (powT (m.getD i default)) ?_ ?_ fun ad2 cp2=>?_
  ·rw[hpo]
   exact SubL.refl _
  ·simp only
   omega
  repeat(first|refine wDB ?_|refine awp_seq_k fun K hK=>?_|refine wN fun bx=>?_|(refine wH ?_;clear hK))
  refine⟨⟨(i+1,ad2,cp2),hlt⟩,?_,?_,by simp only;omega⟩
  ·rw[hst,←List.append_assoc]
   exact wk
  ·rw[hst,←List.append_assoc]
   exact qpm
theorem trmT_ne (v:Nat) (m:List Pw):trmT v m≠[]:=by
 obtain⟨c,r,e,-⟩:=trmT_head (v:=v) m
 rw[e]
 exact List.cons_ne_nil _ _
theorem textL_ne {p:List TermR} {fs:Bool} (h:p≠[]):textL fs p≠[]:=by
 cases p with
 |nil=>exact absurd rfl h
 |cons t p=>
  rw[textL]
  unfold termT
  exact fun e=>trmT_ne _ _ (List.append_eq_nil_iff.1 (List.append_eq_nil_iff.1 e).1).2
noncomputable def bldS (b:Nat) (o:Buf) (s:List UInt8):AHeap:=match o with
 |none=>bld0 b
 |some x=>bldH b x.1 x.2 s
def BldI (o:Buf) (s:List UInt8):Prop:=match o with
 |none=>s=[]
 |some x=>s.length≤x.2∧x.2≤maxLen
theorem wbyteS_c (b:Nat) (o:Buf) (s:List UInt8) (c:UInt8) (h:BldI o s) (hl:s.length≤1000000000):
  ACalls Tryz.prog 40 [.ptr b 0,.int .u8 (c.toNat:Nat)] (bldS b o s) (fun r H'=>r=.ret .nilIface∧∃q:Rm (s++[c]),H'=bldH b q.1.1 q.1.2 (s++[c])):=by
 match o,h with
 |none,h=>
  have h:s=[]:=h
  subst h
  exact wbyte0_c b c
 |some x,h=>exact wbyte_c b x.1 x.2 s c h.1 h.2 hl
theorem writeS_c (b:Nat) (o:Buf) (s t:List UInt8) (h:BldI o s) (h0:t≠[]) (hl:s.length+t.length≤1000000000):
  ACalls Tryz.prog 41 [.ptr b 0,.str t] (bldS b o s) (fun r H'=>r=.ret (.tuple [.int .i64 t.length,.nilIface])∧∃q:Rm (s++t),H'=bldH b q.1.1 q.1.2 (s++t)):=by
 match o,h with
 |none,h=>
  have h:s=[]:=h
  subst h
  exact write0_c b t h0 (by simpa using hl)
 |some x,h=>exact write_c b x.1 x.2 s t h0 h.1 h.2 hl
structure TxB (p:List TermR):Prop where
 len:p.length≤1000
 c:∀t∈p,LimOk 100 t.c.mag
theorem TxB.ok {p:List TermR} (h:TxB p) (hm:∀t∈p,t.m.length≤400000):PolyOk 1000000 p:=⟨Nat.le_trans h.len (by decide),fun t ht=>⟨LimOk.mono (h.c t ht) (by decide),hm t ht⟩⟩
theorem trmB {t:TermR} (h:LimOk 100 t.c.mag) (hm:may t.m=true):(trmT (absT t) t.m).length≤203613:=by
 obtain⟨K,hK,hv⟩:=dec_bound h
 exact Nat.le_trans (trmT_len (k:=12+K) (Nat.lt_of_lt_of_le hv (Nat.pow_le_pow_right (by decide) (by omega))) (by omega) hm) (by omega)
theorem textL_len:∀{p:List TermR} {fs:Bool},(∀t∈p,LimOk 100 t.c.mag)→(∀t∈p,may t.m=true)→(textL fs p).length≤p.length*203614
 |[],_,_,_=>Nat.zero_le _
 |t::p,fs,h,hm=>by
  have h1:=trmB (h t (List.mem_cons_self ..)) (hm t (List.mem_cons_self ..))
  have h2:=textL_len (p:=p) (fs:=false) (fun u hu=>h u (List.mem_cons_of_mem _ hu)) fun u hu=>hm u (List.mem_cons_of_mem _ hu)
  rw[textL,List.length_append,List.length_cons,Nat.succ_mul]
  unfold termT
  rw[List.length_append]
  have h3:(if t.c.neg=true then [45] else if fs=true then [] else [43]:List UInt8).length≤1:=by
   split
   ·decide
   ·split<;>decide
  omega
theorem cbVText:Callable Tryz.prog 10:=fun _ _=>by kernel_rfl
theorem vtext_c (p:List TermR) (hb:TxB p) (hm:mayP p=true):PCalls Tryz.prog 10 [polyV p] (.str (textP p)):=by
 refine pcalls_of_awp tyok cbVText Tryz.func10 rfl rfl ?_
 have hmm:=mayP_m hm
 have g1:=pmay_c p ((hb.ok fun t ht=>may_short (hmm t ht)).mono (by decide))
 rw[hm]at g1
 have hl:=hb.len
 unfold textP
 rw[if_neg (by rw[hm];decide)]
 by_cases h0:p=[]
 ·subst h0
  have e0:(([]:List TermR).length:Int)=0:=rfl
  repeat(first|refine wDB ?_|refine awp_seq_k fun K hK=>?_|refine wN fun bx=>?_|refine wC g1 ?_|(refine wH ?_;clear hK))
  refine r1 ?_
  exact Sub.refl _
 rw[if_neg h0]
 have hpos:=List.length_pos_iff.2 h0
 have e1:¬(p.length:Int)=0:=by omega
 have htl:∀i,(textL true (p.take i)).length≤203614000:=fun i=>by
  have h1:=textL_len (p:=p.take i) (fs:=true) (fun t ht=>hb.c t (List.mem_of_mem_take ht)) fun t ht=>hmm t (List.mem_of_mem_take ht)
  rw[List.length_take]at h1
  have:min i p.length*203614≤1000*203614:=Nat.mul_le_mul_right _ (by omega)
  omega
 ((repeat(first|refine wDB ?_|refine awp_seq_k fun K hK=>?_|refine wC g1 ?_|(refine wH ?_;clear hK)));refine wN fun b3=>?_;(repeat(first|refine wDB ?_|refine awp_seq_k fun K hK=>?_|refine wN fun bx=>?_|refine wC g1 ?_|(refine wH ?_;clear hK))))
 refine awp_loopP (ι:={y:Nat×Buf//y.1≤p.length∧BldI y.2 (textL true (p.take y.1))}) (fun y=>[(3,.ptr b3 0),(14,polyV p),(15,.int .i64 p.length),(16,.int .i64 y.1.1)])
  (fun y=>bldS b3 y.1.2 (textL true (p.take y.1.1))) (fun y=>p.length-y.1.1) ⟨(0,none),Nat.zero_le _,rfl⟩ wk ⟨[],List.Perm.refl _⟩ ?_
 rintro⟨⟨i,o⟩,hi,ho⟩
 simp only at hi ho ⊢
 by_cases hlt:i<p.length
 rotate_left
 ·have hge:¬(i:Int)<p.length:=by omega
  obtain rfl:i=p.length:=by omega
  have hti:=htl p.length
  rw[List.take_length]at ho hti ⊢
  have hne:=textL_ne (fs:=true) h0
  match o,ho with
  |none,ho=>exact absurd ho hne
  |some x,ho=>
   generalize textL true p=s at*
   unfold bldS
   have gS:=string_c b3 x.1 x.2 s hne ho.1 (by omega)
   unfold bldH at gS ⊢
   repeat(first|refine wDB ?_|refine awp_seq_k fun K hK=>?_|refine wN fun bx=>?_|(refine wH ?_;clear hK))
   refine qcallH (G:=[]) gS ?_
   repeat(first|refine wDB ?_|refine awp_seq_k fun K hK=>?_|refine wN fun bx=>?_|(refine wH ?_;clear hK))
   refine r1 ?_
   exact Sub.refl _
 have hlt':(i:Int)<p.length:=by omega
 have hst:=textL_take hlt
 have hti:=htl i
 have ht:p.getD i default∈p:=getD_mem hlt
 have gT:=told_c (p.getD i default) (hb.c _ ht) (hmm _ ht)
 have hne:=trmT_ne (absT (p.getD i default)) (p.getD i default).m
 have hbl:=trmB (hb.c _ ht) (hmm _ ht)
 have htt:termT (decide (i=0)) (p.getD i default)=(if(p.getD i default).c.neg then [45] else if decide (i=0) then [] else [43])++trmT (absT (p.getD i default)) (p.getD i default).m:=rfl
 rw[htt]at hst
 clear htt
 generalize trmT (absT (p.getD i default)) (p.getD i default).m=tt at*
 generalize textL true (p.take i)=s at*
 ((repeat(first|refine wDB ?_|refine awp_seq_k fun K hK=>?_|(refine wH ?_;clear hK)));refine wN fun b5=>?_;(repeat(first|refine wDB ?_|refine awp_seq_k fun K hK=>?_|refine wN fun bx=>?_|(refine wH ?_;clear hK))))
 refine awp_weak (T':=[(3,.ptr b3 0),(4,.int .i64 i),(5,.ptr b5 0),(14,polyV p),(15,.int .i64 p.length),(16,.int .i64 i),(21,.bool (p.getD i default).c.neg)]) wk ?_
 refine awp_boxSub [] (v':=.agg (termE (p.getD i default))) (Sub.of_eq rfl) ?_
 refine awp_cond rfl (fun hb=>?_) (fun hb=>?_)
 ·rw[if_pos hb,←List.append_assoc]at hst
  repeat(first|refine wDB ?_|refine awp_seq_k fun K hK=>?_|refine wN fun bx=>?_|(refine wH ?_;clear hK))
  refine qcallX (G:=[.box b5 70 (.agg (termE (p.getD i default)))]) (H2:=fun q=>.box b5 70 (.agg (termE (p.getD i default)))::bldH b3 q.1.1 q.1.2 (s++[45])) (wbyteS_c b3 o s 45 ho (by omega)) ?_
  rintro⟨⟨g1',c1⟩,hq1⟩
  simp only at hq1 ⊢
  repeat(first|refine wDB ?_|refine awp_seq_k fun K hK=>?_|refine wN fun bx=>?_|refine wC gT ?_|(refine wH ?_;clear hK))
  refine qcallX (G:=[.box b5 70 (.agg (termE (p.getD i default)))]) (H2:=fun q=>.box b5 70 (.agg (termE (p.getD i default)))::bldH b3 q.1.1 q.1.2 ((s++[45])++tt)) (writeS_c b3 (some (g1',c1)) (s++[45]) tt hq1 hne (by rw[List.length_append];simp only[List.length_singleton];omega)) ?_
  rintro⟨⟨g2,c2⟩,hq2⟩
  simp only at hq2 ⊢
  repeat(first|refine wDB ?_|refine awp_seq_k fun K hK=>?_|refine wN fun bx=>?_|(refine wH ?_;clear hK))
  refine⟨⟨(i+1,some (g2,c2)),hlt,?_⟩,wk,⟨[.box b5 70 (.agg (termE (p.getD i default)))],?_⟩,by simp only;omega⟩
  ·rw[hst]
   exact hq2
  ·simp only
   rw[hst]
   exact List.Perm.refl _
 rw[if_neg (by rw[hb];exact Bool.false_ne_true)]at hst
 by_cases hi0:(i:Int)>0
 ·rw[if_neg (by rw[decide_eq_false (by omega)];exact Bool.false_ne_true),←List.append_assoc]at hst
  repeat(first|refine wDB ?_|refine awp_seq_k fun K hK=>?_|refine wN fun bx=>?_|(refine wH ?_;clear hK))
  refine qcallX (G:=[.box b5 70 (.agg (termE (p.getD i default)))]) (H2:=fun q=>.box b5 70 (.agg (termE (p.getD i default)))::bldH b3 q.1.1 q.1.2 (s++[43])) (wbyteS_c b3 o s 43 ho (by omega)) ?_
  rintro⟨⟨g1',c1⟩,hq1⟩
  simp only at hq1 ⊢
  repeat(first|refine wDB ?_|refine awp_seq_k fun K hK=>?_|refine wN fun bx=>?_|refine wC gT ?_|(refine wH ?_;clear hK))
  refine qcallX (G:=[.box b5 70 (.agg (termE (p.getD i default)))]) (H2:=fun q=>.box b5 70 (.agg (termE (p.getD i default)))::bldH b3 q.1.1 q.1.2 ((s++[43])++tt)) (writeS_c b3 (some (g1',c1)) (s++[43]) tt hq1 hne (by rw[List.length_append];simp only[List.length_singleton];omega)) ?_
  rintro⟨⟨g2,c2⟩,hq2⟩
  simp only at hq2 ⊢
  repeat(first|refine wDB ?_|refine awp_seq_k fun K hK=>?_|refine wN fun bx=>?_|(refine wH ?_;clear hK))
  refine⟨⟨(i+1,some (g2,c2)),hlt,?_⟩,wk,⟨[.box b5 70 (.agg (termE (p.getD i default)))],?_⟩,by simp only;omega⟩
  ·rw[hst]
   exact hq2
  ·simp only
   rw[hst]
   exact List.Perm.refl _
 ·rw[if_pos (by rw[decide_eq_true (by omega)]),List.nil_append]at hst
  repeat(first|refine wDB ?_|refine awp_seq_k fun K hK=>?_|refine wN fun bx=>?_|refine wC gT ?_|(refine wH ?_;clear hK))
  refine qcallX (G:=[.box b5 70 (.agg (termE (p.getD i default)))]) (H2:=fun q=>.box b5 70 (.agg (termE (p.getD i default)))::bldH b3 q.1.1 q.1.2 (s++tt)) (writeS_c b3 o s tt ho hne (by omega)) ?_
  rintro⟨⟨g2,c2⟩,hq2⟩
  simp only at hq2 ⊢
  repeat(first|refine wDB ?_|refine awp_seq_k fun K hK=>?_|refine wN fun bx=>?_|(refine wH ?_;clear hK))
  refine⟨⟨(i+1,some (g2,c2)),hlt,?_⟩,wk,⟨[.box b5 70 (.agg (termE (p.getD i default)))],?_⟩,by simp only;omega⟩
  ·rw[hst]
   exact hq2
  ·simp only
   rw[hst]
   exact List.Perm.refl _
end Go.Proofs.YtamgilppehibeaaGreatDoor
