/-
  Texts of numbers: digits, nine by nine (plain law of digits.Text, digits.Parse).
-/
import Derived.Test.YtamgilppehibeaaGreatDoorBnM
import Derived.Lib.AtoiAll
import Derived.Lib.ItoaMem
import Derived.Test.YtamgilppehibeaaGreatDoorPcM
import Derived.Lib.IndexMore
import Derived.Lib.Split
import Derived.Lib.Join
import Derived.Lib.SlTrimSet
import Derived.Lib.IndexAny
namespace Go.Proofs.YtamgilppehibeaaGreatDoor
open Go.Ab Go.Lib
def digC (d:Nat):UInt8:=UInt8.ofNat (48+d)
theorem dec_digs (n:Nat) (h:n≠0):decDigits n=(digs 10 n).reverse.map digC:=by
 induction n using Nat.strongRecOn with
 |ind n ih=>
  rw[decDigits,digs_pos (by decide) h,List.reverse_cons,List.map_append]
  split
  ·rename_i h10
   rw[show n/10=0 by omega,digs_zero,show n%10=n by omega]
   rfl
  ·rename_i h10
   rw[ih (n/10) (by omega) (by omega)]
   rfl
def isD (c:UInt8):Bool:=decide (48≤c.toNat)&&decide (c.toNat≤57)
theorem digC_nat {d:Nat} (h:d<10):(digC d).toNat=48+d:=by
 unfold digC
 rw[UInt8.toNat_ofNat']
 omega
theorem digC_is {d:Nat} (h:d<10):isD (digC d)=true:=by
 unfold isD
 rw[digC_nat h,decide_eq_true (by omega),decide_eq_true (by omega)]
 rfl
theorem dec_is (n:Nat):∀c∈decDigits n,isD c=true:=by
 induction n using Nat.strongRecOn with
 |ind n ih=>
  intro c hc
  rw[decDigits]at hc
  split at hc
  ·rename_i h10
   rw[List.mem_singleton.1 hc]
   exact digC_is h10
  ·rename_i h10
   rcases List.mem_append.1 hc with hc|hc
   ·exact ih (n/10) (by omega) c hc
   ·rw[List.mem_singleton.1 hc]
    exact digC_is (Nat.mod_lt _ (by decide))
theorem dec_head (n:Nat) (h:n≠0):∃c r,decDigits n=c::r∧c≠48:=by
 induction n using Nat.strongRecOn with
 |ind n ih=>
  rw[decDigits]
  split
  ·rename_i h10
   refine⟨_,[],rfl,fun e=>?_⟩
   have:=congrArg UInt8.toNat e
   rw[show UInt8.ofNat (48+n)=digC n from rfl,digC_nat h10]at this
   have:48+n=48:=this
   omega
  ·obtain⟨c,r,e,hc⟩:=ih (n/10) (by omega) (by omega)
   exact⟨c,r++[UInt8.ofNat (48+n%10)],by rw[e];rfl,hc⟩
theorem dec_zero:decDigits 0=[48]:=by
 rw[decDigits]
 rfl
def textI (neg:Bool) (v:Nat):List UInt8:=if v≠0∧neg=true then 45::decDigits v else decDigits v
def decV (b:List UInt8):Nat:=b.foldl (fun n c=>n*10+(c.toNat-48)) 0
def parseD (s:List UInt8):Option (Bool×Nat):=
 let neg:=decide (s.head?=some 45)
 let b:=if neg then s.drop 1 else s
 if b=[]∨(b.head?=some 48∧(1<b.length∨neg=true)) then none else if b.all isD then some (neg,decV b) else none
theorem padd_add (B:Nat):∀(k m n:Nat),padd B (k+m) n=padd B k n++padd B m (n/B^k)
 |0,m,n=>by rw[Nat.zero_add,Nat.pow_zero,Nat.div_one];rfl
 |k+1,m,n=>by
  rw[Nat.succ_add,padd,padd,padd_add B k m,Nat.div_div_eq_div_mul,Nat.pow_succ',List.cons_append]
theorem padd_snoc (B k n:Nat):padd B (k+1) n=padd B k n++[n/B^k%B]:=by
 rw[padd_add]
 rfl
theorem padd_mod (B:Nat):∀(k n:Nat),padd B k (n%B^k)=padd B k n
 |0,_=>rfl
 |k+1,n=>by
  rw[padd,padd,Nat.pow_succ',Nat.mod_mul_right_mod,Nat.mod_mul_right_div_self,padd_mod B k]
theorem padd_less {B k n:Nat} (hB:0<B) (h:n<B^(k+1)) (h0:n/B^k%B=0):n<B^k:=by
 have h1:n/B^k<B:=by
  rw[Nat.div_lt_iff_lt_mul (Nat.pow_pos hB),←Nat.pow_succ']
  exact h
 rw[Nat.mod_eq_of_lt h1]at h0
 exact(Nat.div_eq_zero_iff_lt (Nat.pow_pos hB)).1 h0
theorem padd_digs {B k n:Nat} (hB:2≤B) (h:n<B^(k+1)) (h0:n/B^k%B≠0):padd B (k+1) n=digs B n:=by
 have h1:=padd_lt (B:=B) (by omega) (k+1) n
 have h2:=val_padd B (k+1) n
 rw[Nat.mod_eq_of_lt h]at h2
 have h3:=digs_val hB h1 fun hne=>by
  have h4:(padd B (k+1) n).getLast?=some (n/B^k%B):=by
   rw[padd_snoc]
   exact List.getLast?_concat ..
  rw[List.getLast?_eq_some_getLast hne]at h4
  rw[Option.some.inj h4]
  exact h0
 rw[h2]at h3
 exact h3.symm
theorem digC_zero {d:Nat} (h:d<10):digC d=48↔d=0:=by
 constructor
 ·intro e
  have:=congrArg UInt8.toNat e
  rw[digC_nat h]at this
  have:48+d=48:=this
  omega
 ·rintro rfl
  rfl
theorem decV_snoc (b:List UInt8) (c:UInt8):decV (b++[c])=decV b*10+(c.toNat-48):=by
 unfold decV
 rw[List.foldl_append]
 rfl
theorem decV_app (a:List UInt8):∀(b:List UInt8),decV (a++b)=decV a*10^b.length+decV b
 |[]=>by rw[List.append_nil,List.length_nil,Nat.pow_zero,Nat.mul_one];rfl
 |c::b=>by
  have key:∀(l:List UInt8) (n:Nat),l.foldl (fun n c=>n*10+(c.toNat-48)) n=n*10^l.length+l.foldl (fun n c=>n*10+(c.toNat-48)) 0:=by
   intro l
   induction l with
   |nil=>intro n;simp
   |cons c l ih=>
    intro n
    rw[List.foldl_cons,ih,List.foldl_cons,ih (0*10+_),List.length_cons,Nat.pow_succ',Nat.add_mul,Nat.zero_mul,Nat.zero_add,←Nat.mul_assoc,Nat.add_assoc]
  unfold decV
  rw[List.foldl_append,key]
theorem decV_lt {b:List UInt8} (h:∀c∈b,isD c=true):decV b<10^b.length:=by
 have key:∀(l:List UInt8) (n:Nat),(∀c∈l,isD c=true)→l.foldl (fun n c=>n*10+(c.toNat-48)) n<(n+1)*10^l.length:=by
  intro l
  induction l with
  |nil=>intro n _;simp
  |cons c l ih=>
   intro n hl
   have hc:=hl c (List.mem_cons_self ..)
   unfold isD at hc
   simp only[Bool.and_eq_true,decide_eq_true_eq]at hc
   rw[List.foldl_cons]
   refine Nat.lt_of_lt_of_le (ih _ fun x hx=>hl x (List.mem_cons_of_mem _ hx)) ?_
   rw[List.length_cons,Nat.pow_succ',←Nat.mul_assoc]
   exact Nat.mul_le_mul_right _ (by omega)
 have:=key b 0 h
 rw[Nat.zero_add,Nat.one_mul]at this
 exact this
end Go.Proofs.YtamgilppehibeaaGreatDoor
namespace Go.Proofs.YtamgilppehibeaaGreatDoor
open Go.Ab Go.Lib
def powT (w:Pw):List UInt8:=120::(itoa w.1++(if w.2=1 then [] else 94::itoa w.2))
def partsT (v:Nat) (m:List Pw):List (List UInt8):=(if decDigits v=[49]∧m≠[] then [] else [decDigits v])++m.map powT
def trmT (v:Nat) (m:List Pw):List UInt8:=Lib.join (partsT v m) [42]
abbrev absT (t:TermR):Nat:=valB B32 t.c.mag
def termT (fs:Bool) (t:TermR):List UInt8:=(if t.c.neg then [45] else if fs then [] else [43])++trmT (absT t) t.m
def textL:Bool→List TermR→List UInt8
 |_,[]=>[]
 |fs,t::p=>termT fs t++textL false p
def textP (p:List TermR):List UInt8:=if mayP p=false then [] else if p=[] then [48] else textL true p
theorem textL_snoc:∀(p:List TermR) (fs:Bool) (t:TermR),textL fs (p++[t])=textL fs p++termT (fs&&p.isEmpty) t
 |[],fs,t=>by
  rw[List.nil_append,textL,textL,textL,List.append_nil,List.nil_append,List.isEmpty_nil,Bool.and_true]
 |u::p,fs,t=>by
  rw[List.cons_append,textL,textL_snoc p false t,textL,List.append_assoc,List.isEmpty_cons,Bool.and_false,Bool.false_and]
theorem textL_take {p:List TermR} {i:Nat} (hi:i<p.length):textL true (p.take (i+1))=textL true (p.take i)++termT (decide (i=0)) (p.getD i default):=by
 rw[List.take_add_one,List.getElem?_eq_getElem hi,Option.toList_some,textL_snoc,List.getD_eq_getElem?_getD,List.getElem?_eq_getElem hi]
 congr 2
 cases i with
 |zero=>rfl
 |succ i=>
  rw[decide_eq_false (by omega),Bool.true_and,Bool.eq_false_iff]
  intro e
  have:=congrArg List.length (List.isEmpty_iff.1 e)
  rw[List.length_take,List.length_nil]at this
  omega
end Go.Proofs.YtamgilppehibeaaGreatDoor
namespace Go.Proofs.YtamgilppehibeaaGreatDoor
open Go.Ab Go.Lib
theorem jn_two (x y:List UInt8) (r:List (List UInt8)) (c:UInt8):Lib.join (x::y::r) [c]=x++c::Lib.join (y::r) [c]:=by
 rw[Lib.join_cons,Lib.join_cons]
 simp[Lib.joinTail]
theorem jn_cons (x:List UInt8) (r:List (List UInt8)) (c:UInt8):∃s,Lib.join (x::r) [c]=x++s:=by
 rw[Lib.join_cons]
 exact⟨_,rfl⟩
def okC (c:UInt8):Bool:=isD c || c==120 || c==94 || c==42 || c==43 || c==45
theorem itoa_pos {n:Int} (h:0≤n):itoa n=decDigits n.toNat:=by
 unfold itoa
 rw[if_neg (by omega)]
theorem may_pos {m:List Pw} (h:may m=true) {w:Pw} (hw:w∈m):1≤w.1∧w.1≤200∧1≤w.2∧w.2≤10000:=by
 have hs:=may_srt h
 have e1:=deg_of_mem hs.1 hw
 have e2:=hs.2 w hw
 have e3:=deg_bnd h (v:=w.1) (by omega)
 omega
theorem partsT_mem {v:Nat} {m:List Pw} {x:List UInt8} (h:x∈partsT v m):x=decDigits v∨∃w∈m,x=powT w:=by
 unfold partsT at h
 rcases List.mem_append.1 h with h|h
 ·split at h
  ·cases h
  ·exact .inl (List.mem_singleton.1 h)
 ·obtain⟨w,hw,e⟩:=List.mem_map.1 h
  exact .inr ⟨w,hw,e.symm⟩
theorem partsT_ne {v:Nat} {m:List Pw}:partsT v m≠[]:=by
 unfold partsT
 split
 ·rename_i h
  cases m with
  |nil=>exact absurd rfl h.2
  |cons w m=>exact List.cons_ne_nil _ _
 ·exact List.cons_ne_nil _ _
theorem trmT_head {v:Nat} (m:List Pw):∃c r,trmT v m=c::r∧(isD c=true∨c=120)∧(v≠0→c≠48):=by
 unfold trmT
 cases hp:partsT v m with
 |nil=>exact absurd hp partsT_ne
 |cons x r=>
  obtain⟨s,e⟩:=jn_cons x r 42
  rw[e]
  rcases partsT_mem (v:=v) (m:=m) (x:=x) (by rw[hp];exact List.mem_cons_self ..)with rfl|⟨w,-,rfl⟩
  ·by_cases hv:v=0
   ·subst hv
    rw[dec_zero]
    exact⟨48,s,rfl,.inl rfl,fun h=>absurd rfl h⟩
   ·obtain⟨c,q,e2,hc⟩:=dec_head v hv
    exact⟨c,q++s,by rw[e2];rfl,.inl (dec_is v c (by rw[e2];exact List.mem_cons_self ..)),fun _=>hc⟩
  ·exact⟨120,_,rfl,.inr rfl,fun _=>by decide⟩
end Go.Proofs.YtamgilppehibeaaGreatDoor
namespace Go.Proofs.YtamgilppehibeaaGreatDoor
open Go.Ab Go.Lib
def smallF (s:List UInt8):Option Int:=match Lib.atoiAll s with
 |.ok v=>if itoa v=s then some v else none
 |_=>none
def powersF (s:List UInt8):Option Pw:=if s.head?=some 120 then
    (smallF (Lib.cut (s.drop 1) [94]).1).bind fun a=>if(Lib.cut (s.drop 1) [94]).2.2 then(smallF (Lib.cut (s.drop 1) [94]).2.1).map fun b=>(a,b) else some (a,1)
 else none
def partF:Bool→IntR×List Pw→List (List UInt8)→Option (IntR×List Pw)
 |_,x,[]=>some x
 |fs,x,s::r=>if fs=false∨Lib.hasPrefix s [120]=true then(powersF s).bind fun w=>partF false (x.1,x.2++[w]) r else(parseD s).bind fun y=>partF false (⟨y.1,digs B32 y.2⟩,x.2) r
def frontF (s:List UInt8):List UInt8:=trimLeftS (s.take 1) [43,45]++s.drop 1
def untilF (s:List UInt8):Nat:=if indexAny s [43,45]<0 then s.length else(indexAny s [43,45]).toNat
def termF (s:List UInt8):Option (TermR×List UInt8):=
 (partF true (⟨false,digs B32 1⟩,[]) (Lib.split ((frontF s).take (untilF (frontF s))) [42])).map fun x=>(⟨⟨Lib.hasPrefix s [45],x.1.mag⟩,x.2⟩,(frontF s).drop (untilF (frontF s)))
def termsF:Nat→List UInt8→Option (List TermR)
 |0,s=>if s=[] then some [] else none
 |n+1,s=>if s=[] then some [] else(termF s).bind fun x=>(termsF n x.2).map (x.1:: ·)
def parseV (s:List UInt8):List TermR×Int:=
 if 65536<s.length then([],3) else if s=[] then([],4) else if s=[48] then([],0) else
  match termsF s.length s with
  |some p=>if mayP p=true∧textP p=s then(p,0) else([],4)
  |none=>([],4)
theorem indexAny_lt (ch:List UInt8):∀s:List UInt8,0≤indexAny s ch→(indexAny s ch).toNat<s.length
 |[],h=>by
  have e:indexAny [] ch= -1:=rfl
  omega
 |b::s,h=>by
  have ih:=indexAny_lt ch s
  have hge:=indexAny_ge ch s
  unfold indexAny at h ⊢
  split
  ·exact Nat.succ_pos _
  ·rename_i h1
   rw[if_neg h1]at h
   split
   ·rename_i h2
    rw[if_pos h2]at h
    omega
   ·rename_i h2
    have h2':indexAny s ch≠ -1:=fun e=>h2 (by rw[e];rfl)
    rw[List.length_cons]
    have:=ih (by omega)
    omega
theorem untilF_le (s:List UInt8):untilF s≤s.length:=by
 unfold untilF
 split
 ·exact Nat.le_refl _
 ·exact Nat.le_of_lt (indexAny_lt _ _ (by omega))
theorem frontF_le (s:List UInt8):(frontF s).length≤s.length:=by
 unfold frontF
 rw[List.length_append,List.length_drop]
 have h1:(trimLeftS (s.take 1) [43,45]).length≤(s.take 1).length:=by
  unfold trimLeftS
  exact(List.dropWhile_sublist _).length_le
 rw[List.length_take]at h1
 omega
end Go.Proofs.YtamgilppehibeaaGreatDoor
