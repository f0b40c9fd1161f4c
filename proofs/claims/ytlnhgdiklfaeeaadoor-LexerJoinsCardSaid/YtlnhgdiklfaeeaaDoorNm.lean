/-
  A word that is a number: the plain law that the document's test, digit by digit, is Itoa of Atoi.
-/
import Derived.Lib.AtoiTie
import Derived.Lib.ItoaNum
namespace Go.Ab
open Go.Lib
def refNum (w:List UInt8):Option Int:=
 let minus:=decide ((w.length:Int)>0)&&((w.getD 0 0).toNat==45)
 let d:=if minus then w.drop 1 else w
 if d.length=0∨d.length>7∨((d.getD 0 0).toNat=48∧(minus=true∨d.length>1)) then none
 else match decFrom 0 d with
  |none=>none
  |some n=>if n>1000000 then none else some (if minus then -(n:Int) else n)
theorem decFrom_append:∀(l:List UInt8) (acc:Nat) (b:UInt8),decFrom acc (l++[b])=match decFrom acc l with
  |none=>none
  |some m=>match digitVal b with
   |some d=>some (m*10+d)
   |none=>none
 |[],acc,b=>by simp only[List.nil_append,decFrom];cases digitVal b<;>rfl
 |c::l,acc,b=>by
  simp only[List.cons_append,decFrom]
  cases digitVal c with
  |none=>rfl
  |some d=>exact decFrom_append l _ b
theorem toNat_ofNat_dig {d:Nat} (h:d<10):(UInt8.ofNat (48+d)).toNat=48+d:=by
 simp[UInt8.toNat_ofNat']
 omega
theorem digitVal_dig {d:Nat} (h:d<10):digitVal (UInt8.ofNat (48+d))=some d:=by
 unfold digitVal
 rw[toNat_ofNat_dig h,if_pos (by omega)]
 simp
theorem decDigits_big {u:Nat} (h:¬u<10):decDigits u=decDigits (u/10)++[UInt8.ofNat (48+u%10)]:=by
 rw[decDigits,dif_neg h]
theorem decFrom_decDigits (n:Nat):decFrom 0 (decDigits n)=some n:=by
 induction n using Nat.strongRecOn with
 |_ n ih=>
  by_cases h:n<10
  ·rw[decDigits_one h]
   simp only[decFrom,digitVal_dig h]
   simp
  ·rw[decDigits_big h,decFrom_append,ih (n/10) (by omega)]
   simp only[digitVal_dig (show n%10<10 by omega)]
   congr 1
   omega
theorem decDigits_ne (n:Nat):decDigits n≠[]:=by
 intro h
 have:=decDigits_length n
 have:=nDigits_pos n
 rw[h]at*
 simp at*
 omega
theorem decDigits_head (n:Nat):48≤((decDigits n).getD 0 0).toNat∧((decDigits n).getD 0 0).toNat≤57∧(1≤n→((decDigits n).getD 0 0).toNat≠48):=by
 induction n using Nat.strongRecOn with
 |_ n ih=>
  by_cases h:n<10
  ·rw[decDigits_one h]
   simp only[List.getD_cons_zero,toNat_ofNat_dig h]
   omega
  ·rw[decDigits_big h]
   have hne:=decDigits_ne (n/10)
   have:(decDigits (n/10)++[UInt8.ofNat (48+n%10)]).getD 0 0=(decDigits (n/10)).getD 0 0:=by
    cases hd:decDigits (n/10)with
    |nil=>exact absurd hd hne
    |cons b l=>rfl
   rw[this]
   obtain⟨h1,h2,h3⟩:=ih (n/10) (by omega)
   exact⟨h1,h2,fun _=>h3 (by omega)⟩
theorem nDigits_le:∀(k n:Nat),n<10^(k+1)→nDigits n≤k+1
 |0,n,h=>by rw[nDigits_small (by simpa using h)];exact Nat.le_refl _
 |k+1,n,h=>by
  by_cases h10:n<10
  ·rw[nDigits_small h10];omega
  ·rw[nDigits_big h10]
   have:=nDigits_le k (n/10) (by rw[Nat.div_lt_iff_lt_mul (by omega)];rw[Nat.pow_succ]at h;exact h)
   omega
theorem decFrom_ge:∀(l:List UInt8) (acc n:Nat),decFrom acc l=some n→acc≤n
 |[],acc,n,h=>by simp[decFrom]at h;omega
 |b::l,acc,n,h=>by
  simp only[decFrom]at h
  cases hd:digitVal b with
  |none=>rw[hd]at h;cases h
  |some d=>
   rw[hd]at h
   have:=decFrom_ge l _ n h
   omega
theorem decDigits_of:∀(k:Nat) (l:List UInt8) (n:Nat),l.length=k→l≠[]→decFrom 0 l=some n→((l.getD 0 0).toNat≠48∨l.length=1)→decDigits n=l:=by
 intro k
 induction k with
 |zero=>intro l n hl hne;exact absurd (List.eq_nil_of_length_eq_zero hl) hne
 |succ k ih=>
  intro l n hl hne hd hh
  obtain⟨l',b,rfl⟩:∃l' b,l=l'++[b]:=⟨l.dropLast,l.getLast hne,(List.dropLast_concat_getLast hne).symm⟩
  simp only[List.length_append,List.length_cons,List.length_nil]at hl
  rw[decFrom_append]at hd
  cases hm:decFrom 0 l' with
  |none=>rw[hm]at hd;cases hd
  |some m=>
   rw[hm]at hd
   simp only at hd
   cases hb:digitVal b with
   |none=>rw[hb]at hd;cases hd
   |some d=>
    rw[hb]at hd
    simp only[Option.some.injEq]at hd
    obtain⟨b1,b2,b3⟩:=digitVal_eq hb
    have hbd:UInt8.ofNat (48+d)=b:=by
     apply UInt8.toNat_inj.1
     rw[toNat_ofNat_dig (by omega)]
     omega
    cases hl':l' with
    |nil=>
     rw[hl']at hm
     simp only[decFrom,Option.some.injEq]at hm
     subst hm
     rw[←hd,decDigits_one (by omega),←hbd]
     simp
    |cons c r=>
     have hne':l'≠[]:=by rw[hl'];simp
     have hhead:((l'++[b]).getD 0 0)=l'.getD 0 0:=by rw[hl'];rfl
     have hlen:l'.length≠0:=by rw[hl'];simp
     have h48:(l'.getD 0 0).toNat≠48:=by
      rw[←hhead]
      exact hh.resolve_right (by simp;exact hne')
     have hm1:1≤m:=by
      rw[hl']at hm h48
      simp only[decFrom]at hm
      cases hc:digitVal c with
      |none=>rw[hc]at hm;cases hm
      |some dc=>
       rw[hc]at hm
       obtain⟨c1,c2,c3⟩:=digitVal_eq hc
       have:=decFrom_ge r _ m hm
       simp only[List.getD_cons_zero]at h48
       omega
     have:=ih l' m (by omega) hne' hm (.inl h48)
     rw[←hd,decDigits_big (by omega),show(m*10+d)/10=m by omega,show(m*10+d)%10=d by omega,this,hbd,hl']
theorem itoa_nat (n:Nat):itoa (n:Int)=decDigits n:=by
 unfold itoa
 rw[if_neg (by omega)]
 simp
theorem itoa_neg {n:Nat} (h:1≤n):itoa (-(n:Int))=45::decDigits n:=by
 unfold itoa
 rw[if_pos (by omega)]
 simp
theorem refNum_itoa (v:Int) (h1: -1000000≤v) (h2:v≤1000000):refNum (itoa v)=some v:=by
 have hlen:∀n:Nat,n≤1000000→1≤(decDigits n).length∧(decDigits n).length≤7:=fun n hn=>by
  rw[decDigits_length]
  exact⟨nDigits_pos n,nDigits_le 6 n (by omega)⟩
 by_cases hv:v<0
 ·obtain⟨n,rfl⟩:∃n:Nat,v= -(n:Int):=⟨v.natAbs,by omega⟩
  rw[itoa_neg (by omega)]
  have hl:=hlen n (by omega)
  have hd:=(decDigits_head n).2.2 (by omega)
  unfold refNum
  simp only[List.length_cons,List.getD_cons_zero,List.drop_succ_cons,List.drop_zero]
  have hm:(decide ((((decDigits n).length+1:Nat):Int)>0)&&((45:UInt8).toNat==45))=true:=by simp
  rw[hm]
  simp only[if_true]
  rw[if_neg (by omega),decFrom_decDigits]
  simp only
  rw[if_neg (by omega)]
 ·obtain⟨n,rfl⟩:∃n:Nat,v=(n:Int):=⟨v.toNat,by omega⟩
  rw[itoa_nat]
  have hl:=hlen n (by omega)
  obtain⟨d1,d2,d3⟩:=decDigits_head n
  unfold refNum
  have hm:(decide (((decDigits n).length:Int)>0)&&(((decDigits n).getD 0 0).toNat==45))=false:=by
   rw[Bool.and_eq_false_iff]
   right
   rw[beq_eq_false_iff_ne]
   omega
  simp only[hm,Bool.false_eq_true,if_false,false_or]
  have h0:((decDigits n).getD 0 0).toNat=48→(decDigits n).length=1:=fun h=>by
   have:n=0:=by
    by_cases hn:n=0
    ·exact hn
    ·exact absurd h (d3 (by omega))
   rw[this,decDigits_one (by omega)]
   rfl
  rw[if_neg (by
   rintro(h|h|⟨h,h'⟩)
   ·omega
   ·omega
   ·have:=h0 h
    omega),decFrom_decDigits]
  simp only
  rw[if_neg (by omega)]
theorem refNum_some {w:List UInt8} {v:Int} (h:refNum w=some v):itoa v=w∧atoiAll w=.ok v∧ -1000000≤v∧v≤1000000:=by
 unfold refNum at h
 simp only at h
 cases hm:(decide ((w.length:Int)>0)&&((w.getD 0 0).toNat==45))with
 |true=>
  rw[hm]at h
  simp only[if_true,true_or,and_true]at h
  simp only[Bool.and_eq_true,decide_eq_true_eq,beq_iff_eq]at hm
  cases w with
  |nil=>simp at hm
  |cons b d=>
   simp only[List.drop_succ_cons,List.drop_zero,List.getD_cons_zero]at h hm
   have hb:b=45:=UInt8.toNat_inj.1 hm.2
   subst hb
   split at h
   ·cases h
   ·rename_i hc
    split at h
    ·cases h
    ·rename_i n hn
     split at h
     ·cases h
     ·rename_i hle
      simp only[Option.some.injEq]at h
      subst h
      have hdd:=decDigits_of d.length d n rfl (by intro e;simp[e]at hc) hn (.inl (by omega))
      have hn1:1≤n:=by
       by_cases e:n=0
       ·have h1:d=[48]:=by rw[←hdd,e,decDigits_one (by omega)];rfl
        rw[h1]at hc
        simp at hc
       ·omega
      refine⟨by rw[itoa_neg hn1,hdd],?_,by omega,by omega⟩
      have hl:(45::d:List UInt8).length≤18:=by simp;omega
      rw[atoiAll_short _ hl]
      have hne:d.isEmpty=false:=by cases d with
       |nil=>simp at hc
       |cons _ _=>rfl
      have:atoi (45::d)=some (-(n:Int)):=by
       simp[atoi,decNat,hne,hn]
      rw[this]
      rfl
 |false=>
  rw[hm]at h
  simp only[Bool.false_eq_true,if_false,false_or]at h
  split at h
  ·cases h
  ·rename_i hc
   split at h
   ·cases h
   ·rename_i n hn
    split at h
    ·cases h
    ·rename_i hle
     simp only[Option.some.injEq]at h
     subst h
     have hne:w≠[]:=by rintro rfl;simp at hc
     have hdd:=decDigits_of w.length w n rfl hne hn (by
      by_cases e:(w.getD 0 0).toNat=48
      ·right
       have:w.length≠0:=by intro e;exact hne (List.eq_nil_of_length_eq_zero e)
       omega
      ·exact .inl e)
     refine⟨by rw[itoa_nat,hdd],?_,by omega,by omega⟩
     rw[atoiAll_short _ (by omega)]
     have:atoi w=some (n:Int):=by
      cases w with
      |nil=>exact absurd rfl hne
      |cons b d=>
       have hd:=decDigits_head n
       rw[hdd]at hd
       simp only[List.getD_cons_zero]at hd
       have h45:(b==45)=false:=by
        rw[beq_eq_false_iff_ne]
        rintro rfl
        have:=hd.1
        simp at this
       have h43:(b==43)=false:=by
        rw[beq_eq_false_iff_ne]
        rintro rfl
        have:=hd.1
        simp at this
       simp[atoi,h45,h43,decNat,hn]
     rw[this]
     rfl
theorem tokNum (w:List UInt8):(match atoiAll w with
  |.ok v=>if(!(itoa v==w) || decide (v>1000000)) || decide (v< -1000000) then none else some v
  |_=>none)=refNum w:=by
 cases hr:refNum w with
 |some v=>
  obtain⟨h1,h2,h3,h4⟩:=refNum_some hr
  rw[h2]
  simp only
  rw[if_neg]
  simp[h1]
  omega
 |none=>
  split
  ·rename_i v hv
   split
   ·rfl
   ·rename_i hc
    simp only[Bool.or_eq_true,Bool.not_eq_true',beq_eq_false_iff_ne,ne_eq,decide_eq_true_eq,not_or,Decidable.not_not]at hc
    obtain⟨⟨h1,h2⟩,h3⟩:=hc
    have:=refNum_itoa v (by omega) (by omega)
    rw[h1,hr]at this
    cases this
  ·rfl
end Go.Ab
