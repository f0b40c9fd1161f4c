/-
  Plain law of digits: what number a row of digits tells; a number's digits; steps of sum, product, quotient.
-/
namespace Go.Ab
def valB (B:Nat):List Nat→Nat
 |[]=>0
 |x::l=>x+B*valB B l
def digF (B:Nat):Nat→Nat→List Nat
 |0,_=>[]
 |f+1,n=>if n=0 then [] else n%B::digF B f (n/B)
def digs (B n:Nat):List Nat:=digF B n n
theorem digF_fuel {B:Nat} (hB:2≤B):∀(f g n:Nat),n≤f→n≤g→digF B f n=digF B g n
 |0,g,n,h,_=>by
  have:n=0:=by omega
  subst this
  cases g<;>simp[digF]
 |f+1,0,n,_,h=>by
  have:n=0:=by omega
  subst this
  simp[digF]
 |f+1,g+1,n,h1,h2=>by
  simp only[digF]
  split
  ·rfl
  ·rename_i h
   have hd:n/B<n:=Nat.div_lt_self (by omega) hB
   rw[digF_fuel hB f g (n/B) (by omega) (by omega)]
theorem digs_zero (B:Nat):digs B 0=[]:=rfl
theorem digs_pos {B n:Nat} (hB:2≤B) (h:n≠0):digs B n=n%B::digs B (n/B):=by
 obtain⟨m,rfl⟩:∃m,n=m+1:=⟨n-1,by omega⟩
 have hd:(m+1)/B<m+1:=Nat.div_lt_self (by omega) hB
 unfold digs
 rw[digF,if_neg h,digF_fuel hB m ((m+1)/B) _ (by omega) (Nat.le_refl _)]
theorem val_digs {B:Nat} (hB:2≤B) (n:Nat):valB B (digs B n)=n:=by
 induction n using Nat.strongRecOn with
 |_ n ih=>
  by_cases h:n=0
  ·subst h;rfl
  ·rw[digs_pos hB h,valB,ih _ (Nat.div_lt_self (by omega) hB)]
   exact Nat.mod_add_div n B
theorem digs_lt {B:Nat} (hB:2≤B) (n:Nat):∀x∈digs B n,x<B:=by
 induction n using Nat.strongRecOn with
 |_ n ih=>
  by_cases h:n=0
  ·subst h;intro x hx;cases hx
  ·rw[digs_pos hB h]
   intro x hx
   rcases List.mem_cons.1 hx with rfl|hx
   ·exact Nat.mod_lt _ (by omega)
   ·exact ih _ (Nat.div_lt_self (by omega) hB) x hx
theorem digs_nil {B n:Nat} (hB:2≤B):digs B n=[]↔n=0:=by
 constructor
 ·intro h
  have:=val_digs hB n
  rw[h]at this
  exact this.symm
 ·rintro rfl;rfl
theorem val_append (B:Nat):∀(a b:List Nat),valB B (a++b)=valB B a+B^a.length*valB B b
 |[],b=>by simp[valB]
 |x::a,b=>by
  rw[List.cons_append,valB,val_append B a b,valB,List.length_cons,Nat.pow_succ]
  grind
theorem val_zeros (B:Nat):∀k,valB B (List.replicate k 0)=0
 |0=>rfl
 |k+1=>by rw[List.replicate_succ,valB,val_zeros B k];simp
theorem val_lt {B:Nat}:∀{l:List Nat},(∀x∈l,x<B)→valB B l<B^l.length
 |[],_=>by simp[valB]
 |x::l,h=>by
  have h1:=h x (List.mem_cons_self ..)
  have h2:=val_lt fun y hy=>h y (List.mem_cons_of_mem _ hy)
  rw[valB,List.length_cons,Nat.pow_succ]
  have h3:B*(valB B l+1)≤B*B^l.length:=Nat.mul_le_mul_left _ h2
  rw[Nat.mul_add,Nat.mul_one]at h3
  rw[Nat.mul_comm (B^l.length) B]
  omega
theorem digs_val {B:Nat} (hB:2≤B):∀{l:List Nat},(∀x∈l,x<B)→(∀h:l≠[],l.getLast h≠0)→digs B (valB B l)=l
 |[],_,_=>rfl
 |x::l,h1,h2=>by
  have hx:=h1 x (List.mem_cons_self ..)
  have ih:digs B (valB B l)=l:=digs_val hB (fun y hy=>h1 y (List.mem_cons_of_mem _ hy)) fun h=>by
   have:=h2 (List.cons_ne_nil _ _)
   rwa [List.getLast_cons h]at this
  have hn:valB B (x::l)≠0:=by
   intro h0
   rw[valB]at h0
   have hv:valB B l=0:=by
    rcases Nat.eq_zero_or_pos (valB B l)with h|h
    ·exact h
    ·have:=Nat.mul_pos (show 0<B by omega) h
     omega
   rw[hv]at ih
   have:l=[]:=ih.symm.trans (digs_zero B)
   subst this
   have:=h2 (List.cons_ne_nil _ _)
   simp at this
   omega
  rw[digs_pos hB hn,valB,Nat.add_mul_mod_self_left,Nat.mod_eq_of_lt hx,Nat.add_mul_div_left _ _ (by omega),Nat.div_eq_of_lt hx,Nat.zero_add,ih]
theorem digs_last {B:Nat} (hB:2≤B) (n:Nat) (h:digs B n≠[]):(digs B n).getLast h≠0:=by
 induction n using Nat.strongRecOn with
 |_ n ih=>
  have hn:n≠0:=fun e=>h ((digs_nil hB).2 e)
  have hlt:=Nat.div_lt_self (show 0<n by omega) hB
  by_cases hq:n/B=0
  ·have e:digs B n=[n%B]:=by rw[digs_pos hB hn,hq,digs_zero]
   have hm:n%B=n:=Nat.mod_eq_of_lt (by
    rcases Nat.lt_or_ge n B with x|x
    ·exact x
    ·have:=Nat.div_pos x (by omega)
     omega)
   simp only[e,List.getLast_singleton,hm]
   exact hn
  ·have hne:digs B (n/B)≠[]:=fun e=>hq ((digs_nil hB).1 e)
   have:=ih _ hlt hne
   simp only[digs_pos hB hn,List.getLast_cons hne]
   exact this
theorem digs_len {B n k:Nat} (hB:2≤B):(digs B n).length≤k↔n<B^k:=by
 constructor
 ·intro h
  have h1:=val_lt (digs_lt hB n)
  rw[val_digs hB]at h1
  exact Nat.lt_of_lt_of_le h1 (Nat.pow_le_pow_right (by omega) h)
 ·intro h
  induction k generalizing n with
  |zero=>
   have:n=0:=by simp at h;exact h
   subst this
   exact Nat.le_refl _
  |succ k ih=>
   by_cases hn:n=0
   ·subst hn;simp[digs_zero]
   ·rw[digs_pos hB hn,List.length_cons]
    have:n/B<B^k:=Nat.div_lt_of_lt_mul (by rw[Nat.pow_succ,Nat.mul_comm]at h;exact h)
    have:=ih this
    omega
theorem val_take_drop (B:Nat) (l:List Nat) (k:Nat) (h:k≤l.length):valB B l=valB B (l.take k)+B^k*valB B (l.drop k):=by
 have:=val_append B (l.take k) (l.drop k)
 rwa [List.take_append_drop,List.length_take,Nat.min_eq_left h]at this
theorem all_take {B:Nat} {l:List Nat} (h:∀x∈l,x<B) (k:Nat):∀x∈l.take k,x<B:=fun x hx=>h x (List.mem_of_mem_take hx)
theorem all_drop {B:Nat} {l:List Nat} (h:∀x∈l,x<B) (k:Nat):∀x∈l.drop k,x<B:=fun x hx=>h x (List.mem_of_mem_drop hx)
theorem val_take_succ (B:Nat):∀(l:List Nat) (k:Nat),valB B (l.take (k+1))=valB B (l.take k)+l.getD k 0*B^k
 |[],k=>by simp[valB]
 |x::l,0=>by simp[valB]
 |x::l,k+1=>by
  rw[List.take_succ_cons,valB,val_take_succ B l k,List.take_succ_cons,valB,List.getD_cons_succ,Nat.pow_succ]
  grind
theorem val_snoc (B:Nat) (l:List Nat) (x:Nat):valB B (l++[x])=valB B l+x*B^l.length:=by
 rw[val_append]
 simp[valB,Nat.mul_comm]
theorem getD_lt {B:Nat} {l:List Nat} (hB:0<B) (h:∀x∈l,x<B) (k:Nat):l.getD k 0<B:=by
 rw[List.getD_eq_getElem?_getD]
 cases e:l[k]? with
 |none=>exact hB
 |some x=>exact h x (List.mem_of_getElem? e)
theorem val_div {B:Nat}:∀{l:List Nat} (k:Nat),(∀x∈l,x<B)→valB B l/B^k=valB B (l.drop k)
 |l,0,_=>by simp
 |[],k+1,_=>by simp[valB]
 |x::l,k+1,h=>by
  have hx:=h x (List.mem_cons_self ..)
  have ih:=val_div k fun y hy=>h y (List.mem_cons_of_mem _ hy)
  rw[valB,Nat.pow_succ,Nat.mul_comm (B^k) B,←Nat.div_div_eq_div_mul,Nat.add_mul_div_left _ _ (by omega),Nat.div_eq_of_lt hx,Nat.zero_add,ih,List.drop_succ_cons]
theorem val_digit {B:Nat} {l:List Nat} (k:Nat) (h:∀x∈l,x<B):l.getD k 0=valB B l/B^k%B:=by
 rw[val_div k h]
 cases e:l.drop k with
 |nil=>
  have:l.length≤k:=List.drop_eq_nil_iff.1 e
  simp[valB,List.getD_eq_getElem?_getD,List.getElem?_eq_none this]
 |cons y r=>
  have hy:y<B:=h y (List.mem_of_mem_drop (e▸List.mem_cons_self ..))
  rw[valB,Nat.add_mul_mod_self_left,Nat.mod_eq_of_lt hy]
  have h0:(l.drop k)[0]?=some y:=by rw[e];rfl
  rw[List.getElem?_drop,Nat.add_zero]at h0
  rw[List.getD_eq_getElem?_getD,h0]
  rfl
theorem val_set (B:Nat):∀(l:List Nat) (k v:Nat),k<l.length→valB B (l.set k v)+l.getD k 0*B^k=valB B l+v*B^k
 |[],k,v,h=>by simp at h
 |x::l,0,v,_=>by simp[valB];omega
 |x::l,k+1,v,h=>by
  have ih:=val_set B l k v (by simpa using h)
  rw[List.set_cons_succ,valB,valB,List.getD_cons_succ,Nat.pow_succ]
  grind
def padd (B:Nat):Nat→Nat→List Nat
 |0,_=>[]
 |k+1,n=>n%B::padd B k (n/B)
theorem padd_len (B:Nat):∀k n,(padd B k n).length=k
 |0,_=>rfl
 |k+1,n=>by rw[padd,List.length_cons,padd_len B k]
theorem padd_lt {B:Nat} (hB:0<B):∀k n,∀x∈padd B k n,x<B
 |0,_,x,h=>by cases h
 |k+1,n,x,h=>by
  rw[padd]at h
  rcases List.mem_cons.1 h with rfl|h
  ·exact Nat.mod_lt _ hB
  ·exact padd_lt hB k _ x h
theorem val_padd (B:Nat):∀k n,valB B (padd B k n)=n%B^k
 |0,n=>by simp[padd,valB,Nat.mod_one]
 |k+1,n=>by
  rw[padd,valB,val_padd B k,Nat.pow_succ,Nat.mul_comm (B^k) B,Nat.mod_mul]
theorem padd_val {B:Nat}:∀{l:List Nat},(∀x∈l,x<B)→padd B l.length (valB B l)=l
 |[],_=>rfl
 |x::l,h=>by
  have hx:=h x (List.mem_cons_self ..)
  rw[List.length_cons,valB,padd,Nat.add_mul_mod_self_left,Nat.mod_eq_of_lt hx,Nat.add_mul_div_left _ _ (by omega),Nat.div_eq_of_lt hx,Nat.zero_add,padd_val fun y hy=>h y (List.mem_cons_of_mem _ hy)]
theorem padd_eq {B k n:Nat} {l:List Nat} (h:∀x∈l,x<B) (hl:l.length=k) (hv:valB B l=n):l=padd B k n:=by
 rw[←hl,←hv,padd_val h]
theorem lt_of_len {B a b:Nat} (hB:2≤B) (h:(digs B a).length<(digs B b).length):a<b:=by
 rcases Nat.lt_or_ge a b with x|x
 ·exact x
 ·have h1:a<B^(digs B a).length:=(digs_len hB).1 (Nat.le_refl _)
  have h2:(digs B b).length≤(digs B a).length:=(digs_len hB).2 (by omega)
  omega
theorem val_lt_at {B k:Nat} {a b:List Nat} (ha:∀x∈a,x<B) (hl:a.length=b.length) (hk:k<a.length) (hd:a.drop (k+1)=b.drop (k+1)) (h:a.getD k 0<b.getD k 0):valB B a<valB B b:=by
 have e1:=val_take_drop B a (k+1) hk
 have e2:=val_take_drop B b (k+1) (by omega)
 rw[val_take_succ]at e1 e2
 have hlt:=val_lt (all_take ha k)
 rw[List.length_take,Nat.min_eq_left (by omega)]at hlt
 have h3:(a.getD k 0+1)*B^k≤b.getD k 0*B^k:=Nat.mul_le_mul_right _ h
 rw[Nat.add_mul,Nat.one_mul]at h3
 rw[e1,e2,hd]
 omega
theorem add_step {B P V c A a E b:Nat} (h:V+c*P=A+E):V+(c+a+b)%B*P+(c+a+b)/B*(P*B)=(A+a*P)+(E+b*P):=by
 have:=Nat.mod_add_div (c+a+b) B
 generalize (c+a+b)%B=d at*
 generalize (c+a+b)/B=e at*
 grind
theorem kd_first {q U V P u' v' B top u2 v1 v2:Nat} (hU:U=(top*B+u2)*P+u') (hV:V=(v1*B+v2)*P+v') (hu:u'<P) (hu2:u2<B) (h:q*V≤U):q*v1≤top:=by
 rcases Nat.lt_or_ge top (q*v1)with x|x
 ·exfalso
  have h1:(top+1)*(B*P)≤q*v1*(B*P):=Nat.mul_le_mul_right _ x
  have h0:v1*(B*P)≤V:=by
   rw[hV,Nat.add_mul,Nat.mul_assoc]
   omega
  have h2:q*(v1*(B*P))≤q*V:=Nat.mul_le_mul_left _ h0
  have h3:U<(top+1)*(B*P):=by
   have h4:(u2+1)*P≤B*P:=Nat.mul_le_mul_right _ hu2
   rw[hU]
   rw[Nat.add_mul,Nat.one_mul]at h4
   rw[Nat.add_mul,Nat.add_mul,Nat.one_mul,Nat.mul_assoc]
   omega
  rw[Nat.mul_assoc]at h1
  omega
 ·exact x
theorem kd_dec {q x U V P u' v' T W:Nat} (hU:U=T*P+u') (hV:V=W*P+v') (hu:u'<P) (h:q*V≤U) (hx:T<x*W):q<x:=by
 rcases Nat.lt_or_ge q x with y|y
 ·exact y
 ·exfalso
  have h1:(T+1)*P≤x*W*P:=Nat.mul_le_mul_right _ hx
  have h2:x*(W*P)≤q*V:=Nat.mul_le_mul y (by omega)
  rw[Nat.mul_assoc,Nat.add_mul,Nat.one_mul]at h1
  omega
theorem kd_up {q x U V P u' v' T W B:Nat} (hU:U=T*P+u') (hV:V=W*P+v') (hv:v'<P) (hVB:B*P≤V) (h:U<(q+1)*V) (hx:x*W≤T) (hxB:x<B):x≤q+1:=by
 rcases Nat.lt_or_ge (q+1) x with y|y
 ·exfalso
  have h1:x*W*P≤T*P:=Nat.mul_le_mul_right _ hx
  have h2:(q+2)*V≤x*V:=Nat.mul_le_mul_right _ y
  have h3:x*v'≤B*P:=Nat.mul_le_mul (by omega) (by omega)
  have h4:x*V=x*W*P+x*v':=by rw[hV,Nat.mul_add,Nat.mul_assoc]
  have h5:(q+2)*V=(q+1)*V+V:=by rw[show q+2=q+1+1 from rfl,Nat.add_mul (q+1) 1,Nat.one_mul]
  omega
 ·exact y
theorem kd_break {x top r v1 v2 u2 B:Nat} (ht:top=x*v1+r) (hr:B≤r) (hx:x<B) (hv:v2<B):x*(v1*B+v2)≤top*B+u2:=by
 have h1:x*v2≤B*B:=Nat.mul_le_mul (by omega) (by omega)
 have h2:B*B≤r*B:=Nat.mul_le_mul_right _ hr
 have h3:x*(v1*B+v2)=x*v1*B+x*v2:=by rw[Nat.mul_add,Nat.mul_assoc]
 rw[ht,Nat.add_mul,h3]
 omega
theorem off_step {P q c bo x VU VN VV B ui lo y bo' c':Nat} (h:VU+(c+bo)*P=VN+q*VV) (h1:c+q*x=lo+B*c') (h2:ui+bo'*B=y+lo+bo):VU+ui*P+(c'+bo')*(P*B)=VN+y*P+q*(VV+x*P):=by
 grind
end Go.Ab
namespace Go.Ab
def B32:Nat:=4294967296
theorem B32_two:2≤B32:=by decide
structure IntR where
 neg:Bool
 mag:List Nat
deriving Inhabited
def IntR.z (x:IntR):Int:=if x.neg then -(valB B32 x.mag:Int) else valB B32 x.mag
def intC (z:Int):IntR:=⟨decide (z<0),digs B32 z.natAbs⟩
theorem intC_z (z:Int):(intC z).z=z:=by
 unfold IntR.z intC
 simp only[val_digs B32_two,decide_eq_true_eq]
 split<;>omega
theorem IntR.abs (x:IntR):x.z.natAbs=valB B32 x.mag:=by
 unfold IntR.z
 split<;>simp
structure RatR where
 n:IntR
 d:IntR
deriving Inhabited
def RatR.q (x:RatR):Rat:=Rat.divInt x.n.z (if x.d.z=0 then 1 else x.d.z)
def ratC (q:Rat):RatR:=⟨intC q.num,intC q.den⟩
theorem ratC_q (q:Rat):(ratC q).q=q:=by
 unfold RatR.q ratC
 have h:(q.den:Int)≠0:=by have:=q.den_nz;omega
 simp only[intC_z,if_neg h]
 exact Rat.num_divInt_den q
theorem rat_short {n d:Int} (hd:d≠0) (s:Int) (hs:s=if d<0 then -(Nat.gcd n.natAbs d.natAbs:Int) else Nat.gcd n.natAbs d.natAbs):
  s∣n∧s∣d∧n.tdiv s=(Rat.divInt n d).num∧d.tdiv s=(Rat.divInt n d).den:=by
 have hg1:(Nat.gcd n.natAbs d.natAbs:Int)∣n:=Int.ofNat_dvd_left.2 (Nat.gcd_dvd_left ..)
 have hg2:(Nat.gcd n.natAbs d.natAbs:Int)∣d:=Int.ofNat_dvd_left.2 (Nat.gcd_dvd_right ..)
 have hg0:Nat.gcd n.natAbs d.natAbs≠0:=fun h=>by
  have:=(Nat.gcd_eq_zero_iff.1 h).2
  omega
 have e:(Int.gcd d n)=Nat.gcd n.natAbs d.natAbs:=by rw[Int.gcd,Nat.gcd_comm]
 have hn:=Rat.num_divInt n d
 have hdn:=Rat.den_divInt n d
 rw[e]at hn hdn
 rw[if_neg hd]at hdn
 generalize Nat.gcd n.natAbs d.natAbs=g at*
 by_cases hneg:d<0
 ·rw[if_pos hneg]at hs
  subst hs
  rw[Int.sign_eq_neg_one_of_neg hneg]at hn
  refine⟨Int.neg_dvd.2 hg1,Int.neg_dvd.2 hg2,?_,?_⟩
  ·rw[hn,Int.tdiv_neg,Int.tdiv_eq_ediv_of_dvd hg1,←Int.neg_ediv_of_dvd hg1]
   congr 1
   omega
  ·rw[hdn,Int.tdiv_neg,Int.tdiv_eq_ediv_of_dvd hg2,←Int.neg_ediv_of_dvd hg2]
   have: -d=(d.natAbs:Int):=by omega
   rw[this,Int.natCast_ediv]
 ·rw[if_neg hneg]at hs
  subst hs
  rw[Int.sign_eq_one_of_pos (by omega)]at hn
  refine⟨hg1,hg2,?_,?_⟩
  ·rw[hn,Int.tdiv_eq_ediv_of_dvd hg1,Int.one_mul]
  ·rw[hdn,Int.tdiv_eq_ediv_of_dvd hg2]
   have:d=(d.natAbs:Int):=by omega
   rw[Int.natCast_ediv,←this]
theorem rat_add (a b:Rat):Rat.divInt (a.num*b.den+b.num*a.den) (a.den*b.den)=a+b:=by
 have ha:(a.den:Int)≠0:=by have:=a.den_nz;omega
 have hb:(b.den:Int)≠0:=by have:=b.den_nz;omega
 rw[←Rat.divInt_add_divInt _ _ ha hb,Rat.num_divInt_den,Rat.num_divInt_den]
theorem rat_mul (a b:Rat):Rat.divInt (a.num*b.num) (a.den*b.den)=a*b:=by
 rw[←Rat.divInt_mul_divInt,Rat.num_divInt_den,Rat.num_divInt_den]
end Go.Ab
namespace Go.Ab
theorem val_part (B:Nat) (us:List Nat) (k m:Nat) (h:k+m≤us.length):valB B us=valB B (us.take k)+B^k*(valB B ((us.drop k).take m)+B^m*valB B (us.drop (k+m))):=by
 rw[val_take_drop B us k (by omega),val_take_drop B (us.drop k) m (by rw[List.length_drop];omega),List.drop_drop]
theorem val_over (B:Nat) (us p:List Nat) (k:Nat) (h:k+p.length≤us.length):valB B (us.take k++p++us.drop (k+p.length))=valB B (us.take k)+B^k*(valB B p+B^p.length*valB B (us.drop (k+p.length))):=by
 rw[List.append_assoc,val_append,val_append,List.length_take,Nat.min_eq_left (by omega)]
theorem drop_zero {B:Nat} {us:List Nat} {j:Nat} (ha:∀x∈us,x<B) (h:valB B us<B^j):valB B (us.drop j)=0:=by
 rw[←val_div j ha]
 exact Nat.div_eq_of_lt h
theorem div_round {B V U0 Q k x r u:Nat} (h:u+Q*B^(k+1)*V=U0) (hx:u=x*V*B^k+r):r+(x+B*Q)*B^k*V=U0:=by
 rw[Nat.pow_succ]at h
 grind
theorem kara (a0 a1 b0 b1 P low high mid:Nat) (h1:low=a0*b0) (h2:high=a1*b1) (h3:mid+low+high=(a0+a1)*(b0+b1)):low+mid*P+high*(P*P)=(a0+P*a1)*(b0+P*b1):=by
 have:mid=a0*b1+a1*b0:=by grind
 subst this
 subst h1
 subst h2
 grind
theorem shift_div {a b s:Nat} (hs:0<s):a*s/(b*s)=a/b∧a*s%(b*s)/s=a%b:=by
 refine⟨Nat.mul_div_mul_right a b hs,?_⟩
 rw[Nat.mul_mod_mul_right,Nat.mul_div_cancel _ hs]
theorem div_law {a b q r:Nat} (h:r+q*b=a) (hr:r<b):q=a/b∧r=a%b:=by
 have h1:a=b*q+r:=by rw[←h,Nat.mul_comm];omega
 refine⟨?_,?_⟩
 ·rw[h1,Nat.mul_add_div (by omega),Nat.div_eq_of_lt hr,Nat.add_zero]
 ·rw[h1,Nat.mul_add_mod,Nat.mod_eq_of_lt hr]
theorem val_drop_succ (B:Nat) (l:List Nat) (k:Nat):valB B (l.drop k)=l.getD k 0+B*valB B (l.drop (k+1)):=by
 by_cases h:k<l.length
 ·rw[List.drop_eq_getElem_cons h,valB,List.getD_eq_getElem?_getD,List.getElem?_eq_getElem h]
  rfl
 ·rw[List.drop_eq_nil_of_le (by omega),List.drop_eq_nil_of_le (by omega),List.getD_eq_getElem?_getD,List.getElem?_eq_none (by omega)]
  simp[valB]
theorem by_step {B D Q n r d:Nat} (h:D=n*Q+r):d+B*D=n*((r*B+d)/n+B*Q)+(r*B+d)%n:=by
 have:=Nat.div_add_mod (r*B+d) n
 generalize (r*B+d)/n=x at*
 generalize (r*B+d)%n=y at*
 subst h
 grind
theorem trim_step {B m V:Nat} {l:List Nat} (h:l.getD m 0=0) (hv:valB B (l.take (m+1))=V):valB B (l.take m)=V:=by
 rw[val_take_succ,h,Nat.zero_mul,Nat.add_zero]at hv
 exact hv
theorem trim_done {B m:Nat} (hB:2≤B) {l:List Nat} (ha:∀x∈l,x<B) (hm:m≤l.length) (hv:valB B (l.take m)=valB B l) (h:m=0∨l.getD (m-1) 0≠0):l.take m=digs B (valB B l):=by
 rw[←hv]
 refine(digs_val hB (all_take ha m) fun hne=>?_).symm
 have hm0:m≠0:=fun e=>hne (by rw[e,List.take_zero])
 have hl:(l.take m).length=m:=by rw[List.length_take];omega
 rw[List.getLast_eq_getElem]
 have h2:=h.resolve_left hm0
 rw[List.getD_eq_getElem?_getD,List.getElem?_eq_getElem (by omega)]at h2
 rw[List.getElem_take]
 simpa [hl]using h2
theorem digs_snoc {B n m:Nat} {out:List Nat} (hB:2≤B) (h:out++digs B n=digs B m) (hn:n≠0):(out++[n%B])++digs B (n/B)=digs B m:=by
 rw[←h,digs_pos hB hn]
 simp
end Go.Ab
