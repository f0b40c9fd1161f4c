/-
  Decimal digits (the document's numbers), whole and rational numbers of bounded size: plain law.
-/
import Derived.Test.YtamgilppehibeaaGreatDoorBnM
namespace Go.Ab
theorem ten_two:2≤10:=by decide
structure DecOk (k:Nat) (a:List Nat):Prop where
 lt:∀x∈a,x<10
 len:a.length≤k
theorem DecOk.mono {k m:Nat} {a:List Nat} (h:DecOk k a) (hk:k≤m):DecOk m a:=⟨h.lt,Nat.le_trans h.len hk⟩
theorem DecOk.getD {k:Nat} {a:List Nat} (h:DecOk k a) (i:Nat):a.getD i 0<10:=getD_lt (by decide) h.lt i
theorem DecOk.digs {k n:Nat} (h:n<10^k):DecOk k (digs 10 n):=⟨digs_lt ten_two n,(digs_len ten_two).2 h⟩
theorem b32_dec {n k:Nat} (h:n<B32^k):n<10^(10*k):=by
 rw[Nat.pow_mul]
 exact Nat.lt_of_lt_of_le h (Nat.pow_le_pow_left (by decide) k)
theorem DecOk.of {n k m:Nat} (h:n<B32^k) (hk:10*k≤m):DecOk m (Go.Ab.digs 10 n):=(DecOk.digs (b32_dec h)).mono hk
theorem dm_step {B D b Q r d q s:Nat} (h:D=b*Q+r) (hs:s+q*b=d+B*r):d+B*D=b*(q+B*Q)+s:=by
 grind
theorem limb_cut (m:Nat):m/65536%65536*65536+m%65536=m%B32∧m/65536/65536=m/B32:=by
 unfold B32
 omega
theorem topB_set {xs qs:List Nat} {m d:Nat} (h:m<xs.length):(xs.take (m+1)++qs).set m d=xs.take m++d::qs:=by
 rw[List.take_succ_eq_append_getElem h,List.append_assoc,List.singleton_append,List.set_append_right _ _ (by rw[List.length_take];omega),List.length_take,Nat.min_eq_left (by omega),Nat.sub_self,List.set_cons_zero]
def ZOk (k:Nat) (z:Int):Prop:=z.natAbs<B32^k
theorem b32_le {a b:Nat} (h:a≤b):B32^a≤B32^b:=Nat.pow_le_pow_right (by decide) h
theorem b32_pos (a:Nat):0<B32^a:=Nat.pow_pos (by decide)
theorem ZOk.mono {k m:Nat} {z:Int} (h:ZOk k z) (hk:k≤m):ZOk m z:=Nat.lt_of_lt_of_le h (b32_le hk)
theorem ZOk.neg {k:Nat} {z:Int} (h:ZOk k z):ZOk k (-z):=by unfold ZOk;rw[Int.natAbs_neg];exact h
theorem ZOk.add1 {k:Nat} {x y:Int} (hx:ZOk k x) (hy:ZOk k y):ZOk (k+1) (x+y):=by
 unfold ZOk at*
 rw[Nat.pow_succ]
 have h3:B32^k*2≤B32^k*B32:=Nat.mul_le_mul_left _ (by decide)
 omega
theorem ZOk.mul {k m:Nat} {x y:Int} (hx:ZOk k x) (hy:ZOk m y):ZOk (k+m) (x*y):=by
 unfold ZOk at*
 rw[Int.natAbs_mul,Nat.pow_add]
 exact Nat.mul_lt_mul'' hx hy
theorem ZOk.nat {k n:Nat} (h:n<B32^k):ZOk k (n:Int):=h
theorem ZOk.small {z:Int} (h:z.natAbs<4294967296):ZOk 1 z:=by unfold ZOk B32;omega
structure QOk (k:Nat) (q:Rat):Prop where
 n:ZOk k q.num
 d:q.den<B32^k
theorem QOk.mono {k m:Nat} {q:Rat} (h:QOk k q) (hk:k≤m):QOk m q:=⟨h.n.mono hk,Nat.lt_of_lt_of_le h.d (b32_le hk)⟩
theorem divInt_le {n d:Int} (hd:d≠0):(Rat.divInt n d).num.natAbs≤n.natAbs∧(Rat.divInt n d).den≤d.natAbs:=by
 obtain⟨h1,h2,h3,h4⟩:=rat_short hd (n:=n) _ rfl
 generalize (if d<0 then -(Nat.gcd n.natAbs d.natAbs:Int) else Nat.gcd n.natAbs d.natAbs)=s at*
 refine⟨?_,?_⟩
 ·rw[←h3,Int.natAbs_tdiv]
  exact Nat.div_le_self _ _
 ·have:((Rat.divInt n d).den:Int).natAbs≤d.natAbs:=by
   rw[←h4,Int.natAbs_tdiv]
   exact Nat.div_le_self _ _
  simpa using this
theorem QOk.div {k:Nat} {n d:Int} (hd:d≠0) (hn:ZOk k n) (hk:ZOk k d):QOk k (Rat.divInt n d):=by
 obtain⟨h1,h2⟩:=divInt_le hd (n:=n)
 exact⟨Nat.lt_of_le_of_lt h1 hn,Nat.lt_of_le_of_lt h2 hk⟩
theorem QOk.add {k m:Nat} {x y:Rat} (hx:QOk k x) (hy:QOk m y):QOk (k+m+1) (x+y):=by
 have ha:(x.den:Int)≠0:=by have:=x.den_nz;omega
 have hb:(y.den:Int)≠0:=by have:=y.den_nz;omega
 rw[←rat_add]
 refine .div (Int.mul_ne_zero ha hb) ?_ ?_
 ·refine ZOk.add1 (k:=k+m) (hx.n.mul (.nat hy.d)) ?_
  rw[Nat.add_comm]
  exact hy.n.mul (.nat hx.d)
 ·exact(ZOk.mul (k:=k) (m:=m) (.nat hx.d) (.nat hy.d)).mono (by omega)
theorem QOk.mul {k m:Nat} {x y:Rat} (hx:QOk k x) (hy:QOk m y):QOk (k+m) (x*y):=by
 have ha:(x.den:Int)≠0:=by have:=x.den_nz;omega
 have hb:(y.den:Int)≠0:=by have:=y.den_nz;omega
 rw[←rat_mul]
 exact .div (Int.mul_ne_zero ha hb) (hx.n.mul hy.n) (ZOk.mul (k:=k) (m:=m) (.nat hx.d) (.nat hy.d))
theorem QOk.neg {k:Nat} {x:Rat} (hx:QOk k x):QOk k (-x):=⟨hx.n.neg,hx.d⟩
theorem QOk.int {k:Nat} {z:Int} (h:ZOk (k+1) z):QOk (k+1) (z:Rat):=⟨h,by
 show 1<B32^(k+1)
 exact Nat.lt_of_lt_of_le (show 1<B32^1 by decide) (b32_le (by omega))⟩
end Go.Ab
