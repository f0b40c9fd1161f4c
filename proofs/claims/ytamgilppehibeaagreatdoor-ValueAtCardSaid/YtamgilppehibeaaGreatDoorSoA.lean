/-
  Plain law of the stable sort (slices.SortStableFunc): swaps, insertion, rotation, the merge in place.
-/
namespace Go.Ab
section
variable {α:Type}
structure SW (lt:α→α→Bool):Prop where
 asymm:∀a b,lt a b=true→lt b a=false
 trans:∀a b c,lt a b=false→lt b c=false→lt a c=false
def leB (lt:α→α→Bool) (a b:α):Prop:=lt b a=false
variable [Inhabited α]
def Srt (lt:α→α→Bool) (xs:List α) (a b:Nat):Prop:=∀i j,a≤i→i<j→j<b→leB lt (xs.getD i default) (xs.getD j default)
structure Same (xs ys:List α) (a b:Nat):Prop where
 len:ys.length=xs.length
 out:∀i,(i<a∨b≤i)→ys.getD i default=xs.getD i default
 perm:ys.Perm xs
 mem:∀i,a≤i→i<b→∃j,a≤j∧j<b∧ys.getD i default=xs.getD j default
def swapL (xs:List α) (i j:Nat):List α:=(xs.set i (xs.getD j default)).set j (xs.getD i default)
def Hole (lt:α→α→Bool) (xs:List α) (a i j:Nat):Prop:=∀p q,a≤p→p<q→q≤i→q≠j→leB lt (xs.getD p default) (xs.getD q default)
def swapN (xs:List α) (a b:Nat):Nat→List α
 |0=>xs
 |n+1=>swapL (swapN xs a b n) (a+n) (b+n)
structure Rot (xs ys:List α) (a m b:Nat):Prop where
 same:Same xs ys a b
 fst:∀t,t<b-m→ys.getD (a+t) default=xs.getD (m+t) default
 snd:∀t,t<m-a→ys.getD (a+(b-m)+t) default=xs.getD (a+t) default
structure RotI (zs ys:List α) (m i j:Nat):Prop where
 ex:∃x u v y:List α,ys=x++(u++(v++y))∧zs=x++(v++(u++y))∧u.length=i∧v.length=j∧x.length+i=m
omit [Inhabited α] in
def rotL (xs:List α) (s m e:Nat):List α:=xs.take s++((xs.drop m).take (e-m)++((xs.drop s).take (m-s)++xs.drop e))
omit [Inhabited α] in
end
end Go.Ab
namespace Go.Ab
section
variable {α:Type} [Inhabited α]
structure Turned (xs ys:List α) (a m b s:Nat):Prop where
 x1:∀k,a≤k→k<s→ys.getD k default=xs.getD k default
 x2:∀k,s≤k→k<(a+b)/2→ys.getD k default=xs.getD (m+(k-s)) default
 x3:∀k,(a+b)/2≤k→k<(a+b)/2+m-s→ys.getD k default=xs.getD (s+(k-(a+b)/2)) default
 x4:∀k,(a+b)/2+m-s≤k→k<b→ys.getD k default=xs.getD k default
end
end Go.Ab
namespace Go.Ab
section
variable {α:Type} [Inhabited α]
structure Up (xs ys:List α) (a k b:Nat):Prop where
 same:Same xs ys a b
 lo:∀t,a≤t→t<k→ys.getD t default=xs.getD (t+1) default
 mid:ys.getD k default=xs.getD a default
 hi:∀t,k<t→ys.getD t default=xs.getD t default
structure Dn (xs ys:List α) (a m k b:Nat):Prop where
 same:Same xs ys a b
 hi:∀t,k<t→t≤m→ys.getD t default=xs.getD (t-1) default
 mid:ys.getD k default=xs.getD m default
 lo:∀t,t<k→ys.getD t default=xs.getD t default
end
end Go.Ab
namespace Go.Ab
section
variable {α:Type} [Inhabited α]
def Blk (lt:α→α→Bool) (xs:List α) (B lo hi n:Nat):Prop:=∀p,B∣p→lo≤p→p<hi→Srt lt xs p (min (p+B) n)
end
end Go.Ab
