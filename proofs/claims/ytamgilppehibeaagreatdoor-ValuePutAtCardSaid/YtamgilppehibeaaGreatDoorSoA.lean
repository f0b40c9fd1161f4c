/-
  Plain law of the stable sort (slices.SortStableFunc): swaps, insertion, rotation, the merge in place.
-/
namespace Go.Ab
section
variable {α:Type}
structure SW (lt:α→α→Bool):Prop where
 asymm:∀a b,lt a b=true→lt b a=false
 trans:∀a b c,lt a b=false→lt b c=false→lt a c=false
def leB (lt:α→α→Bool) (a b:α):Prop:=lt b a=false
theorem SW.le_refl {lt:α→α→Bool} (h:SW lt) (a:α):leB lt a a:=by
 unfold leB
 cases e:lt a a with
 |false=>rfl
 |true=>exact(e.symm.trans (h.asymm a a e))
theorem SW.le_trans {lt:α→α→Bool} (h:SW lt) {a b c:α} (h1:leB lt a b) (h2:leB lt b c):leB lt a c:=h.trans c b a h2 h1
theorem SW.le_of_lt {lt:α→α→Bool} (h:SW lt) {a b:α} (e:lt a b=true):leB lt a b:=h.asymm a b e
variable [Inhabited α]
def Srt (lt:α→α→Bool) (xs:List α) (a b:Nat):Prop:=∀i j,a≤i→i<j→j<b→leB lt (xs.getD i default) (xs.getD j default)
structure Same (xs ys:List α) (a b:Nat):Prop where
 len:ys.length=xs.length
 out:∀i,(i<a∨b≤i)→ys.getD i default=xs.getD i default
 perm:ys.Perm xs
 mem:∀i,a≤i→i<b→∃j,a≤j∧j<b∧ys.getD i default=xs.getD j default
theorem Same.refl (xs:List α) (a b:Nat):Same xs xs a b:=⟨rfl,fun _ _=>rfl,List.Perm.refl _,fun i h1 h2=>⟨i,h1,h2,rfl⟩⟩
theorem Same.trans {xs ys zs:List α} {a b:Nat} (h:Same xs ys a b) (k:Same ys zs a b):Same xs zs a b:=
 ⟨k.len.trans h.len,fun i hi=>(k.out i hi).trans (h.out i hi),k.perm.trans h.perm,fun i h1 h2=>by
   obtain⟨j,j1,j2,e⟩:=k.mem i h1 h2
   obtain⟨l,l1,l2,e2⟩:=h.mem j j1 j2
   exact⟨l,l1,l2,e.trans e2⟩⟩
theorem Same.wide {xs ys:List α} {a b a' b':Nat} (h:Same xs ys a b) (ha:a'≤a) (hb:b≤b'):Same xs ys a' b':=
 ⟨h.len,fun i hi=>h.out i (by omega),h.perm,fun i h1 h2=>by
   by_cases e:a≤i∧i<b
   ·obtain⟨j,j1,j2,e2⟩:=h.mem i e.1 e.2
    exact⟨j,by omega,by omega,e2⟩
   ·exact⟨i,h1,h2,h.out i (by omega)⟩⟩
def swapL (xs:List α) (i j:Nat):List α:=(xs.set i (xs.getD j default)).set j (xs.getD i default)
theorem swapL_len (xs:List α) (i j:Nat):(swapL xs i j).length=xs.length:=by simp[swapL]
theorem swapL_get {xs:List α} {i j:Nat} (hi:i<xs.length) (hj:j<xs.length) (k:Nat):
  (swapL xs i j).getD k default=if k=j then xs.getD i default else if k=i then xs.getD j default else xs.getD k default:=by
 unfold swapL
 simp only[List.getD_eq_getElem?_getD]
 by_cases e:k=j
 ·subst e
  rw[if_pos rfl,List.getElem?_set_self (by simpa using hj)]
  rfl
 ·rw[if_neg e,List.getElem?_set_ne (fun h=>e h.symm)]
  by_cases e2:k=i
  ·subst e2
   rw[if_pos rfl,List.getElem?_set_self hi]
   rfl
  ·rw[if_neg e2,List.getElem?_set_ne (fun h=>e2 h.symm)]
theorem swapL_perm {xs:List α} {i j:Nat} (hi:i<xs.length) (hj:j<xs.length):(swapL xs i j).Perm xs:=by
 unfold swapL
 have e1:xs.getD j default=xs[j]:=by rw[List.getD_eq_getElem?_getD,List.getElem?_eq_getElem hj];rfl
 have e2:xs.getD i default=xs[i]:=by rw[List.getD_eq_getElem?_getD,List.getElem?_eq_getElem hi];rfl
 rw[e1,e2]
 exact List.set_set_perm hi hj
theorem swapL_same {xs:List α} {i j a b:Nat} (hi:a≤i∧i<b) (hj:a≤j∧j<b) (hb:b≤xs.length):Same xs (swapL xs i j) a b:=by
 have g:=swapL_get (xs:=xs) (i:=i) (j:=j) (by omega) (by omega)
 refine⟨swapL_len xs i j,fun k hk=>?_,swapL_perm (by omega) (by omega),fun k h1 h2=>?_⟩
 ·rw[g,if_neg (by omega),if_neg (by omega)]
 ·rw[g]
  by_cases e:k=j
  ·exact⟨i,hi.1,hi.2,if_pos e⟩
  ·by_cases e2:k=i
   ·exact⟨j,hj.1,hj.2,by rw[if_neg e,if_pos e2]⟩
   ·exact⟨k,h1,h2,by rw[if_neg e,if_neg e2]⟩
def Hole (lt:α→α→Bool) (xs:List α) (a i j:Nat):Prop:=∀p q,a≤p→p<q→q≤i→q≠j→leB lt (xs.getD p default) (xs.getD q default)
theorem hole_start {lt:α→α→Bool} {xs:List α} {a i:Nat} (h:Srt lt xs a i):Hole lt xs a i i:=fun p q h1 h2 h3 h4=>h p q h1 h2 (by omega)
theorem hole_done {lt:α→α→Bool} (sw:SW lt) {xs:List α} {a i j:Nat} (h:Hole lt xs a i j) (hj:j≤i) (e:j=a∨(a<j∧lt (xs.getD j default) (xs.getD (j-1) default)=false)):Srt lt xs a (i+1):=by
 intro p q h1 h2 h3
 by_cases hq:q=j
 ·subst hq
  rcases e with e|⟨e1,e2⟩
  ·omega
  ·by_cases hp:p=q-1
   ·subst hp
    exact e2
   ·exact sw.le_trans (h p (q-1) h1 (by omega) (by omega) (by omega)) e2
 ·exact h p q h1 h2 (by omega) hq
theorem hole_step {lt:α→α→Bool} (sw:SW lt) {xs:List α} {a i j:Nat} (h:Hole lt xs a i j) (hj:j≤i) (ha:a<j) (hi:i<xs.length) (e:lt (xs.getD j default) (xs.getD (j-1) default)=true):
  Hole lt (swapL xs j (j-1)) a i (j-1):=by
 intro p q h1 h2 h3 h4
 have g:=swapL_get (xs:=xs) (i:=j) (j:=j-1) (by omega) (by omega)
 rw[g p,g q,if_neg (show¬q=j-1 from h4)]
 by_cases hq:q=j
 ·rw[if_pos hq]
  by_cases hp:p=j-1
  ·rw[if_pos hp]
   exact sw.le_of_lt e
  ·rw[if_neg hp,if_neg (by omega)]
   exact h p (j-1) h1 (by omega) (by omega) (by omega)
 ·rw[if_neg hq]
  by_cases hp:p=j-1
  ·rw[if_pos hp]
   exact h j q (by omega) (by omega) h3 hq
  ·rw[if_neg hp]
   by_cases hp2:p=j
   ·rw[if_pos hp2]
    exact h (j-1) q (by omega) (by omega) h3 hq
   ·rw[if_neg hp2]
    exact h p q h1 h2 h3 hq
def swapN (xs:List α) (a b:Nat):Nat→List α
 |0=>xs
 |n+1=>swapL (swapN xs a b n) (a+n) (b+n)
theorem swapN_len (xs:List α) (a b n:Nat):(swapN xs a b n).length=xs.length:=by
 induction n with
 |zero=>rfl
 |succ n ih=>unfold swapN;rw[swapL_len,ih]
theorem swapN_get {xs:List α} {a b:Nat}:∀{n:Nat},a+n≤b→b+n≤xs.length→∀k,
  (swapN xs a b n).getD k default=if a≤k∧k<a+n then xs.getD (b+(k-a)) default else if b≤k∧k<b+n then xs.getD (a+(k-b)) default else xs.getD k default
 |0,_,_,k=>by
  unfold swapN
  rw[if_neg (by omega),if_neg (by omega)]
 |n+1,h1,h2,k=>by
  unfold swapN
  have ih:=swapN_get (xs:=xs) (a:=a) (b:=b) (n:=n) (by omega) (by omega)
  rw[swapL_get (by rw[swapN_len];omega) (by rw[swapN_len];omega),ih,ih,ih]
  rw[if_neg (show¬(a≤a+n∧a+n<a+n) by omega),if_neg (show¬(b≤a+n∧a+n<b+n) by omega),if_neg (show¬(a≤b+n∧b+n<a+n) by omega),if_neg (show¬(b≤b+n∧b+n<b+n) by omega)]
  by_cases e:k=b+n
  ·subst e
   rw[if_pos rfl,if_neg (by omega),if_pos (by omega)]
   congr 1
   omega
  ·rw[if_neg e]
   by_cases e2:k=a+n
   ·subst e2
    rw[if_pos rfl,if_pos (by omega)]
    congr 1
    omega
   ·rw[if_neg e2]
    by_cases e3:a≤k∧k<a+n
    ·rw[if_pos e3,if_pos (by omega)]
    ·rw[if_neg e3,if_neg (show¬(a≤k∧k<a+(n+1)) by omega)]
     by_cases e4:b≤k∧k<b+n
     ·rw[if_pos e4,if_pos (by omega)]
     ·rw[if_neg e4,if_neg (by omega)]
structure Rot (xs ys:List α) (a m b:Nat):Prop where
 same:Same xs ys a b
 fst:∀t,t<b-m→ys.getD (a+t) default=xs.getD (m+t) default
 snd:∀t,t<m-a→ys.getD (a+(b-m)+t) default=xs.getD (a+t) default
structure RotI (zs ys:List α) (m i j:Nat):Prop where
 ex:∃x u v y:List α,ys=x++(u++(v++y))∧zs=x++(v++(u++y))∧u.length=i∧v.length=j∧x.length+i=m
theorem swapN_app {x u w v y:List α} (h:u.length=v.length):swapN (x++(u++(w++(v++y)))) x.length (x.length+u.length+w.length) u.length=x++(v++(w++(u++y))):=by
 have hg:=swapN_get (xs:=x++(u++(w++(v++y)))) (a:=x.length) (b:=x.length+u.length+w.length) (n:=u.length) (by omega) (by simp only[List.length_append];omega)
 refine List.ext_getElem? fun k=>?_
 have hl:=swapN_len (x++(u++(w++(v++y)))) x.length (x.length+u.length+w.length) u.length
 by_cases hk:k<(x++(u++(w++(v++y)))).length
 ·have e:∀l:List α,k<l.length→l[k]?=some (l.getD k default):=fun l h=>by rw[List.getD_eq_getElem?_getD,List.getElem?_eq_getElem h];rfl
  have hk2:k<(x++(v++(w++(u++y)))).length:=by simp only[List.length_append]at hk ⊢;omega
  rw[e _ (by rw[hl];exact hk),e _ hk2,hg]
  congr 1
  simp only[List.getD_eq_getElem?_getD]
  by_cases c1:x.length≤k∧k<x.length+u.length
  ·rw[if_pos c1]
   rw[List.getElem?_append_right (l₁:=x) (by omega),List.getElem?_append_right (l₁:=u) (by omega),List.getElem?_append_right (l₁:=w) (by omega),List.getElem?_append_left (l₁:=v) (by omega),
    List.getElem?_append_right (l₁:=x) (by omega),List.getElem?_append_left (l₁:=v) (by omega)]
   congr 2
   omega
  ·rw[if_neg c1]
   by_cases c2:x.length+u.length+w.length≤k∧k<x.length+u.length+w.length+u.length
   ·rw[if_pos c2]
    rw[List.getElem?_append_right (l₁:=x) (by omega),List.getElem?_append_left (l₁:=u) (by omega),
     List.getElem?_append_right (l₁:=x) (by omega),List.getElem?_append_right (l₁:=v) (by omega),List.getElem?_append_right (l₁:=w) (by omega),List.getElem?_append_left (l₁:=u) (by omega)]
    congr 2
    omega
   ·rw[if_neg c2]
    by_cases c3:k<x.length
    ·rw[List.getElem?_append_left (l₁:=x) c3,List.getElem?_append_left (l₁:=x) c3]
    ·rw[List.getElem?_append_right (l₁:=x) (by omega),List.getElem?_append_right (l₁:=x) (by omega),List.getElem?_append_right (l₁:=u) (by omega),List.getElem?_append_right (l₁:=v) (by omega)]
     by_cases c4:k<x.length+u.length+w.length
     ·rw[List.getElem?_append_left (l₁:=w) (by omega),List.getElem?_append_left (l₁:=w) (by omega),h]
     ·rw[List.getElem?_append_right (l₁:=w) (by omega),List.getElem?_append_right (l₁:=w) (by omega),List.getElem?_append_right (l₁:=v) (by omega),List.getElem?_append_right (l₁:=u) (by omega),h]
 ·rw[List.getElem?_eq_none (by rw[hl];omega),List.getElem?_eq_none (by simp only[List.length_append]at hk ⊢;omega)]
theorem rot_more {zs ys:List α} {m i j:Nat} (h:RotI zs ys m i j) (hj:j<i):RotI zs (swapN ys (m-i) m j) m (i-j) j:=by
 obtain⟨x,u,v,y,rfl,rfl,hu,hv,hx⟩:=h.ex
 have eu:u=u.take j++u.drop j:=(List.take_append_drop j u).symm
 have l1:(u.take j).length=j:=by rw[List.length_take];omega
 have l2:(u.drop j).length=i-j:=by rw[List.length_drop];omega
 have:=swapN_app (x:=x) (u:=u.take j) (w:=u.drop j) (v:=v) (y:=y) (by omega)
 rw[l1,l2,←List.append_assoc (u.take j),←eu,show x.length=m-i by omega,show m-i+j+(i-j)=m by omega]at this
 rw[this]
 have e:x++(v++(u++y))=(x++v)++(u.take j++(u.drop j++y)):=by rw[←List.append_assoc (u.take j),←eu,List.append_assoc]
 exact⟨x++v,u.drop j,u.take j,y,by simp only[List.append_assoc],e,l2,l1,by rw[List.length_append];omega⟩
theorem rot_less {zs ys:List α} {m i j:Nat} (h:RotI zs ys m i j) (hj:i<j):RotI zs (swapN ys (m-i) (m+j-i) i) m i (j-i):=by
 obtain⟨x,u,v,y,rfl,rfl,hu,hv,hx⟩:=h.ex
 have ev:v=v.take (j-i)++v.drop (j-i):=(List.take_append_drop (j-i) v).symm
 have l1:(v.take (j-i)).length=j-i:=by rw[List.length_take];omega
 have l2:(v.drop (j-i)).length=i:=by rw[List.length_drop];omega
 have:=swapN_app (x:=x) (u:=u) (w:=v.take (j-i)) (v:=v.drop (j-i)) (y:=y) (by omega)
 rw[l1,hu,←List.append_assoc (v.take (j-i)),←ev,show x.length=m-i by omega,show m-i+i+(j-i)=m+j-i by omega]at this
 rw[this]
 have e:x++(v++(u++y))=x++(v.take (j-i)++(v.drop (j-i)++(u++y))):=by rw[←List.append_assoc (v.take (j-i)),←ev]
 exact⟨x,v.drop (j-i),v.take (j-i),u++y,rfl,e,l2,l1,by omega⟩
theorem rot_last {zs ys:List α} {m i:Nat} (h:RotI zs ys m i i):swapN ys (m-i) m i=zs:=by
 obtain⟨x,u,v,y,rfl,rfl,hu,hv,hx⟩:=h.ex
 have:=swapN_app (x:=x) (u:=u) (w:=[]) (v:=v) (y:=y) (by omega)
 rw[hu,List.nil_append,List.nil_append,show x.length=m-i by omega,List.length_nil,show m-i+i+0=m by omega]at this
 exact this
omit [Inhabited α] in
theorem RotI.bound {zs ys:List α} {m i j:Nat} (h:RotI zs ys m i j):i≤m∧m+j≤ys.length∧zs.length=ys.length:=by
 obtain⟨x,u,v,y,rfl,rfl,hu,hv,hx⟩:=h.ex
 simp only[List.length_append]
 omega
def rotL (xs:List α) (s m e:Nat):List α:=xs.take s++((xs.drop m).take (e-m)++((xs.drop s).take (m-s)++xs.drop e))
omit [Inhabited α] in
theorem rotL_cut {xs:List α} {s m e:Nat} (h1:s≤m) (h2:m≤e):xs=xs.take s++((xs.drop s).take (m-s)++((xs.drop m).take (e-m)++xs.drop e)):=by
 have e1:(xs.drop m).take (e-m)++xs.drop e=xs.drop m:=by
  have:=List.take_append_drop (e-m) (xs.drop m)
  rw[List.drop_drop,show m+(e-m)=e by omega]at this
  exact this
 have e2:(xs.drop s).take (m-s)++xs.drop m=xs.drop s:=by
  have:=List.take_append_drop (m-s) (xs.drop s)
  rw[List.drop_drop,show s+(m-s)=m by omega]at this
  exact this
 rw[e1,e2,List.take_append_drop]
theorem rotL_start {β:Type} {xs:List β} {s m e:Nat} (h1:s≤m) (h2:m≤e) (h3:e≤xs.length):RotI (rotL xs s m e) xs m (m-s) (e-m):=
 ⟨_,_,_,_,rotL_cut h1 h2,rfl,by rw[List.length_take,List.length_drop];omega,by rw[List.length_take,List.length_drop];omega,by rw[List.length_take];omega⟩
theorem rotL_len {β:Type} {xs:List β} {s m e:Nat} (h1:s≤m) (h2:m≤e) (h3:e≤xs.length):(rotL xs s m e).length=xs.length:=(rotL_start h1 h2 h3).bound.2.2
theorem rotL_get {xs:List α} {s m e:Nat} (h1:s≤m) (h2:m≤e) (h3:e≤xs.length) (k:Nat):
  (rotL xs s m e).getD k default=if k<s then xs.getD k default else if k<s+(e-m) then xs.getD (m+(k-s)) default else if k<e then xs.getD (s+(k-(s+(e-m)))) default else xs.getD k default:=by
 have l1:(xs.take s).length=s:=by rw[List.length_take];omega
 have l2:((xs.drop m).take (e-m)).length=e-m:=by rw[List.length_take,List.length_drop];omega
 have l3:((xs.drop s).take (m-s)).length=m-s:=by rw[List.length_take,List.length_drop];omega
 unfold rotL
 simp only[List.getD_eq_getElem?_getD]
 by_cases c1:k<s
 ·rw[if_pos c1,List.getElem?_append_left (by omega),List.getElem?_take_of_lt c1]
 rw[if_neg c1,List.getElem?_append_right (by omega),l1]
 by_cases c2:k<s+(e-m)
 ·rw[if_pos c2,List.getElem?_append_left (by omega),List.getElem?_take_of_lt (by omega),List.getElem?_drop]
 rw[if_neg c2,List.getElem?_append_right (by omega),l2]
 by_cases c3:k<e
 ·rw[if_pos c3,List.getElem?_append_left (by omega),List.getElem?_take_of_lt (by omega),List.getElem?_drop]
  congr 2
  omega
 rw[if_neg c3,List.getElem?_append_right (by omega),l3,List.getElem?_drop]
 congr 2
 omega
theorem rotL_same {xs:List α} {s m e:Nat} (h1:s≤m) (h2:m≤e) (h3:e≤xs.length):Same xs (rotL xs s m e) s e:=by
 refine⟨rotL_len h1 h2 h3,fun k hk=>?_,?_,fun k k1 k2=>?_⟩
 ·rw[rotL_get h1 h2 h3]
  by_cases c1:k<s
  ·rw[if_pos c1]
  ·rw[if_neg c1,if_neg (by omega),if_neg (by omega)]
 ·conv=>rhs;rw[rotL_cut (xs:=xs) h1 h2]
  unfold rotL
  refine List.Perm.append_left _ ?_
  rw[←List.append_assoc,←List.append_assoc]
  exact List.Perm.append_right _ List.perm_append_comm
 ·rw[rotL_get h1 h2 h3,if_neg (by omega)]
  by_cases c2:k<s+(e-m)
  ·exact⟨m+(k-s),by omega,by omega,by rw[if_pos c2]⟩
  ·exact⟨s+(k-(s+(e-m))),by omega,by omega,by rw[if_neg c2,if_pos k2]⟩
end
end Go.Ab
namespace Go.Ab
section
variable {α:Type} [Inhabited α]
theorem Srt.le {lt:α→α→Bool} (sw:SW lt) {xs:List α} {a b i j:Nat} (h:Srt lt xs a b) (ha:a≤i) (hij:i≤j) (hb:j<b):leB lt (xs.getD i default) (xs.getD j default):=by
 by_cases e:i=j
 ·subst e
  exact sw.le_refl _
 ·exact h i j ha (by omega) hb
theorem Srt.congr {lt:α→α→Bool} {xs ys:List α} {a b:Nat} (h:Srt lt xs a b) (e:∀k,a≤k→k<b→ys.getD k default=xs.getD k default):Srt lt ys a b:=fun i j h1 h2 h3=>by
 rw[e i h1 (by omega),e j (by omega) h3]
 exact h i j h1 h2 h3
theorem Srt.sub {lt:α→α→Bool} {xs:List α} {a b a' b':Nat} (h:Srt lt xs a b) (ha:a≤a') (hb:b'≤b):Srt lt xs a' b':=fun i j h1 h2 h3=>h i j (by omega) h2 (by omega)
theorem merge_first {lt:α→α→Bool} (sw:SW lt) {xs ys:List α} {a b i:Nat} (h:Srt lt xs (a+1) b) (hi:a+1≤i∧i≤b) (lo:i=a+1∨lt (xs.getD (i-1) default) (xs.getD a default)=true)
  (up:i=b∨lt (xs.getD i default) (xs.getD a default)=false) (e1:∀k,a≤k→k<i-1→ys.getD k default=xs.getD (k+1) default) (e2:ys.getD (i-1) default=xs.getD a default) (e3:∀k,i≤k→k<b→ys.getD k default=xs.getD k default):Srt lt ys a b:=by
 intro p q h1 h2 h3
 by_cases hq:q<i-1
 ·rw[e1 p h1 (by omega),e1 q (by omega) hq]
  exact h (p+1) (q+1) (by omega) (by omega) (by omega)
 by_cases hq2:q=i-1
 ·subst hq2
  rw[e2,e1 p h1 h2]
  rcases lo with e|e
  ·omega
  ·exact sw.le_trans (h.le sw (i:=p+1) (j:=i-1) (by omega) (by omega) (by omega)) (sw.le_of_lt e)
 rw[e3 q (by omega) h3]
 by_cases hp:p<i-1
 ·rw[e1 p h1 hp]
  exact h (p+1) q (by omega) (by omega) h3
 by_cases hp2:p=i-1
 ·subst hp2
  rw[e2]
  rcases up with e|e
  ·omega
  ·exact sw.le_trans (b:=xs.getD i default) e (h.le sw (by omega) (by omega) h3)
 rw[e3 p (by omega) (by omega)]
 exact h p q (by omega) h2 h3
theorem merge_last {lt:α→α→Bool} (sw:SW lt) {xs ys:List α} {a m i:Nat} (h:Srt lt xs a m) (hi:a≤i∧i≤m) (lo:i=a∨lt (xs.getD m default) (xs.getD (i-1) default)=false)
  (up:i=m∨lt (xs.getD m default) (xs.getD i default)=true) (e1:∀k,i<k→k<m+1→ys.getD k default=xs.getD (k-1) default) (e2:ys.getD i default=xs.getD m default) (e3:∀k,a≤k→k<i→ys.getD k default=xs.getD k default):Srt lt ys a (m+1):=by
 intro p q h1 h2 h3
 by_cases hp:i<p
 ·rw[e1 p hp (by omega),e1 q (by omega) h3]
  exact h (p-1) (q-1) (by omega) (by omega) (by omega)
 by_cases hp2:p=i
 ·subst hp2
  rw[e2,e1 q h2 h3]
  rcases up with e|e
  ·omega
  ·exact sw.le_trans (sw.le_of_lt e) (h.le sw (by omega) (by omega) (by omega))
 rw[e3 p h1 (by omega)]
 by_cases hq:i<q
 ·rw[e1 q hq h3]
  by_cases e:p=q-1
  ·omega
  ·exact h p (q-1) h1 (by omega) (by omega)
 by_cases hq2:q=i
 ·subst hq2
  rw[e2]
  rcases lo with e|e
  ·omega
  ·exact sw.le_trans (h.le sw (j:=q-1) h1 (by omega) (by omega)) e
 rw[e3 q (by omega) (by omega)]
 exact h p q h1 h2 (by omega)
structure Turned (xs ys:List α) (a m b s:Nat):Prop where
 x1:∀k,a≤k→k<s→ys.getD k default=xs.getD k default
 x2:∀k,s≤k→k<(a+b)/2→ys.getD k default=xs.getD (m+(k-s)) default
 x3:∀k,(a+b)/2≤k→k<(a+b)/2+m-s→ys.getD k default=xs.getD (s+(k-(a+b)/2)) default
 x4:∀k,(a+b)/2+m-s≤k→k<b→ys.getD k default=xs.getD k default
theorem turned_halves {lt:α→α→Bool} (sw:SW lt) {xs ys:List α} {a m b s:Nat} (hm:a<m∧m<b) (h1:Srt lt xs a m) (h2:Srt lt xs m b)
  (hs:(if m>(a+b)/2 then(a+b)/2+m-b else a)≤s∧s≤(if m>(a+b)/2 then(a+b)/2 else m))
  (lo:s=(if m>(a+b)/2 then(a+b)/2+m-b else a)∨lt (xs.getD ((a+b)/2+m-s) default) (xs.getD (s-1) default)=false)
  (up:s=(if m>(a+b)/2 then(a+b)/2 else m)∨lt (xs.getD ((a+b)/2+m-1-s) default) (xs.getD s default)=true)
  (t:Turned xs ys a m b s):
  Srt lt ys a s∧Srt lt ys s ((a+b)/2)∧Srt lt ys ((a+b)/2) ((a+b)/2+m-s)∧Srt lt ys ((a+b)/2+m-s) b∧
  ∀i j,a≤i→i<(a+b)/2→(a+b)/2≤j→j<b→leB lt (ys.getD i default) (ys.getD j default):=by
 obtain⟨x1,x2,x3,x4⟩:=t
 have hmid:2*((a+b)/2)=a+b∨2*((a+b)/2)+1=a+b:=by omega
 generalize (a+b)/2=mid at*
 have b0:a≤s∧s≤m∧s≤mid∧mid+m≤b+s:=by
  split at hs<;>omega
 refine⟨h1.sub (Nat.le_refl _) (by omega) |>.congr x1,fun p q p1 p2 p3=>?_,fun p q p1 p2 p3=>?_,(h2.sub (by omega) (Nat.le_refl _)).congr x4,fun i j i1 i2 j1 j2=>?_⟩
 ·rw[x2 p p1 (by omega),x2 q (by omega) p3]
  exact h2 _ _ (by omega) (by omega) (by omega)
 ·rw[x3 p p1 (by omega),x3 q (by omega) p3]
  exact h1 _ _ (by omega) (by omega) (by omega)
 ·by_cases ci:i<s
  ·rw[x1 i i1 ci]
   by_cases cj:j<mid+m-s
   ·rw[x3 j j1 cj]
    exact h1 _ _ i1 (by omega) (by omega)
   ·rw[x4 j (by omega) j2]
    have hne:lt (xs.getD (mid+m-s) default) (xs.getD (s-1) default)=false:=by
     rcases lo with e|e
     ·split at e<;>omega
     ·exact e
    exact sw.le_trans (h1.le sw (j:=s-1) i1 (by omega) (by omega)) (sw.le_trans (b:=xs.getD (mid+m-s) default) hne (h2.le sw (by omega) (by omega) j2))
  ·rw[x2 i (by omega) i2]
   by_cases cj:j<mid+m-s
   ·rw[x3 j j1 cj]
    have hlt:lt (xs.getD (mid+m-1-s) default) (xs.getD s default)=true:=by
     rcases up with e|e
     ·split at e<;>omega
     ·exact e
    exact sw.le_trans (h2.le sw (j:=mid+m-1-s) (by omega) (by omega) (by omega)) (sw.le_trans (sw.le_of_lt hlt) (h1.le sw (by omega) (by omega) (by omega)))
   ·rw[x4 j (by omega) j2]
    exact h2.le sw (by omega) (by omega) j2
theorem halves_done {lt:α→α→Bool} {ys zs:List α} {a c b:Nat} (h:∀i j,a≤i→i<c→c≤j→j<b→leB lt (ys.getD i default) (ys.getD j default))
  (s1:Srt lt zs a c) (s2:Srt lt zs c b) (m1:∀i,a≤i→i<c→∃j,a≤j∧j<c∧zs.getD i default=ys.getD j default) (m2:∀i,c≤i→i<b→∃j,c≤j∧j<b∧zs.getD i default=ys.getD j default):Srt lt zs a b:=by
 intro p q h1 h2 h3
 by_cases hq:q<c
 ·exact s1 p q h1 h2 hq
 by_cases hp:p<c
 ·obtain⟨i,i1,i2,e1⟩:=m1 p h1 hp
  obtain⟨j,j1,j2,e2⟩:=m2 q (by omega) h3
  rw[e1,e2]
  exact h i j i1 i2 j1 j2
 ·exact s2 p q (by omega) h2 h3
end
end Go.Ab
namespace Go.Ab
section
variable {α:Type} [Inhabited α]
structure Up (xs ys:List α) (a k b:Nat):Prop where
 same:Same xs ys a b
 lo:∀t,a≤t→t<k→ys.getD t default=xs.getD (t+1) default
 mid:ys.getD k default=xs.getD a default
 hi:∀t,k<t→ys.getD t default=xs.getD t default
theorem up_start (xs:List α) (a b:Nat):Up xs xs a a b:=⟨Same.refl _ _ _,fun t h1 h2=>by omega,rfl,fun _ _=>rfl⟩
theorem up_step {xs ys:List α} {a k b:Nat} (h:Up xs ys a k b) (ha:a≤k) (hk:k+1<b) (hb:b≤xs.length):Up xs (swapL ys k (k+1)) a (k+1) b:=by
 have hl:=h.same.len
 have gt:=swapL_get (xs:=ys) (i:=k) (j:=k+1) (by omega) (by omega)
 refine⟨h.same.trans (swapL_same ⟨ha,by omega⟩ ⟨by omega,hk⟩ (by omega)),fun t h1 h2=>?_,?_,fun t h1=>?_⟩
 ·rw[gt,if_neg (by omega)]
  by_cases e:t=k
  ·subst e
   rw[if_pos rfl]
   exact h.hi _ (by omega)
  ·rw[if_neg e]
   exact h.lo t h1 (by omega)
 ·rw[gt,if_pos rfl]
  exact h.mid
 ·rw[gt,if_neg (by omega),if_neg (by omega)]
  exact h.hi t (by omega)
structure Dn (xs ys:List α) (a m k b:Nat):Prop where
 same:Same xs ys a b
 hi:∀t,k<t→t≤m→ys.getD t default=xs.getD (t-1) default
 mid:ys.getD k default=xs.getD m default
 lo:∀t,t<k→ys.getD t default=xs.getD t default
theorem dn_start (xs:List α) (a m b:Nat):Dn xs xs a m m b:=⟨Same.refl _ _ _,fun t h1 h2=>by omega,rfl,fun _ _=>rfl⟩
theorem dn_step {xs ys:List α} {a m k b:Nat} (h:Dn xs ys a m k b) (ha:a<k) (hk:k≤m) (hm:m<b) (hb:b≤xs.length):Dn xs (swapL ys k (k-1)) a m (k-1) b:=by
 have hl:=h.same.len
 have gt:=swapL_get (xs:=ys) (i:=k) (j:=k-1) (by omega) (by omega)
 refine⟨h.same.trans (swapL_same ⟨by omega,by omega⟩ ⟨by omega,by omega⟩ (by omega)),fun t h1 h2=>?_,?_,fun t h1=>?_⟩
 ·rw[gt,if_neg (by omega)]
  by_cases e:t=k
  ·subst e
   rw[if_pos rfl]
   exact h.lo _ (by omega)
  ·rw[if_neg e]
   exact h.hi t (by omega) h2
 ·rw[gt,if_pos rfl]
  exact h.mid
 ·rw[gt,if_neg (by omega),if_neg (by omega)]
  exact h.lo t (by omega)
theorem turned_rot {xs:List α} {a m b s:Nat} (hm:a<m∧m<b) (hb:b≤xs.length) (hs:s≤m∧s≤(a+b)/2∧(a+b)/2+m≤b+s) (_:a≤s):Turned xs (rotL xs s m ((a+b)/2+m-s)) a m b s:=by
 have gt:=rotL_get (xs:=xs) (s:=s) (m:=m) (e:=(a+b)/2+m-s) (by omega) (by omega) (by omega)
 refine⟨fun k h1 h2=>?_,fun k h1 h2=>?_,fun k h1 h2=>?_,fun k h1 h2=>?_⟩
 ·rw[gt,if_pos h2]
 ·rw[gt,if_neg (by omega),if_pos (by omega)]
 ·rw[gt,if_neg (by omega),if_neg (by omega),if_pos (by omega)]
  congr 1
  omega
 ·rw[gt,if_neg (by omega),if_neg (by omega),if_neg (by omega)]
end
end Go.Ab
namespace Go.Ab
section
variable {α:Type} [Inhabited α]
theorem dvd_gap {B p a:Nat} (h1:B∣p) (h2:B∣a) (h:p<a):p+B≤a:=by
 have:=Nat.le_of_dvd (by omega) (Nat.dvd_sub h2 h1)
 omega
def Blk (lt:α→α→Bool) (xs:List α) (B lo hi n:Nat):Prop:=∀p,B∣p→lo≤p→p<hi→Srt lt xs p (min (p+B) n)
theorem blk_none (lt:α→α→Bool) (xs:List α) (B lo n:Nat):Blk lt xs B lo lo n:=fun p _ h1 h2=>by omega
theorem Blk.sub {lt:α→α→Bool} {xs:List α} {B lo hi n hi':Nat} (h:Blk lt xs B lo hi n) (e:hi'≤hi):Blk lt xs B lo hi' n:=fun p d h1 h2=>h p d h1 (by omega)
theorem blk_step {lt:α→α→Bool} {ys zs:List α} {B a e n:Nat} (ha:B∣a) (h:Blk lt ys B 0 a n) (s:Same ys zs a e) (r:Srt lt zs a (min (a+B) n)):Blk lt zs B 0 (a+B) n:=fun p d h1 h2=>by
 by_cases c:p<a
 ·have hg:=dvd_gap d ha c
  exact(h p d h1 c).congr fun k _ k2=>s.out k (.inl (by omega))
 ·by_cases c2:a<p
  ·have hg:=dvd_gap ha d c2
   omega
  ·obtain rfl:p=a:=by omega
   exact r
theorem Blk.out {lt:α→α→Bool} {ys zs:List α} {B a e lo lo' hi n:Nat} (h:Blk lt ys B lo hi n) (s:Same ys zs a e) (h1:e≤lo') (h2:lo≤lo'):Blk lt zs B lo' hi n:=fun p d p1 p2=>
 (h p d (by omega) p2).congr fun k k1 _=>s.out k (.inr (by omega))
theorem blk_all {lt:α→α→Bool} {ys:List α} {B n:Nat} (h:Blk lt ys B 0 n n) (hB:n≤B):Srt lt ys 0 n:=by
 intro i j h1 h2 h3
 exact h 0 (Nat.dvd_zero B) (Nat.le_refl _) (by omega) i j h1 h2 (by omega)
end
end Go.Ab
