/-
  An array that a call owns is lent to a call that only reads it, and tells plain data.
-/
import Derived.Test.YtcbdfmmiigpddaaDoorAb30
namespace Go.Ab
def Flat (u:AV):Prop:=∀st w st' w' c,Rep st w u c→Rep st' w' u c
theorem Flat.bool (b:Bool):Flat (.bool b):=fun st w st' w' c h=>by cases h;exact .bool b
theorem Flat.int (k:IntKind) (n:Int):Flat (.int k n):=fun st w st' w' c h=>by cases h;exact .int k n
theorem Flat.str (s:List UInt8):Flat (.str s):=fun st w st' w' c h=>by cases h;exact .str s
theorem Flat.tuple {vs:List AV} (h:∀v∈vs,Flat v):Flat (.tuple vs):=fun st w st' w' c hc=>by
 cases hc with
 |tuple _ xs hl hr=>exact .tuple _ xs hl fun j v x hv hx=>h v (List.mem_of_getElem? hv) _ _ _ _ _ (hr j v x hv hx)
structure SubHL (g m:Nat) (el:Nat→AV) (vs vs':List AV):Prop where
 len:vs'.length=vs.length
 at':∀(j:Nat) (v v':AV),vs[j]?=some v→vs'[j]?=some v'→SubH g m el v v'
theorem SubHL.nil {g m:Nat} {el:Nat→AV}:SubHL g m el [] []:=⟨rfl,fun j v v' h=>by cases h⟩
theorem SubHL.cons {g m:Nat} {el:Nat→AV} {v v':AV} {vs vs':List AV} (h:SubH g m el v v') (k:SubHL g m el vs vs'):SubHL g m el (v::vs) (v'::vs'):=
 ⟨by simp[k.len],fun j a b ha hb=>by
   cases j with
   |zero=>simp at ha hb;subst ha;subst hb;exact h
   |succ j=>exact k.at' j a b (by simpa using ha) (by simpa using hb)⟩
theorem SubHL.same {g m:Nat} {el:Nat→AV} {v:AV} {vs vs':List AV} (k:SubHL g m el vs vs'):SubHL g m el (v::vs) (v::vs'):=.cons (SubH.rfl' _) k
theorem PCalls.lend {P:Program} {f:FuncId} {vs vs':List AV} {u:AV} {g m:Nat} {t:TypeId} {el:Nat→AV} (hu:Flat u) (h:PCalls P f vs' u) (hs:SubHL g m el vs vs'):
  ACalls P f vs [rowM g t m el] fun r H'=>r=.ret u∧H'=[rowM g t m el]:=by
 refine⟨h.1,fun st w xs hc hx hg=>?_⟩
 obtain⟨st',c1,k1,hh⟩:=Conc.freezeM (G1:=[]) (G2:=[]) hc
 have hx':RepL st' w vs' xs:=⟨by rw[hx.1,hs.len],fun j v' x hv' hxx=>by
  have hj:j<vs.length:=by rw[←hs.len];exact(List.getElem?_eq_some_iff.1 hv').1
  exact hs.at' j _ v' (List.getElem?_eq_getElem hj) hv' st' w hh x ((hx.2 j _ x (List.getElem?_eq_getElem hj) hxx).mono k1)⟩
 refine(h.2 st' w xs c1.start hx' (hg.sub fun _ ⟨e,he,_⟩=>absurd he List.not_mem_nil)).mono fun e w' hp=>?_
 cases e with
 |outgrown=>exact hp.elim
 |returned v=>
  obtain⟨st2,r,H2,d1,d2,rfl,rfl⟩:=hp
  have hno:∀k,¬(Env0.of w st' []).O k:=fun k ⟨e,he,_⟩=>absurd he List.not_mem_nil
  refine⟨st,.ret u,[rowM g t m el],⟨d1.os,d1.tape,d1.output,d1.size,fun k hk _=>d1.old k hk (hno k),fun b o hb=>d1.keep b o (k1.sub b o hb),fun _ _ h=>h,fun _ _ h=>.inl h,fun b o hb=>Nat.lt_of_lt_of_le (hc.stlt b o hb) d1.size,fun k hk=>.inl hk,fun k hk=>Nat.lt_of_lt_of_le (hc.ownlt k hk) d1.size,fun e he=>?_,hc.sep,fun b o hs hk=>(hk hs).same (d1.old b (hc.stlt b o hs) (hno b))⟩,hu _ _ _ _ _ d2,rfl,rfl⟩
  refine Ent.holds_keep (w:=w) ⟨fun _ _ h=>h,fun b o hb=>d1.keep b o (k1.sub b o hb)⟩ (hc.ents e he) (fun b hb=>d1.old b (hc.ownlt b ⟨e,he,hb⟩) (hno b)) fun _ _ _ h=>h
 |panicked v=>
  obtain⟨st2,r,H2,d1,d2,rfl,rfl⟩:=hp
  exact d2.elim
theorem pickNil {H:AHeap}:∃F,H.Perm (F++[]):=⟨H,by rw[List.append_nil]⟩
theorem pickD {H G J:AHeap} {e:Ent} (h:Pick H e G) (k:∃F,G.Perm (F++J)):∃F,H.Perm (F++e::J):=by
 obtain⟨F,hF⟩:=k
 exact⟨F,h.perm.trans ((hF.cons e).trans List.perm_middle.symm)⟩
theorem subAny (v:AV):Sub v .any:=fun _ _ c _=>.any c
section
variable {P:Program} {N:Nat} {ty:TypeId→Option TyI} {l0:List Oper} {LD:LDs} {W:Bool} {Q:APost} {n:Nat} {o:Oper} {l:List (Nat×Oper)} {T:Tmps} {H:AHeap}
theorem qappF {α:Type} [Inhabited α] (hty:TyOk P ty) (f:α→List AV) (ys:List α) {s y:Operand} {t e:TypeId} {ti ei:TyI} {vs vx:AV} {sz:Nat} {el el2:Nat→List AV} {ow:Own} {d:Nat}
  (hel:∀i,i<ys.length→SubL (el2 i) (f (ys.getD i default))) (hb:(0+ys.length)*ei.bytes≤140737488355328∧0+ys.length≤9223372036854775807)
  (k:∀a cap,TR P N ty l0 LD W Q l ((d,sl f sz ys (.own a cap))::T) (.tok a cap ys.length sz e::H))
  (hg:o.guard=none:=by exact rfl) (ho:o.op=.call {callee:=.builtin .append,args:= #[s,y],argTypes:= #[t,t]}:=by exact rfl) (hd:o.dst=some d:=by exact rfl) (hN:Nat.ble (d+1) N=true:=by exact rfl)
  (hon:optN True T (tmpsOf o.op):=by exact True.intro) (hti:ty t=some ti:=by exact rfl) (hk:ti.k=.slice e:=by exact rfl) (hei:ty e=some ei:=by exact rfl) (hsz:ei.size=sz:=by exact rfl) (hpos:Nat.ble 1 sz=true:=by exact rfl)
  (hs:opvL (tmpsOf o.op) T s=some vs:=by exact rfl) (hvs:asSl sz vs=some (0,el,.full):=by exact rfl) (hx:opvL (tmpsOf o.op) T y=some vx:=by exact rfl) (hvx:asSl sz vx=some (ys.length,el2,ow):=by exact rfl):TR P N ty l0 LD W Q ((n,o)::l) T H:=by
 refine TR.appendF hty (fun ad cp=>sl f sz ys (.own ad cp)) hg ho hd (by rw[hd];exact hN) hon hti hk hei hsz hpos hs hx hvs hvx hb (fun ad cp=>?_) fun ad cp=>?_
 ·unfold sl
  rw[Nat.zero_add]
  refine Sub.els fun i hi=>?_
  unfold glue
  rw[if_neg (Nat.not_lt_zero i)]
  exact hel i hi
 ·have:=k ad cp
  rw[Nat.zero_add]
  exact this
end
end Go.Ab
