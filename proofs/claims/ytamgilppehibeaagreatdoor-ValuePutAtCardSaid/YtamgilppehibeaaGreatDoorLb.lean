/-
  The library's functions that are called, with abstract values: by the contracts of the library.
-/
import Derived.Test.YtamgilppehibeaaGreatDoorTy
import Derived.Test.YtamgilppehibeaaGreatDoorShelf
import Derived.Lib.SmallJoins
import Derived.Lib.QuietBelow
namespace Go.Proofs.YtamgilppehibeaaGreatDoor
open Go.Ab Go.RowKit
theorem repL1 {st:Stab} {w:World} {a:AV} {xs:List Value} (h:RepL st w [a] xs):∃x,xs=[x]∧Rep st w a x:=by
 match xs,h with
 |[x],h=>exact⟨x,rfl,h.2 0 a x rfl rfl⟩
theorem repL2 {st:Stab} {w:World} {a b:AV} {xs:List Value} (h:RepL st w [a,b] xs):∃x y,xs=[x,y]∧Rep st w a x∧Rep st w b y:=by
 match xs,h with
 |[x,y],h=>exact⟨x,y,rfl,h.2 0 a x rfl rfl,h.2 1 b y rfl rfl⟩
theorem repL_s {st:Stab} {w:World} {s:List UInt8} {xs:List Value} (h:RepL st w [.str s] xs):xs=[.string ⟨s.toArray⟩]:=by
 obtain⟨x,rfl,h1⟩:=repL1 h
 rw[h1.str_eq]
theorem repL_ss {st:Stab} {w:World} {s t:List UInt8} {xs:List Value} (h:RepL st w [.str s,.str t] xs):xs=[.string ⟨s.toArray⟩,.string ⟨t.toArray⟩]:=by
 obtain⟨x,y,rfl,h1,h2⟩:=repL2 h
 rw[h1.str_eq,h2.str_eq]
theorem gl_at {H:AHeap} {w:World} (h:Gl H w) (i:Nat) {g:GFact} (hi:globs[i]?=some g):∃c t f,w.heap[g.b]?=some (.cells c t f)∧g.p c:=(h g (List.mem_of_getElem? hi)).2
theorem cell_of_block {w:World} {b:Nat} {c:Array Value} {t:TypeId} {f:Nat×Nat} (h:w.heap[b]?=some (.cells c t f)) (o:Nat):w.cell? ⟨b,o,none⟩=c[o]?:=by
 unfold World.cell?
 rw[h]
 rfl
theorem hasPrefix_c (s p:List UInt8):PCalls Tryz.prog 96 [.str s,.str p] (.bool (Lib.hasPrefix s p)):=
 pcalls_of_below (fun _ _=>by kernel_rfl) fun st w xs hx _=>by
  rw[repL_ss hx]
  refine(Tryz.strings_HasPrefix ⟨s.toArray⟩ ⟨p.toArray⟩ w).mono ?_
  rintro e w' ⟨rfl,rfl⟩
  exact⟨_,rfl,fun _ _=>.bool _,Below.refl _ _⟩
theorem itoa_c (n:Int) (h0: -9223372036854775808≤n) (h1:n≤9223372036854775807):PCalls Tryz.prog 93 [.int .i64 n] (.str (Lib.itoa n)):=
 pcalls_of_below (fun _ _=>by kernel_rfl) fun st w xs hx hg=>by
  obtain⟨x,rfl,h2⟩:=repL1 hx
  rw[h2.int_eq]
  refine(Tryz.strconv_Itoa n h0 h1 w ?_).mono ?_
  ·obtain⟨c,t,f,g1,g2⟩:=gl_at hg 3 rfl
   unfold Lib.TabIs World.var?
   rw[show Tryz.prog.globalNamed _=some 0 by kernel_rfl,Option.bind_some,g1]
   exact congrArg some g2
  rintro e w' ⟨rfl,k,os,rfl⟩
  exact⟨_,rfl,fun _ _=>.str _,⟨rfl,rfl,rfl,by simp[Sort.grow,World.drewN],fun j hj=>by show(w.heap++os)[j]?=_;rw[Array.getElem?_append_left hj]⟩⟩
def atoiV (l:List UInt8):AV:=match Lib.atoiAll l with
 |.ok v=>.tuple [.int .i64 v,.nilIface]
 |.range=>.tuple [.int .i64 (Lib.atoiSat l),.iface 268 .any]
 |_=>.tuple [.int .i64 0,.iface 268 .any]
theorem atoi_c (s:List UInt8) (hs:s.length≤281474976710656):PCalls Tryz.prog 188 [.str s] (atoiV s):=
 pcalls_of_below (fun _ _=>by kernel_rfl) fun st w xs hx hg=>by
  rw[repL_s hx]
  have hsz:(ByteArray.mk s.toArray).size≤281474976710656:=by simpa [ByteArray.size]using hs
  have two:∀(n:Int) (i:AV) (j:Value),(∀st' w2,Rep st' w2 i j)→∀st' w2,Rep st' w2 (.tuple [.int .i64 n,i]) (.tuple #[.int .i64 n,j]):=fun n i j h st' w2=>.tuple _ _ rfl fun q v x hv hx=>by
   match q,hv,hx with
   |0,hv,hx=>simp at hv hx;subst hv;subst hx;exact .int _ _
   |1,hv,hx=>simp at hv hx;subst hv;subst hx;exact h _ _
  have he:atoiV s=_:=rfl
  unfold atoiV at he ⊢
  cases ha:Lib.atoiAll s with
  |ok v=>
   refine(Tryz.strconv_Atoi_ok ⟨s.toArray⟩ (by omega) v ha w).mono ?_
   rintro e w' ⟨rfl,h⟩
   refine⟨_,rfl,two _ _ _ fun _ _=>.nilIface,?_⟩
   rcases h with rfl|⟨t,rfl⟩
   ·exact Below.refl _ _
   ·exact Joins.below_bytesWorld _ _ _ _ (Nat.le_refl _)
  |range=>
   obtain⟨c,t,f,g1,t',v',rfl⟩:=gl_at hg 2 rfl
   refine(Tryz.strconv_Atoi_range ⟨s.toArray⟩ hsz ha _ w (by rw[cell_of_block g1];rfl) (.inr ⟨t',v',rfl⟩)).mono ?_
   rintro e w' ⟨N,rfl,_,_,h⟩
   exact⟨_,rfl,two _ _ _ fun _ _=>.iface _ _ _ (.any _),h⟩
  |_=>
   obtain⟨c,t,f,g1,t',v',rfl⟩:=gl_at hg 1 rfl
   refine(Tryz.strconv_Atoi_syntax ⟨s.toArray⟩ hsz ha _ w (by rw[cell_of_block g1];rfl) (.inr ⟨t',v',rfl⟩)).mono ?_
   rintro e w' ⟨N,rfl,_,_,h⟩
   exact⟨_,rfl,two _ _ _ fun _ _=>.iface _ _ _ (.any _),h⟩
end Go.Proofs.YtamgilppehibeaaGreatDoor
