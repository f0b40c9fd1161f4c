/-
  The library's functions that the figures call: by the contracts of the library, or walked.
-/
import Derived.Test.YtcbdfmmiigpddaaDoorLb
import Derived.Test.YtcbdfmmiigpddaaDoorFg0
import Derived.Test.YtcbdfmmiigpddaaDoorAbB
import Derived.Laws.Rows
namespace Go.Proofs.YtcbdfmmiigpddaaDoor
open Go.Ab Go.RowKit
def txtE (x:List UInt8):List AV:=[.str x]
theorem getD_at {α:Type} [Inhabited α] {l:List α} {i:Nat} (h:i<l.length):l.getD i default=l[i]:=by simp[List.getD,h]
theorem repL_sss {st:Stab} {w:World} {s t u:List UInt8} {xs:List Value} (h:RepL st w [.str s,.str t,.str u] xs):xs=[.string ⟨s.toArray⟩,.string ⟨t.toArray⟩,.string ⟨u.toArray⟩]:=by
 match xs,h with
 |[x,y,z],h=>
  rw[(h.2 0 _ x rfl rfl).str_eq,(h.2 1 _ y rfl rfl).str_eq,(h.2 2 _ z rfl rfl).str_eq]
theorem tup2 {st:Stab} {w:World} {a b:AV} {x y:Value} (h1:Rep st w a x) (h2:Rep st w b y):Rep st w (.tuple [a,b]) (.tuple #[x,y]):=.tuple _ _ rfl fun j v z hv hz=>by
 match j,hv,hz with
 |0,hv,hz=>simp at hv hz;subst hv;subst hz;exact h1
 |1,hv,hz=>simp at hv hz;subst hv;subst hz;exact h2
theorem tup3 {st:Stab} {w:World} {a b d:AV} {x y u:Value} (h1:Rep st w a x) (h2:Rep st w b y) (h3:Rep st w d u):Rep st w (.tuple [a,b,d]) (.tuple #[x,y,u]):=.tuple _ _ rfl fun j v z hv hz=>by
 match j,hv,hz with
 |0,hv,hz=>simp at hv hz;subst hv;subst hz;exact h1
 |1,hv,hz=>simp at hv hz;subst hv;subst hz;exact h2
 |2,hv,hz=>simp at hv hz;subst hv;subst hz;exact h3
theorem cut_c (s sep:List UInt8) (hs:s.length≤1000000000):PCalls Tryd.prog 20 [.str s,.str sep] (.tuple [.str (Lib.cut s sep).1,.str (Lib.cut s sep).2.1,.bool (Lib.cut s sep).2.2]):=
 pcalls_of_below (fun _ _=>by kernel_rfl) fun st w xs hx hg=>by
  rw[repL_ss hx]
  obtain⟨c,t,f,g1,m,rfl⟩:=gl_at hg 0 rfl
  have hsz:(ByteArray.mk s.toArray).size<4294967281:=by simp[ByteArray.size];omega
  refine(Tryd.strings_Cut ⟨s.toArray⟩ ⟨sep.toArray⟩ m w hsz (by rw[cell_of_block g1];rfl)).mono ?_
  rintro e w' ⟨rfl,n,rfl⟩
  exact⟨_,rfl,fun _ _=>tup3 (.str _) (.str _) (.bool _),⟨rfl,rfl,rfl,Nat.le_refl _,fun _ _=>rfl⟩⟩
theorem cutPrefix_c (s p:List UInt8):PCalls Tryd.prog 45 [.str s,.str p] (.tuple [.str (Lib.trimPrefix s p),.bool (Lib.hasPrefix s p)]):=
 pcalls_of_below (fun _ _=>by kernel_rfl) fun st w xs hx hg=>by
  rw[repL_ss hx]
  refine(Tryd.strings_CutPrefix ⟨s.toArray⟩ ⟨p.toArray⟩ w).mono ?_
  rintro e w' ⟨rfl,h⟩
  subst h
  exact⟨_,rfl,fun _ _=>tup2 (.str _) (.bool _),Below.refl _ _⟩
theorem noComma_c (s:List UInt8) (hs:s.length≤1000000000):PCalls Tryd.prog 47 [.str s,.str [44],.str []] (.str (Lib.replaceAll s [44] [])):=
 pcalls_of_below (fun _ _=>by kernel_rfl) fun st w xs hx hg=>by
  rw[repL_sss hx]
  obtain⟨c,t,f,g1,m,rfl⟩:=gl_at hg 0 rfl
  have hsz:(ByteArray.mk s.toArray).size<4294967281:=by simp[ByteArray.size];omega
  refine(Tryd.strings_ReplaceAll ⟨s.toArray⟩ ⟨#[44]⟩ ⟨#[]⟩ m w hsz (by rw[cell_of_block g1];rfl) (by decide) (by
   have:(ByteArray.mk #[]).size=0:=rfl
   rw[this];omega)).mono ?_
  rintro e w' ⟨rfl,h⟩
  exact⟨_,rfl,fun _ _=>.str _,h⟩
theorem pcalls_of_texts {P:Program} {f:FuncId} {vs:List AV} {ps:List (List UInt8)} (hcb:Callable P f)
  (h:∀st w xs,RepL st w vs xs→Gl [] w→Calls P f ⟨xs⟩ w fun e w'=>∃t,e=.returned (.slice (some ⟨w.heap.size,0,none⟩) ps.length ps.length)∧
    w'=w.alloc (.cells (ps.map fun l=>Value.string ⟨l.toArray⟩).toArray t)):PCalls P f vs (sl txtE 1 ps .view):=by
 refine⟨hcb,fun st w xs hc hx hg=>(h st w xs hx hg).mono ?_⟩
 rintro e w' ⟨t,rfl,rfl⟩
 have hsize:(w.alloc (.cells (ps.map fun l=>Value.string ⟨l.toArray⟩).toArray t)).heap.size=w.heap.size+1:=Array.size_push ..
 have hnew:(w.alloc (.cells (ps.map fun l=>Value.string ⟨l.toArray⟩).toArray t)).heap[w.heap.size]?=some (.cells (ps.map fun l=>Value.string ⟨l.toArray⟩).toArray t (0,0)):=heap_alloc_new _ _
 have hg:=Conc.grow (Hn:=[]) (st':=fun b o=>st b o∨b=w.heap.size) (w':=w.alloc (.cells (ps.map fun l=>Value.string ⟨l.toArray⟩).toArray t)) hc.start rfl rfl rfl (by omega)
  (fun k hk=>heap_alloc_old _ _ hk) (fun _ _ h=>.inl h) (fun b o hs=>by
    rcases hs with h|h
    ·exact .inl h
    ·exact .inr ⟨by omega,by omega⟩) (by simp) (fun k hk=>by obtain⟨e,he,_⟩:=hk;cases he) .nil
  (fun b o hs=>hs.imp id fun h=>by subst h;exact⟨_,_,hnew⟩)
 refine⟨_,.ret (sl txtE 1 ps .view),[],hg.1,?_,rfl,rfl⟩
 refine .slice 1 ps.length _ .view (some ⟨w.heap.size,0,none⟩) ps.length w.heap.size 0 (fun i _=>Value.string ⟨(ps.getD i default).toArray⟩) (Nat.le_refl _) (.inr rfl) (fun i hi=>rfl) (fun i j hi hj=>⟨.inr rfl,?_⟩) (fun i j v hi hv=>?_) trivial (fun i j hi hj=>rfl)
 ·have hj0:j=0:=by omega
  subst hj0
  rw[cell_of_block hnew]
  simp[List.getElem?_eq_getElem hi]
 ·cases j with
  |zero=>
   simp[txtE]at hv
   subst hv
   exact .str _
  |succ j=>simp[txtE]at hv
theorem split_c (s:List UInt8) (c:UInt8) (hs:s.length≤1000000000):PCalls Tryd.prog 26 [.str s,.str [c]] (sl txtE 1 (Lib.split s [c]) .view):=
 pcalls_of_texts (fun _ _=>by kernel_rfl) fun st w xs hx hg=>by
  rw[repL_ss hx]
  obtain⟨cc,t,f,g1,m,rfl⟩:=gl_at hg 0 rfl
  have hsz:(ByteArray.mk s.toArray).size<4294967281:=by simp[ByteArray.size];omega
  refine(Tryd.strings_Split ⟨s.toArray⟩ ⟨#[c]⟩ m w hsz (by rw[cell_of_block g1];rfl) (Nat.le_refl 1)).mono ?_
  rintro e w' ⟨rfl,rfl⟩
  have hd:=Lib.splitB_data ⟨#[c]⟩ 0 (Lib.countB ⟨s.toArray⟩ ⟨#[c]⟩) ⟨s.toArray⟩
  have hsp:Lib.split s [c]=(Lib.splitB ⟨#[c]⟩ 0 (Lib.countB ⟨s.toArray⟩ ⟨#[c]⟩) ⟨s.toArray⟩).map (·.data.toList):=hd.symm
  have hlen:=Lib.splitB_all (ByteArray.mk #[c]) (Nat.le_refl 1) 0 _ (ByteArray.mk s.toArray) rfl
  refine⟨9,?_,?_⟩
  ·rw[hsp,List.length_map,hlen]
  ·rw[hsp,List.map_map]
   rfl
theorem fields_c (s:List UInt8) (hs:s.length≤1000000000) (ha:asciiB s=true):PCalls Tryd.prog 18 [.str s] (sl txtE 1 (Lib.fields s) .view):=
 pcalls_of_texts (fun _ _=>by kernel_rfl) fun st w xs hx hg=>by
  rw[repL_s hx]
  obtain⟨cc,t,f,g1,rfl⟩:=gl_at hg 1 rfl
  have hsz:(ByteArray.mk s.toArray).size<4294967281:=by simp[ByteArray.size];omega
  refine(Tryd.strings_Fields ⟨s.toArray⟩ w hsz (fun j b hb=>?_) ?_).mono ?_
  ·have h:=List.all_eq_true.1 ha b (List.mem_of_getElem? hb)
   have:=Nat.le_of_ble_eq_true h
   omega
  ·unfold Lib.TabIs World.var?
   rw[show Tryd.prog.globalNamed _=some 0 by kernel_rfl,Option.bind_some,g1]
  rintro e w' ⟨rfl,rfl⟩
  exact⟨_,rfl,rfl⟩
theorem idxL_ge (x:List UInt8):∀l,-1≤idxL x l
 |[]=>by simp[idxL]
 |y::l=>by
  have:=idxL_ge x l
  simp only[idxL]
  split
  ·omega
  split<;>omega
theorem idxL_hit (x:List UInt8):∀(l:List (List UInt8)) (i:Nat),i<l.length→l.getD i default=x→(∀j,j<i→l.getD j default≠x)→idxL x l=i
 |[],i,h,_,_=>by simp at h
 |y::l,i,h,he,hn=>by
  simp only[idxL]
  cases i with
  |zero=>
   have:x=y:=by simpa using he.symm
   rw[if_pos this]
   rfl
  |succ i=>
   have h0:=hn 0 (by omega)
   have ih:=idxL_hit x l i (by simpa using h) (by simpa using he) fun j hj=>by simpa using hn (j+1) (by omega)
   rw[if_neg (fun e=>h0 (by simpa using e.symm)),ih,if_neg (by omega)]
   omega
theorem idxL_miss (x:List UInt8):∀(l:List (List UInt8)),(∀j,j<l.length→l.getD j default≠x)→idxL x l= -1
 |[],_=>rfl
 |y::l,hn=>by
  have h0:=hn 0 (by simp)
  have ih:=idxL_miss x l fun j hj=>by simpa using hn (j+1) (by simpa using hj)
  simp only[idxL]
  rw[if_neg (fun e=>h0 (by simpa using e.symm)),ih,if_pos (by decide)]
theorem cbIx:Callable Tryd.prog 46:=fun _ _=>by kernel_rfl
theorem index_c (xs:List (List UInt8)) (x:List UInt8) (hx:xs.length≤1000000000):PCalls Tryd.prog 46 [sl txtE 1 xs .view,.str x] (.int .i64 (idxL x xs)):=by
 refine pcalls_of_awp tyok cbIx Tryd.func46 rfl rfl ?_
 repeat(first|refine wD ?_|refine awp_seq_k fun K hK=>?_|refine wN fun bx=>?_|(refine wH ?_;clear hK))
 refine awp_loop0 (ι:={i:Nat//i≤xs.length∧∀j,j<i→xs.getD j default≠x})
  (fun i=>[(0,sl txtE 1 xs .view),(1,.str x),(6,sl txtE 1 xs .view),(7,.int .i64 xs.length),(8,.int .i64 i.1)]) (fun _=>[]) (fun i=>xs.length-i.1) ⟨0,Nat.zero_le _,fun j hj=>absurd hj (by omega)⟩ ?_ dp ?_
 ·exact wk
 rintro⟨i,hi,hn⟩
 simp only at hi hn ⊢
 by_cases hlt:i<xs.length
 ·have hlt':(i:Int)<xs.length:=by omega
  repeat(first|refine wDB ?_|refine awp_seq_k fun K hK=>?_|refine wN fun bx=>?_|(refine wH ?_;clear hK))
  refine awp_cond rfl (fun hb=>?_) (fun hb=>?_)
  ·have he:x=xs.getD i default:=by simpa using hb
   repeat(first|refine wD ?_|refine awp_seq_k fun K hK=>?_|refine wN fun bx=>?_|(refine wH ?_;clear hK))
   refine r1 ?_
   exact Sub.of_eq (by rw[idxL_hit x xs i hlt he.symm hn])
  ·have he:x≠xs.getD i default:=by simpa using hb
   repeat(first|refine wD ?_|refine awp_seq_k fun K hK=>?_|refine wN fun bx=>?_|(refine wH ?_;clear hK))
   refine⟨⟨i+1,hlt,fun j hj=>?_⟩,?_,dp,?_⟩
   ·by_cases e:j=i
    ·rw[e];exact fun e=>he e.symm
    ·exact hn j (by omega)
   ·exact wk
   ·simp only;omega
 ·have hge:¬(i:Int)<xs.length:=by omega
  repeat(first|refine wDB ?_|refine awp_seq_k fun K hK=>?_|refine wN fun bx=>?_|(refine wH ?_;clear hK))
  refine r1 ?_
  exact Sub.of_eq (by rw[idxL_miss x xs fun j hj=>hn j (by omega)])
end Go.Proofs.YtcbdfmmiigpddaaDoor
