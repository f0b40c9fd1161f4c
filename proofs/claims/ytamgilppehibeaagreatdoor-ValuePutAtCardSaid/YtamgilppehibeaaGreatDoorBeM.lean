/-
  strings.Builder.
-/
import Derived.Test.YtamgilppehibeaaGreatDoorAbC
import Derived.Test.YtamgilppehibeaaGreatDoorLb
import Derived.Shelf.Strings.Builder1
import Derived.Test.YtamgilppehibeaaGreatDoorAbF
import Derived.Test.YtamgilppehibeaaGreatDoorAbB
import Derived.Lib.Join
set_option maxRecDepth 100000
set_option maxHeartbeats 1600000
namespace Go.Proofs.YtamgilppehibeaaGreatDoor
open Go.Ab Go.RowKit Go.Shelf
theorem copyUsed (b:Nat) (w:World) (h0:w.cell? ⟨b,0,none⟩=some (.pointer (some ⟨b,0,none⟩))):
  Calls Tryz.prog 91 #[.pointer (some ⟨b,0,none⟩)] w fun e w'=>e=.returned (.tuple #[])∧w'=w:=
 Any.Builder_copyCheck_used (ρ:=Tryz.lays156_ren) {Tryz.lays156 with} Tryz.Builder_Extra_156.toX72 b w h0
theorem copyFresh (b:Nat) (w:World) (h0:w.cell? ⟨b,0,none⟩=some (.pointer none)) (hsh:w.shape? b=some (79,2)) (hfz:w.frozen? ⟨b,0,none⟩=false):
  Calls Tryz.prog 91 #[.pointer (some ⟨b,0,none⟩)] w fun e w'=>e=.returned (.tuple #[])∧w'=w.setCell ⟨b,0,none⟩ (.pointer (some ⟨b,0,none⟩)):=
 Any.Builder_copyCheck_fresh (ρ:=Tryz.lays156_ren) {Tryz.lays156 with} Tryz.Builder_Extra_156.toX72 b w h0 hsh hfz
theorem copyCheck_c (b:Nat) (p v:AV) (hp:p=.nilptr∨p=.ptr b 0):
  ACalls Tryz.prog 91 [.ptr b 0] [.box b 79 (.agg [p,v])] (fun r H'=>r=.ret (.tuple [])∧H'=[.box b 79 (.agg [.ptr b 0,v])]):=by
 refine⟨fun _ _=>by kernel_rfl,fun st w xs hc hx _=>?_⟩
 obtain⟨x,rfl,h1⟩:=repL1 hx
 cases h1
 obtain⟨arr,cv,hb,hr,hcs,hone,hns⟩:=hc.ents _ (List.mem_cons_self ..)
 cases hr with
 |agg _ cs hl hcr=>
 match cs,hl with
 |[c0,c1],_=>
 have h0:=hcr 0 p c0 rfl rfl
 have h1:=hcr 1 v c1 rfl rfl
 obtain rfl:arr= #[c0,c1]:=hcs.symm
 rcases hp with rfl|rfl
 ·cases h0
  refine(copyFresh b w (by rw[Lib.cell_of_heap hb];rfl) (by simp[World.shape?,hb]) (Lib.frozen_of_heap hb 0)).mono ?_
  rintro e w' ⟨rfl,rfl⟩
  rw[setCell_eq_setRow w b 0 _ _ (0,0) _ hb]
  have m:=hc.store (u':=.agg [.ptr b 0,v]) (arr':= #[.pointer (some ⟨b,0,none⟩),c1]) (cv':=.agg #[.pointer (some ⟨b,0,none⟩),c1]) hb
   (.agg _ [_,_] rfl (fun j u x hu hx=>by
     match j,hu,hx with
     |0,hu,hx=>cases hu;cases hx;exact .ptr b 0
     |1,hu,hx=>cases hu;cases hx;exact h1)) rfl (fun x hx=>by
     rcases List.mem_cons.1 hx with rfl|hx
     ·rfl
     ·exact hone x (List.mem_cons_of_mem _ hx))
  exact⟨st,.ret (.tuple []),_,m.1,.tuple [] [] rfl (by simp),rfl,rfl⟩
 ·cases h0
  refine(copyUsed b w (by rw[Lib.cell_of_heap hb];rfl)).mono ?_
  rintro e w' ⟨rfl,rfl⟩
  exact⟨st,.ret (.tuple []),_,hc,.tuple [] [] rfl (by simp),rfl,rfl⟩
def bld0 (b:Nat):AHeap:=[.box b 79 (.agg [.nilptr,.nils])]
def bldH (b g cap:Nat) (s:List UInt8):AHeap:=[.box b 79 (.agg [.ptr b 0,.mslice g 0 s.length cap]),rowB g 5 cap s]
abbrev Rm (s:List UInt8):Type:={p:Nat×Nat//s.length≤p.2∧p.2≤maxLen}
theorem cbWrite:Callable Tryz.prog 41:=fun _ _=>by kernel_rfl
theorem write0_c (b:Nat) (t:List UInt8) (h0:t≠[]) (hl:t.length≤1000000000):
  ACalls Tryz.prog 41 [.ptr b 0,.str t] (bld0 b) (fun r H'=>r=.ret (.tuple [.int .i64 t.length,.nilIface])∧∃q:Rm t,H'=bldH b q.1.1 q.1.2 t):=by
 refine acalls_of_awp tyok cbWrite Tryz.func41 rfl rfl ?_
 unfold bld0
 repeat(first|refine wD ?_|refine awp_seq_k fun K hK=>?_|refine wN fun bx=>?_|(refine wH ?_;clear hK))
 (first|refine qcallE .here (copyCheck_c b .nilptr _ (.inl rfl)) ?_|refine qcallE (.there .here) (copyCheck_c b .nilptr _ (.inl rfl)) ?_|refine qcallE (.there (.there .here)) (copyCheck_c b .nilptr _ (.inl rfl)) ?_|refine qcallE (.there (.there (.there .here))) (copyCheck_c b .nilptr _ (.inl rfl)) ?_|refine qcallE (.there (.there (.there (.there .here)))) (copyCheck_c b .nilptr _ (.inl rfl)) ?_)
 repeat(first|refine wD ?_|refine awp_seq_k fun K hK=>?_|refine wN fun bx=>?_|(refine wH ?_;clear hK))
 refine qappN tyok t h0 ?_ fun g cap hc1 hc2=>?_
 ·simp only
  omega
 (((repeat(first|refine wT ?_|refine wN fun bx=>?_)));(try refine wP ?_);repeat(refine wH ?_;clear hK))
 refine awp_permS (List.Perm.swap _ _ _) ?_
 repeat(first|refine wD ?_|refine awp_seq_k fun K hK=>?_|refine wN fun bx=>?_|(refine wH ?_;clear hK))
 exact fnQ_ret 0 rfl (.tmp rfl (.tmp rfl .nil)) (Sub.refl _) ⟨rfl,⟨(g,cap),hc1,hc2⟩,rfl⟩
theorem write_c (b g cap:Nat) (s t:List UInt8) (h0:t≠[]) (hc:s.length≤cap) (hm:cap≤maxLen) (hl:s.length+t.length≤1000000000):
  ACalls Tryz.prog 41 [.ptr b 0,.str t] (bldH b g cap s) (fun r H'=>r=.ret (.tuple [.int .i64 t.length,.nilIface])∧∃q:Rm (s++t),H'=bldH b q.1.1 q.1.2 (s++t)):=by
 refine acalls_of_awp tyok cbWrite Tryz.func41 rfl rfl ?_
 unfold bldH
 repeat(first|refine wD ?_|refine awp_seq_k fun K hK=>?_|refine wN fun bx=>?_|(refine wH ?_;clear hK))
 (first|refine qcallE .here (copyCheck_c b (.ptr b 0) _ (.inr rfl)) ?_|refine qcallE (.there .here) (copyCheck_c b (.ptr b 0) _ (.inr rfl)) ?_|refine qcallE (.there (.there .here)) (copyCheck_c b (.ptr b 0) _ (.inr rfl)) ?_|refine qcallE (.there (.there (.there .here))) (copyCheck_c b (.ptr b 0) _ (.inr rfl)) ?_|refine qcallE (.there (.there (.there (.there .here)))) (copyCheck_c b (.ptr b 0) _ (.inr rfl)) ?_)
 repeat(first|refine wD ?_|refine awp_seq_k fun K hK=>?_|refine wN fun bx=>?_|(refine wH ?_;clear hK))
 refine qappR tyok s t h0 hc hm ?_ fun g cap hc1 hc2=>?_
 ·simp only
  omega
 repeat(first|refine wD ?_|refine awp_seq_k fun K hK=>?_|refine wN fun bx=>?_|(refine wH ?_;clear hK))
 exact fnQ_ret 0 rfl (.tmp rfl (.tmp rfl .nil)) (Sub.refl _) ⟨rfl,⟨(g,cap),hc1,hc2⟩,rfl⟩
theorem strW {P:Program} {ρ:Shelf.Ren} (L:Lays.n169 P ρ) (X:Builder.Extra P ρ) (b g cap:Nat) (p:Value) (cs:Array Value) (l:List UInt8) (w:World)
  (hb:w.heap[b]?=some (.cells #[p,.slice (some ⟨g,0,none⟩) l.length cap] (ρ.t 72) (0,0))) (hg:w.heap[g]?=some (.cells cs (ρ.t 5) (0,0)))
  (h0:l≠[]) (hn:l.length≤cap) (hcs:cs.size=cap) (h63:l.length≤9223372036854775807) (hc:∀(j:Nat) (x:UInt8),l[j]?=some x→cs[j]?=some (Value.int .u8 x.toNat)):
  Calls P (ρ.f 169) #[.pointer (some ⟨b,0,none⟩)] w fun e w'=>e=.returned (.string ⟨l.toArray⟩)∧w'=w.drew.freeze ⟨g,0,none⟩ l.length:=by
 have hl0:l.length≠0:=by simpa using h0
 have c1:w.drew.cell? ⟨b,1,none⟩=some (.slice (some ⟨g,0,none⟩) l.length cap):=by
  rw[Lib.cell_of_heap (w:=w.drew) hb]
  rfl
 have hg1:w.drew.heap[g]?=some (.cells cs (ρ.t 5) (0,0)):=hg
 have hD:(Builtin.unsafeSliceData_ #[ρ.t 37] (ρ.t 127) #[.slice (some ⟨g,0,none⟩) l.length cap]).run P w.drew=.ok (.pointer (some ⟨g,0,none⟩)) w.drew:=Lib.run_unsafeSliceData_row _ _ _ _ _ _ (by omega)
 have hS:(Builtin.unsafeString_ #[ρ.t 127,ρ.t 3] (ρ.t 9) #[.pointer (some ⟨g,0,none⟩),.int .i64 l.length]).run P w.drew=.ok (.string ⟨l.toArray⟩) (w.drew.freeze ⟨g,0,none⟩ l.length):=
  Lib.run_unsafeString_row w.drew (ρ.t 127) (ρ.t 3) (ρ.t 9) (ρ.t 5) L.t127 X.cellsByte g cs.size (by simp[World.shape?,hg1]) l h0 (by omega) h63 (fun j x hx=>by
   rw[addr_add,Nat.zero_add,Lib.cell_of_heap hg1]
   exact hc j x hx)
 have mixed:=L.mixed
 have t72:=L.t72;have a72:=L.a72;have z72:=L.z72;have v72:=L.v72;have u72:=run_underlying L.t72
 have t70:=L.t70;have a70:=L.a70;have z70:=L.z70;have v70:=L.v70;have u70:=run_underlying L.t70
 have t37:=L.t37;have a37:=L.a37;have z37:=L.z37;have v37:=L.v37;have u37:=run_underlying L.t37
 have t127:=L.t127;have a127:=L.a127;have z127:=L.z127;have v127:=L.v127;have u127:=run_underlying L.t127
 have t3:=L.t3;have a3:=L.a3;have z3:=L.z3;have v3:=L.v3;have u3:=run_underlying L.t3
 have t9:=L.t9;have a9:=L.a9;have z9:=L.z9;have v9:=L.v9;have u9:=run_underlying L.t9
 have t5:=X.t5;have a5:=X.a5;have z5:=X.z5;have v5:=X.v5;have u5:=run_underlying X.t5
 go_enter L.f169,Body.n169_ntmps ρ
 go_wp2
 go_region_o
 all_goals (go_wp2;go_ret;exact⟨rfl,rfl⟩)
theorem cbStr:Callable Tryz.prog 43:=fun _ _=>by kernel_rfl
theorem string_c (b g cap:Nat) (s:List UInt8) (h0:s≠[]) (hc:s.length≤cap) (hl:s.length≤1000000000):
  ACalls Tryz.prog 43 [.ptr b 0] (bldH b g cap s) (fun r H'=>r=.ret (.str s)∧H'=[]):=by
 refine⟨cbStr,fun st w xs hcc hx _=>?_⟩
 obtain⟨x,rfl,h1⟩:=repL1 hx
 cases h1
 unfold bldH at hcc
 obtain⟨arr,cv,hb,hr,hcs,_,_⟩:=hcc.ents _ (List.mem_cons_self ..)
 have hc2:Conc (Env0.of w st (bldH b g cap s)) st [rowB g 5 cap s] w:=Conc.drop_front (F:=[_]) hcc
 obtain⟨arr2,cv2,hg,hr2,hcs2,_,hns⟩:=hc2.ents _ (List.mem_cons_self ..)
 obtain⟨cs2,rfl,hl2,hget,_⟩:=rowB_get hc hr2
 obtain rfl:(⟨cs2⟩:Array Value)=arr2:=hcs2
 cases hr with
 |agg _ cs hl hcr=>
 match cs,hl with
 |[c0,c1],_=>
 have k1:=hcr 1 _ c1 rfl rfl
 cases k1
 obtain rfl:arr= #[c0,.slice (some ⟨g,0,none⟩) s.length cap]:=hcs.symm
 refine(strW (ρ:=Tryz.lays156_ren) {Tryz.lays156 with} Tryz.Builder_Extra_156 b g cap c0 ⟨cs2⟩ s w hb hg h0 hc hl2 (by omega) (fun j x hx=>?_)).mono ?_
 ·have hj:j<s.length:=(List.getElem?_eq_some_iff.1 hx).1
  have:=hget j hj
  simp only[byteV,List.getD,hx,Option.getD_some]at this
  simpa using this
 rintro e w' ⟨rfl,rfl⟩
 have hc3:Conc (Env0.of w st (bldH b g cap s)) st [rowB g 5 cap s] w.drew:=(below_conc hc2 (Below.drew (Below.refl _ _))).1
 exact⟨st,.ret (.str s),[],(Conc.frozen (n:=s.length) hc3 hns rfl).1,.str _,rfl,rfl⟩
end Go.Proofs.YtamgilppehibeaaGreatDoor
namespace Go.Proofs.YtamgilppehibeaaGreatDoor
open Go.Ab
theorem rowB_Y (g:Nat) (e:TypeId) (cap:Nat) (s:List UInt8):rowB g e cap s=rowY g e cap s:=by
 show Ent.box g e (.vec cap (byEl s))=Ent.box g e (rowVec byE 1 cap s)
 rw[rowVec_eq,Nat.mul_one]
 refine congrArg (fun f=>Ent.box g e (.vec cap f)) (funext fun j=>?_)
 unfold byEl rowEl
 rw[Nat.div_one,Nat.mod_one]
 by_cases h:j<s.length
 ·rw[List.getElem?_eq_getElem h,List.getD_eq_getElem?_getD,List.getElem?_eq_getElem h,show Nat.blt j s.length=true from Nat.ble_eq_true_of_le h]
  rfl
 ·rw[List.getElem?_eq_none (by omega),show Nat.blt j s.length=false by rw[Bool.eq_false_iff];exact fun e=>h (Nat.le_of_ble_eq_true e)]
  rfl
theorem cbWByte:Callable Tryz.prog 40:=fun _ _=>by kernel_rfl
theorem wbyte0_c (b:Nat) (c:UInt8):ACalls Tryz.prog 40 [.ptr b 0,.int .u8 (c.toNat:Nat)] (bld0 b) (fun r H'=>r=.ret .nilIface∧∃q:Rm [c],H'=bldH b q.1.1 q.1.2 [c]):=by
 refine acalls_of_awp tyok cbWByte Tryz.func40 rfl rfl ?_
 unfold bld0
 repeat(first|refine wD ?_|refine awp_seq_k fun K hK=>?_|refine wN fun bx=>?_|(refine wH ?_;clear hK))
 (first|refine qcallE .here (copyCheck_c b .nilptr _ (.inl rfl)) ?_|refine qcallE (.there .here) (copyCheck_c b .nilptr _ (.inl rfl)) ?_|refine qcallE (.there (.there .here)) (copyCheck_c b .nilptr _ (.inl rfl)) ?_|refine qcallE (.there (.there (.there .here))) (copyCheck_c b .nilptr _ (.inl rfl)) ?_|refine qcallE (.there (.there (.there (.there .here)))) (copyCheck_c b .nilptr _ (.inl rfl)) ?_)
 repeat(first|refine wD ?_|refine awp_seq_k fun K hK=>?_|refine wN fun bx=>?_|(refine wH ?_;clear hK))
 refine qappO tyok byE [c] (fun g cap h1 h2=>?_) (fun j hj=>?_) (Nat.succ_pos _) ?_
 rotate_left
 ·obtain rfl:j=0:=by simpa using hj
  rfl
 ·simp only[List.length_singleton]
  omega
 rw[show rowS g 5 byE 1 cap [c]=rowB g 5 cap [c] from (rowB_Y ..).symm]
 (((repeat(first|refine wT ?_|refine wN fun bx=>?_)));(try refine wP ?_);repeat(refine wH ?_;clear hK))
 refine awp_permS (List.Perm.swap _ _ _) ?_
 repeat(first|refine wD ?_|refine awp_seq_k fun K hK=>?_|refine wN fun bx=>?_|(refine wH ?_;clear hK))
 exact fnQ_ret 0 rfl (.tmp rfl .nil) (Sub.refl _) ⟨rfl,⟨(g,cap),h1,h2⟩,rfl⟩
theorem wbyte_c (b g cap:Nat) (s:List UInt8) (c:UInt8) (hc:s.length≤cap) (hm:cap≤maxLen) (hl:s.length≤1000000000):
  ACalls Tryz.prog 40 [.ptr b 0,.int .u8 (c.toNat:Nat)] (bldH b g cap s) (fun r H'=>r=.ret .nilIface∧∃q:Rm (s++[c]),H'=bldH b q.1.1 q.1.2 (s++[c])):=by
 refine acalls_of_awp tyok cbWByte Tryz.func40 rfl rfl ?_
 unfold bldH
 rw[rowB_Y]
 repeat(first|refine wD ?_|refine awp_seq_k fun K hK=>?_|refine wN fun bx=>?_|(refine wH ?_;clear hK))
 (first|refine qcallE .here (copyCheck_c b (.ptr b 0) _ (.inr rfl)) ?_|refine qcallE (.there .here) (copyCheck_c b (.ptr b 0) _ (.inr rfl)) ?_|refine qcallE (.there (.there .here)) (copyCheck_c b (.ptr b 0) _ (.inr rfl)) ?_|refine qcallE (.there (.there (.there .here))) (copyCheck_c b (.ptr b 0) _ (.inr rfl)) ?_|refine qcallE (.there (.there (.there (.there .here)))) (copyCheck_c b (.ptr b 0) _ (.inr rfl)) ?_)
 repeat(first|refine wD ?_|refine awp_seq_k fun K hK=>?_|refine wN fun bx=>?_|(refine wH ?_;clear hK))
 refine qappB tyok byE s [c] (fun j hj=>?_) (fun _ _=>rfl) hc hm ?_ (fun g' cap' h1 h2=>?_)
 ·obtain rfl:j=0:=by simpa using hj
  rfl
 ·simp only[List.length_singleton]
  omega
 repeat(first|refine wD ?_|refine awp_seq_k fun K hK=>?_|refine wN fun bx=>?_|(refine wH ?_;clear hK))
 refine fnQ_ret 0 rfl (.tmp rfl .nil) (Sub.refl _) ⟨rfl,⟨(g',cap'),by rw[List.length_append];exact h1,h2⟩,?_⟩
 show [Ent.box b 79 (.agg [.ptr b 0,.mslice g' 0 (s.length+[c].length) cap']),rowY g' 5 cap' (s++[c])]=[Ent.box b 79 (.agg [.ptr b 0,.mslice g' 0 (s++[c]).length cap']),rowB g' 5 cap' (s++[c])]
 rw[rowB_Y,List.length_append]
end Go.Proofs.YtamgilppehibeaaGreatDoor
namespace Go.Proofs.YtamgilppehibeaaGreatDoor
open Go.Ab Go.RowKit
def strE (x:List UInt8):List AV:=[.str x]
theorem join_c (xs:List (List UInt8)) (sep:List UInt8) (o:Ab.Own) (hN:xs.length≤1000000000) (hlen:(Lib.join xs sep).length≤1000000000):
  PCalls Tryz.prog 94 [sl strE 1 xs o,.str sep] (.str (Lib.join xs sep)):=
 pcalls_of_below (fun _ _=>by kernel_rfl) fun st w xv hx _=>by
  obtain⟨x,y,rfl,h1,h2⟩:=repL2 hx
  rw[h2.str_eq]
  cases h1 with
  |slice _ _ _ _ a cap b off c hn hbase hlen1 hcell hrep hown hone=>
  cases hxs:xs with
  |nil=>
   rw[hxs]at hn hbase
   refine(Tryz.strings_Join_none a cap ⟨sep.toArray⟩ w).mono ?_
   rintro e w' ⟨rfl,rfl⟩
   exact⟨_,rfl,fun _ _=>.str _,Below.refl _ _⟩
  |cons x0 r0=>
   have hpos:0<xs.length:=by rw[hxs];simp
   rw[←hxs]
   obtain rfl:a=some ⟨b,off,none⟩:=hbase.resolve_left (by omega)
   have hc:∀i,i<xs.length→w.cell? ⟨b,off+i,none⟩=some (.string ⟨(xs.getD i default).toArray⟩):=by
    intro i hi
    have g:=(hcell i 0 hi (by omega)).2
    have gr:=hrep i 0 (.str (xs.getD i default)) hi rfl
    rw[gr.str_eq]at g
    simpa using g
   have hb:b<w.heap.size:=by
    have:=hc 0 hpos
    unfold World.cell? at this
    cases hh:w.heap[b]? with
    |none=>rw[hh]at this;cases this
    |some o=>exact(Array.getElem?_eq_some_iff.1 hh).1
   have e:(xs.map fun l=>(⟨l.toArray⟩:ByteArray)).map (·.data.toList)=xs:=by simp[List.map_map,Function.comp_def]
   have hj:=Tryz.strings_Join b off cap (xs.map fun l=>⟨l.toArray⟩) ⟨sep.toArray⟩ w (fun j x hx=>?_) hb (by simp;omega) (by simpa using hn) (by rw[e];show(Lib.join xs sep).length≤_;omega)
   ·rw[e,List.length_map]at hj
    refine hj.mono ?_
    rintro e w' ⟨rfl,hw⟩
    exact⟨_,rfl,fun _ _=>.str _,hw⟩
   ·simp only[List.getElem?_map,Option.map_eq_some_iff]at hx
    obtain⟨l,hl,rfl⟩:=hx
    have hj:=(List.getElem?_eq_some_iff.1 hl).1
    have:=hc j hj
    rw[this]
    simp[List.getD,hl]
end Go.Proofs.YtamgilppehibeaaGreatDoor
