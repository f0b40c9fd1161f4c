/-
  FigureTables: what is told may be written over, and is told again as it was.
-/
import Derived.Test.YtcbdfmmiigpddaaDoorFh4
set_option maxRecDepth 100000
set_option maxHeartbeats 12800000
namespace Go.Proofs.YtcbdfmmiigpddaaDoor
open Go.Ab
theorem PathM.set {M:Mem} {b o:Nat} (p:PathM M b o) (v:Int):(memSet M p.b2 (p.o2+1) (.int .i64 v)) b o=some (.slice (some ⟨p.b1,p.o1,none⟩) p.n1 p.cap1)∧∃x,(memSet M p.b2 (p.o2+1) (.int .i64 v)) p.b1 p.o1=some (.int .i64 x):=by
 obtain⟨b1,o1,n1,cap1,b2,o2,n2,cap2,x,y,h1,p1,h2,h3,p2,h4⟩:=p
 simp only
 unfold memSet
 constructor
 ·split
  ·rename_i e
   rw[e.1,e.2,h4]at h1
   cases h1
  ·exact h1
 ·split
  ·exact⟨v,rfl⟩
  ·exact⟨_,h2⟩
theorem figP_pos {f:FigR} (h:figP f=true):(0:Int)<f.eqs.length:=by
 unfold figP at h
 split at h
 ·rename_i heq
  rw[heq]
  simp only[List.length_cons]
  omega
 ·cases h
theorem fig_none (w:List UInt8):figV (conF w)=.tuple [.agg (figE (match conF w with|some f=>f|none=>figZ)),.bool (conF w).isSome]:=by
 cases conF w<;>rfl
theorem fig_noneP (w:List UInt8):figV (preF w)=.tuple [.agg (figE (match preF w with|some f=>f|none=>figZ)),.bool (preF w).isSome]:=by
 cases preF w<;>rfl
theorem figZ_L:FigL figZ:=⟨Nat.zero_le _,Nat.zero_le _,Nat.zero_le _,fun _ hl=>absurd hl List.not_mem_nil,fun _ hl=>absurd hl List.not_mem_nil⟩
theorem row_at {base:Int} {F:List UInt8→Option FigR} {rs:List RowR} (h:rs.all (rowQ base F)=true) {i:Nat} (hi:i<rs.length):∃f,RowOk base F (rs.getD i default) f:=
 rowQ_of (List.all_eq_true.1 h _ (getD_mem hi))
theorem figO_det (f:FigR) (z:ZF):Det (.agg (figOE f z)):=Det.agg fun v hv=>by
 simp only[figOE,List.mem_cons,List.not_mem_nil,or_false]at hv
 rcases hv with rfl|rfl|rfl|rfl|rfl|rfl|rfl
 ·exact .str _
 ·exact .int _ _
 ·exact .int _ _
 ·exact Det.own
 ·exact Det.own
 ·exact .str _
 ·exact Det.own
def overW (ws:List (List UInt8)) (k:Nat):List (List UInt8):=List.replicate k []++ws.drop k
theorem overW_len {ws:List (List UInt8)} {k:Nat} (h:k≤ws.length):(overW ws k).length=ws.length:=by
 unfold overW
 rw[List.length_append,List.length_replicate,List.length_drop]
 omega
theorem overW_at {ws:List (List UInt8)} {k:Nat} (_h:k<ws.length):(overW ws k).getD k default=ws.getD k default:=by
 unfold overW
 rw[List.getD_eq_getElem?_getD,List.getElem?_append_right (by simp),List.length_replicate,List.getElem?_drop,Nat.sub_self,Nat.add_zero,List.getD_eq_getElem?_getD]
theorem overW_set {ws:List (List UInt8)} {k:Nat} (h:k<ws.length):(overW ws k).set k []=overW ws (k+1):=by
 unfold overW
 rw[List.set_append_right _ _ (by simp),List.length_replicate,Nat.sub_self,List.drop_eq_getElem_cons h,List.set_cons_zero,List.replicate_succ',List.append_assoc]
 rfl
theorem overW_zero (ws:List (List UInt8)):overW ws 0=ws:=rfl
structure TabS (ws:List (List UInt8)) (b o:Nat) where
 k:Nat
 M:Mem
 le:k≤ws.length
 txt:txtM M b o (overW ws k)
theorem rows_len {rs:List RowR} {ws:List (List UInt8)} (h:ws=rs.map (·.word)) {k:Nat} (hk:k<rs.length):ws.getD k default=(rs.getD k default).word:=by
 subst h
 rw[List.getD_eq_getElem?_getD,List.getD_eq_getElem?_getD,List.getElem?_map,List.getElem?_eq_getElem hk]
 rfl
theorem cbFt:Callable Tryd.prog 3:=fun _ _=>by kernel_rfl
theorem figureTables_c (w:List UInt8):PCalls Tryd.prog 3 [.str w] (.bool true):=by
 refine pcalls_of_awp tyok cbFt Tryd.func3 rfl rfl ?_
 have kn:=known21_c
 by_cases hlong:(w.length:Int)>100
 ·repeat(first|refine wDB ?_|refine awp_seq_k fun K hK=>?_|refine wN fun bx=>?_|refine qpc rfl rfl rfl (kn) ?_|refine qpo rfl rfl rfl rfl rfl rfl (fun _=>kn) ?_|(refine wH ?_;clear hK))
  refine r1 ?_
  exact Sub.refl _
 have gm:=made22_c
 have ga:=asked22_c
 have lm:made22.length=29:=made22_pos
 have la:asked22.length=20:=asked22_pos
 have wm:(wordsT made21).length=made22.length:=by rw[made_words,List.length_map]
 have wa:(wordsT asked21).length=asked22.length:=by rw[asked_words,List.length_map]
 repeat(first|refine wDB ?_|refine awp_seq_k fun K hK=>?_|refine wN fun bx=>?_|(refine wH ?_;clear hK))
 refine awp_loop0 (ι:={k:Nat//k≤2}) (fun k=>[(0,.str w),(25,.int .i64 k.1)]) (fun _=>[]) (fun k=>2-k.1) ⟨0,Nat.zero_le _⟩ wk dp ?_
 rintro⟨k,hk⟩
 simp only at hk ⊢
 by_cases hlt:k<2
 rotate_left
 ·have hge:¬(k:Int)<2:=by omega
  have gc:=construction_c w
  have gp:=predicate_c w
  have fc:=find22_c made22 w made22_len
  have fp:=find22_c asked22 w asked22_len
  have gz:PCalls Tryd.prog 10 [.agg (figE figZ),.agg [.str [],.int .i64 0,.int .i64 0,.nils,.nils,.str [],.nils]] (.bool true):=(same21_c figZ figZ_L).sub (.cons (Sub.refl _) (.cons figZ_sub .nil))
  rcases con_row w with⟨h1,h2⟩|⟨r,f,h1,h2,-⟩<;>rcases pre_row w with⟨h3,h4⟩|⟨r',f',h3,h4,-⟩<;>rw[h2]at gc<;>rw[h1]at fc<;>rw[h4]at gp<;>rw[h3]at fp<;>simp only[figV]at gc gp
  all_goals
   repeat(first|refine wDB ?_|refine awp_seq_k fun K hK=>?_|refine wN fun bx=>?_|refine qpc rfl rfl rfl (kn) ?_|refine qpc rfl rfl rfl (gc) ?_|refine qpc rfl rfl rfl (gp) ?_|refine qpc rfl rfl rfl (gm) ?_|refine qpc rfl rfl rfl (ga) ?_|refine qpc rfl rfl rfl (fc) ?_|refine qpc rfl rfl rfl (fp) ?_|refine qpc rfl rfl rfl (gz) ?_|refine qpo rfl rfl rfl rfl rfl rfl (fun _=>kn) ?_|refine qpo rfl rfl rfl rfl rfl rfl (fun _=>gc) ?_|refine qpo rfl rfl rfl rfl rfl rfl (fun _=>gp) ?_|refine qpo rfl rfl rfl rfl rfl rfl (fun _=>gm) ?_|refine qpo rfl rfl rfl rfl rfl rfl (fun _=>ga) ?_|refine qpo rfl rfl rfl rfl rfl rfl (fun _=>fc) ?_|refine qpo rfl rfl rfl rfl rfl rfl (fun _=>fp) ?_|refine qpo rfl rfl rfl rfl rfl rfl (fun _=>gz) ?_|(refine wH ?_;clear hK))
   refine r1 ?_
   exact Sub.refl _
 have hlt':(k:Int)<2:=by omega
 repeat(first|refine wDB ?_|refine awp_seq_k fun K hK=>?_|refine wN fun bx=>?_|(refine wH ?_;clear hK))
 refine qcallXV (G:=[]) (H2:=fun t=>[memE t.M]) (thaw_txt (ws:=wordsT made21) (by omega) constructions_c) ?_
 rintro⟨_,za,Ma,ga1,ga2⟩
 refine qcallXV (G:=[memE Ma]) (H2:=fun t=>[memE Ma,memE t.M]) (thaw_txt (ws:=wordsT asked21) (by omega) predicates_c) ?_
 rintro⟨_,zb,Mb,gb1,gb2⟩
 simp only at ga1 ga2 gb1 gb2 ⊢
 repeat(first|refine wDB ?_|refine awp_seq_k fun K hK=>?_|refine wN fun bx=>?_|refine qpc rfl rfl rfl (gm) ?_|refine qpc rfl rfl rfl (ga) ?_|refine qpo rfl rfl rfl rfl rfl rfl (fun _=>gm) ?_|refine qpo rfl rfl rfl rfl rfl rfl (fun _=>ga) ?_|(refine wH ?_;clear hK))
 refine awp_own (t:=5) rfl fun a5 c5=>?_
 refine awp_own (t:=6) rfl fun a6 c6=>?_
 refine awp_loopP (ι:=TabS (wordsT made21) za.b za.o) (fun y=>[(0,.str w),(3,.mslice za.b za.o (wordsT made21).length za.cap),(4,.mslice zb.b zb.o (wordsT asked21).length zb.cap),(5,sl rowE 6 made22 (.own a5 c5)),(6,sl rowE 6 asked22 (.own a6 c6)),(25,.int .i64 k),(44,.int .i64 (wordsT made21).length),(45,.int .i64 y.k)]) (fun y=>[memE y.M,memE Mb]) (fun y=>(wordsT made21).length-y.k) ⟨0,Ma,Nat.zero_le _,ga1⟩ wk (by(repeat(first|exact pickNil|refine pickD (by(first|exact .here|exact .there (.here)|exact .there (.there (.here))|exact .there (.there (.there (.here)))|exact .there (.there (.there (.there (.here))))|exact .there (.there (.there (.there (.there (.here)))))|exact .there (.there (.there (.there (.there (.there (.here))))))|exact .there (.there (.there (.there (.there (.there (.there (.here)))))))|exact .there (.there (.there (.there (.there (.there (.there (.there (.here))))))))|exact .there (.there (.there (.there (.there (.there (.there (.there (.there (.here))))))))))) ?_))) ?_
 rintro⟨i,M,hi,htx⟩
 simp only at hi ⊢
 by_cases hil:i<(wordsT made21).length
 rotate_left
 ·have hge:¬(i:Int)<((wordsT made21).length:Int):=by omega
  repeat(first|refine wDB ?_|refine awp_seq_k fun K hK=>?_|refine wN fun bx=>?_|(refine wH ?_;clear hK))
  refine awp_loopP (ι:=TabS (wordsT asked21) zb.b zb.o) (fun y=>[(0,.str w),(4,.mslice zb.b zb.o (wordsT asked21).length zb.cap),(6,sl rowE 6 asked22 (.own a6 c6)),(25,.int .i64 k),(108,.int .i64 (wordsT asked21).length),(109,.int .i64 y.k)]) (fun y=>[memE y.M]) (fun y=>(wordsT asked21).length-y.k) ⟨0,Mb,Nat.zero_le _,gb1⟩ wk (by(repeat(first|exact pickNil|refine pickD (by(first|exact .here|exact .there (.here)|exact .there (.there (.here))|exact .there (.there (.there (.here)))|exact .there (.there (.there (.there (.here))))|exact .there (.there (.there (.there (.there (.here)))))|exact .there (.there (.there (.there (.there (.there (.here))))))|exact .there (.there (.there (.there (.there (.there (.there (.here)))))))|exact .there (.there (.there (.there (.there (.there (.there (.there (.here))))))))|exact .there (.there (.there (.there (.there (.there (.there (.there (.there (.here))))))))))) ?_))) ?_
  rintro⟨i,M,hi,htx⟩
  simp only at hi ⊢
  by_cases hil:i<(wordsT asked21).length
  rotate_left
  ·have hge:¬(i:Int)<((wordsT asked21).length:Int):=by omega
   repeat(first|refine wDB ?_|refine awp_seq_k fun K hK=>?_|refine wN fun bx=>?_|(refine wH ?_;clear hK))
   exact⟨⟨k+1,hlt⟩,wk,⟨1,rfl⟩,by simp only;omega⟩
  have hil':(i:Int)<((wordsT asked21).length:Int):=by omega
  have hir:i<asked22.length:=by omega
  obtain⟨f,hok⟩:=row_at asked_rows hir
  have hwd:=rows_len asked_words hir
  have hol:=overW_len hi
  have hoa:=overW_at hil
  have hcell:=htx i (by omega)
  rw[hoa,hwd]at hcell
  have hcap:=gb2
  have hcon:=predicate_c (asked22.getD i default).word
  rw[hok.has]at hcon
  have gfig:=fig21_c (asked22.getD i default) 0 f (by decide) (by decide) hok.fig hok.e1 hok.e2 hok.e3
  have hfe:=figP_pos hok.p
  have htx2:=txtM_set htx (k:=i) (by omega) []
  rw[overW_set hil]at htx2
  repeat(first|refine wDB ?_|refine awp_seq_k fun K hK=>?_|refine wN fun bx=>?_|(refine wH ?_;clear hK))
  refine qldW tyok (.str (asked22.getD i default).word) (c:=strC (asked22.getD i default).word) (by simpa using hcell) (fun _ _=>.str _) ?_
  refine qcallXV (G:=[memE M]) (H2:=fun t=>[memE M,memE t.M]) (thaw_fig hok.p hcon) ?_
  rintro⟨_,zf,Mf,hfl,⟨pth⟩⟩
  simp only at hfl pth ⊢
  ((repeat(first|refine wKB ?_|refine awp_seq_k fun K hK=>?_|(refine wH ?_;clear hK)));refine wN fun b8=>?_;(repeat(first|refine wKB ?_|refine awp_seq_k fun K hK=>?_|refine wN fun bx=>?_|(refine wH ?_;clear hK))))
  refine awp_boxSub [] (v':=.agg (figCE f zf)) (Sub.of_eq rfl) ?_
  have gsame:PCalls Tryd.prog 10 [.agg (figOE f zf),.agg (figE f)] (.bool true):=(same21_c f hok.l).sub (.cons (subAgg (figO_sub f zf)) (.cons (Sub.refl _) .nil))
  refine awp_pick (.there .here) ?_
  refine awp_pick (.there (.there .here)) ?_
  refine awp_lendW (T1:=[(0,.str w),(4,.mslice zb.b zb.o (wordsT asked21).length zb.cap),(6,sl rowE 6 asked22 (.own a6 c6)),(25,.int .i64 k),(108,.int .i64 (wordsT asked21).length),(109,.int .i64 i),(10,.int .i64 i),(11,.ptr b8 0),(12,.bool true)]) (T2:=[(0,.str w),(4,.mslice zb.b zb.o (wordsT asked21).length zb.cap),(6,sl rowE 6 asked22 (.own a6 c6)),(25,.int .i64 k),(108,.int .i64 (wordsT asked21).length),(109,.int .i64 i),(10,.int .i64 i),(11,.ptr b8 0),(12,.bool true),(143,.bool false)]) (G1:=[memE M,.box b8 33 (.agg (figOE f zf))]) (Qu:=fun x T' H'=>x=.normal∧H'=[memE M,.box b8 33 (.agg (figOE f zf))]∧Back _ T' _) (.cons rfl (SubM.rfl' _) (.cons rfl (SubM.rfl' _) (.cons rfl (SubM.rfl' _) (.cons rfl (SubM.rfl' _) (.cons rfl (SubM.rfl' _) (.cons rfl (SubM.rfl' _) (.cons rfl (SubM.rfl' _) (.cons rfl (SubM.rfl' _) (.cons rfl (SubM.rfl' _) .nil))))))))) (.cons (.mem _) (.cons (.box hfl (figO_imp f zf)) .nil)) ?_ (fun _ _ _ h=>h) ?_
  ·refine awp_lendW (T1:=[(0,.str w),(4,sl txtE 1 (overW (wordsT asked21) i) (.own (some ⟨zb.b,zb.o,none⟩) zb.cap)),(6,sl rowE 6 asked22 (.own a6 c6)),(25,.int .i64 k),(108,.int .i64 (wordsT asked21).length),(109,.int .i64 i),(10,.int .i64 i),(11,.ptr b8 0),(12,.bool true)]) (T2:=[(0,.str w),(4,.mslice zb.b zb.o (wordsT asked21).length zb.cap),(6,sl rowE 6 asked22 (.own a6 c6)),(25,.int .i64 k),(108,.int .i64 (wordsT asked21).length),(109,.int .i64 i),(10,.int .i64 i),(11,.ptr b8 0),(12,.bool true),(143,.bool false)]) (G1:=[.box b8 33 (.agg (figOE f zf))]) (Qu:=fun x T' H'=>x=.normal∧H'=[.box b8 33 (.agg (figOE f zf))]∧Back _ T' _) (.cons rfl (SubM.rfl' _) (.cons rfl (by rw[←hol];exact txtM_sub htx (by rw[hol];exact hcap)) (.cons rfl (SubM.rfl' _) (.cons rfl (SubM.rfl' _) (.cons rfl (SubM.rfl' _) (.cons rfl (SubM.rfl' _) (.cons rfl (SubM.rfl' _) (.cons rfl (SubM.rfl' _) (.cons rfl (SubM.rfl' _) .nil))))))))) (.cons (.det (figO_det f zf)) .nil) ?_ (fun _ _ _ h=>h) ⟨rfl,rfl,(.cons rfl (.inl (Imp.str _)) (.cons rfl (.inl (Imp.msl _ _ _ _)) (.cons rfl (.inr ⟨rfl,rfl,Det.own⟩) (.cons rfl (.inl (Imp.int _ _)) (.cons rfl (.inl (Imp.int _ _)) (.cons rfl (.inl (Imp.int _ _)) (.cons rfl (.inl (Imp.int _ _)) (.cons rfl (.inl (Imp.ptr _ _)) (.cons rfl (.inl (Imp.bool _)) (.cons rfl (.inl (Imp.bool _)) .nil))))))))))⟩
   have hne:(!((overW (wordsT asked21) i).getD ((i:Int)).toNat default==(asked22.getD ((i:Int)).toNat default).word))=false:=by
    rw[Int.toNat_natCast,hoa,hwd]
    simp
   refine areg_soft mixed tyok [20,21] [] (List.range 24) (by decide +kernel) ?_
   iterate 10 (refine qp ?_)
   rw[hne]
   repeat(first|refine wDB ?_|refine awp_seq_k fun K hK=>?_|refine wN fun bx=>?_|refine qpc rfl rfl rfl (gfig) ?_|refine qpc rfl rfl rfl (gsame) ?_|refine qpo rfl rfl rfl rfl rfl rfl (fun _=>gfig) ?_|refine qpo rfl rfl rfl rfl rfl rfl (fun _=>gsame) ?_|(refine wH ?_;clear hK))
   exact⟨rfl,rfl,(.cons rfl (.inl (Imp.str _)) (.cons rfl (.inl (by rw[←hol];exact Imp.mslice)) (.cons rfl (.inr ⟨rfl,rfl,Det.own⟩) (.cons rfl (.inl (Imp.int _ _)) (.cons rfl (.inl (Imp.int _ _)) (.cons rfl (.inl (Imp.int _ _)) (.cons rfl (.inl (Imp.int _ _)) (.cons rfl (.inl (Imp.ptr _ _)) (.cons rfl (.inl (Imp.bool _)) (.cons rfl (.inl (Imp.bool _)) .nil))))))))))⟩
  repeat(first|refine wDB ?_|refine awp_seq_k fun K hK=>?_|refine wN fun bx=>?_|(refine wH ?_;clear hK))
  refine qldW tyok (M:=Mf) (.mslice pth.b1 pth.o1 pth.n1 pth.cap1) (c:=.slice (some ⟨pth.b1,pth.o1,none⟩) pth.n1 pth.cap1) pth.h1 (fun _ _=>.mslice _ _ _ _) ?_
  repeat(first|refine wDB ?_|refine awp_seq_k fun K hK=>?_|refine wN fun bx=>?_|(refine wH ?_;clear hK))
  refine qiaM tyok ?_ (hj:=⟨by decide,by have:=pth.p1;omega⟩)
  repeat(first|refine wDB ?_|refine awp_seq_k fun K hK=>?_|refine wN fun bx=>?_|(refine wH ?_;clear hK))
  refine qldW tyok (M:=Mf) (.int .i64 pth.x) (c:=.int .i64 pth.x) pth.h2 (fun _ _=>.int _ _) ?_
  refine qaddw ?_
  repeat(first|refine wDB ?_|refine awp_seq_k fun K hK=>?_|refine wN fun bx=>?_|(refine wH ?_;clear hK))
  refine qiaM tyok ?_ (hj:=⟨by decide,by have:=pth.p1;omega⟩)
  repeat(first|refine wDB ?_|refine awp_seq_k fun K hK=>?_|refine wN fun bx=>?_|(refine wH ?_;clear hK))
  refine qstW tyok (M:=Mf) (c0:=.int .i64 pth.x) (c:=.int .i64 (IntKind.i64.wrap (pth.x+1))) pth.h2 (int_det _ _) (int_one _ _) ?_
  repeat(first|refine wDB ?_|refine awp_seq_k fun K hK=>?_|refine wN fun bx=>?_|(refine wH ?_;clear hK))
  refine qstW tyok (M:=M) (c0:=strC (asked22.getD i default).word) (c:=strC []) (by simpa using hcell) (str_det _) (str_one _) ?_
  repeat(first|refine wDB ?_|refine awp_seq_k fun K hK=>?_|refine wN fun bx=>?_|(refine wH ?_;clear hK))
  exact⟨⟨i+1,_,hil,htx2⟩,wk,(by(repeat(first|exact pickNil|refine pickD (by(first|exact .here|exact .there (.here)|exact .there (.there (.here))|exact .there (.there (.there (.here)))|exact .there (.there (.there (.there (.here))))|exact .there (.there (.there (.there (.there (.here)))))|exact .there (.there (.there (.there (.there (.there (.here))))))|exact .there (.there (.there (.there (.there (.there (.there (.here)))))))|exact .there (.there (.there (.there (.there (.there (.there (.there (.here))))))))|exact .there (.there (.there (.there (.there (.there (.there (.there (.there (.here))))))))))) ?_))),by simp only;omega⟩
 have hil':(i:Int)<((wordsT made21).length:Int):=by omega
 have hir:i<made22.length:=by omega
 obtain⟨f,hok⟩:=row_at made_rows hir
 have hwd:=rows_len made_words hir
 have hol:=overW_len hi
 have hoa:=overW_at hil
 have hcell:=htx i (by omega)
 rw[hoa,hwd]at hcell
 have hcap:=ga2
 have hcon:=construction_c (made22.getD i default).word
 rw[hok.has]at hcon
 have gfig:=fig21_c (made22.getD i default) 1 f (by decide) (by decide) hok.fig hok.e1 hok.e2 hok.e3
 have hfe:=figP_pos hok.p
 have htx2:=txtM_set htx (k:=i) (by omega) []
 rw[overW_set hil]at htx2
 repeat(first|refine wDB ?_|refine awp_seq_k fun K hK=>?_|refine wN fun bx=>?_|(refine wH ?_;clear hK))
 refine qldW tyok (.str (made22.getD i default).word) (c:=strC (made22.getD i default).word) (by simpa using hcell) (fun _ _=>.str _) ?_
 refine qcallXV (G:=[memE M,memE Mb]) (H2:=fun t=>[memE M,memE Mb,memE t.M]) (thaw_fig hok.p hcon) ?_
 rintro⟨_,zf,Mf,hfl,⟨pth⟩⟩
 simp only at hfl pth ⊢
 ((repeat(first|refine wKB ?_|refine awp_seq_k fun K hK=>?_|(refine wH ?_;clear hK)));refine wN fun b8=>?_;(repeat(first|refine wKB ?_|refine awp_seq_k fun K hK=>?_|refine wN fun bx=>?_|(refine wH ?_;clear hK))))
 refine awp_boxSub [] (v':=.agg (figCE f zf)) (Sub.of_eq rfl) ?_
 have gsame:PCalls Tryd.prog 10 [.agg (figOE f zf),.agg (figE f)] (.bool true):=(same21_c f hok.l).sub (.cons (subAgg (figO_sub f zf)) (.cons (Sub.refl _) .nil))
 refine awp_pick (.there .here) ?_
 refine awp_pick (.there (.there (.there .here))) ?_
 refine awp_lendW (T1:=[(0,.str w),(3,.mslice za.b za.o (wordsT made21).length za.cap),(4,.mslice zb.b zb.o (wordsT asked21).length zb.cap),(5,sl rowE 6 made22 (.own a5 c5)),(6,sl rowE 6 asked22 (.own a6 c6)),(25,.int .i64 k),(44,.int .i64 (wordsT made21).length),(45,.int .i64 i),(7,.int .i64 i),(8,.ptr b8 0),(9,.bool true)]) (T2:=[(0,.str w),(3,.mslice za.b za.o (wordsT made21).length za.cap),(4,.mslice zb.b zb.o (wordsT asked21).length zb.cap),(5,sl rowE 6 made22 (.own a5 c5)),(6,sl rowE 6 asked22 (.own a6 c6)),(25,.int .i64 k),(44,.int .i64 (wordsT made21).length),(45,.int .i64 i),(7,.int .i64 i),(8,.ptr b8 0),(9,.bool true),(79,.bool false)]) (G1:=[memE M,.box b8 33 (.agg (figOE f zf)),memE Mb]) (Qu:=fun x T' H'=>x=.normal∧H'=[memE M,.box b8 33 (.agg (figOE f zf)),memE Mb]∧Back _ T' _) (.cons rfl (SubM.rfl' _) (.cons rfl (SubM.rfl' _) (.cons rfl (SubM.rfl' _) (.cons rfl (SubM.rfl' _) (.cons rfl (SubM.rfl' _) (.cons rfl (SubM.rfl' _) (.cons rfl (SubM.rfl' _) (.cons rfl (SubM.rfl' _) (.cons rfl (SubM.rfl' _) (.cons rfl (SubM.rfl' _) (.cons rfl (SubM.rfl' _) .nil))))))))))) (.cons (.mem _) (.cons (.box hfl (figO_imp f zf)) (.cons (.mem _) .nil))) ?_ (fun _ _ _ h=>h) ?_
 ·refine awp_lendW (T1:=[(0,.str w),(3,sl txtE 1 (overW (wordsT made21) i) (.own (some ⟨za.b,za.o,none⟩) za.cap)),(4,.mslice zb.b zb.o (wordsT asked21).length zb.cap),(5,sl rowE 6 made22 (.own a5 c5)),(6,sl rowE 6 asked22 (.own a6 c6)),(25,.int .i64 k),(44,.int .i64 (wordsT made21).length),(45,.int .i64 i),(7,.int .i64 i),(8,.ptr b8 0),(9,.bool true)]) (T2:=[(0,.str w),(3,.mslice za.b za.o (wordsT made21).length za.cap),(4,.mslice zb.b zb.o (wordsT asked21).length zb.cap),(5,sl rowE 6 made22 (.own a5 c5)),(6,sl rowE 6 asked22 (.own a6 c6)),(25,.int .i64 k),(44,.int .i64 (wordsT made21).length),(45,.int .i64 i),(7,.int .i64 i),(8,.ptr b8 0),(9,.bool true),(79,.bool false)]) (G1:=[.box b8 33 (.agg (figOE f zf)),memE Mb]) (Qu:=fun x T' H'=>x=.normal∧H'=[.box b8 33 (.agg (figOE f zf)),memE Mb]∧Back _ T' _) (.cons rfl (SubM.rfl' _) (.cons rfl (by rw[←hol];exact txtM_sub htx (by rw[hol];exact hcap)) (.cons rfl (SubM.rfl' _) (.cons rfl (SubM.rfl' _) (.cons rfl (SubM.rfl' _) (.cons rfl (SubM.rfl' _) (.cons rfl (SubM.rfl' _) (.cons rfl (SubM.rfl' _) (.cons rfl (SubM.rfl' _) (.cons rfl (SubM.rfl' _) (.cons rfl (SubM.rfl' _) .nil))))))))))) (.cons (.det (figO_det f zf)) (.cons (.mem _) .nil)) ?_ (fun _ _ _ h=>h) ⟨rfl,rfl,(.cons rfl (.inl (Imp.str _)) (.cons rfl (.inl (Imp.msl _ _ _ _)) (.cons rfl (.inl (Imp.msl _ _ _ _)) (.cons rfl (.inr ⟨rfl,rfl,Det.own⟩) (.cons rfl (.inr ⟨rfl,rfl,Det.own⟩) (.cons rfl (.inl (Imp.int _ _)) (.cons rfl (.inl (Imp.int _ _)) (.cons rfl (.inl (Imp.int _ _)) (.cons rfl (.inl (Imp.int _ _)) (.cons rfl (.inl (Imp.ptr _ _)) (.cons rfl (.inl (Imp.bool _)) (.cons rfl (.inl (Imp.bool _)) .nil))))))))))))⟩
  have hne:(!((overW (wordsT made21) i).getD ((i:Int)).toNat default==(made22.getD ((i:Int)).toNat default).word))=false:=by
   rw[Int.toNat_natCast,hoa,hwd]
   simp
  refine areg_soft mixed tyok [20,21] [] (List.range 24) (by decide +kernel) ?_
  iterate 10 (refine qp ?_)
  rw[hne]
  repeat(first|refine wDB ?_|refine awp_seq_k fun K hK=>?_|refine wN fun bx=>?_|refine qpc rfl rfl rfl (gfig) ?_|refine qpc rfl rfl rfl (gsame) ?_|refine qpo rfl rfl rfl rfl rfl rfl (fun _=>gfig) ?_|refine qpo rfl rfl rfl rfl rfl rfl (fun _=>gsame) ?_|(refine wH ?_;clear hK))
  exact⟨rfl,rfl,(.cons rfl (.inl (Imp.str _)) (.cons rfl (.inl (by rw[←hol];exact Imp.mslice)) (.cons rfl (.inl (Imp.msl _ _ _ _)) (.cons rfl (.inr ⟨rfl,rfl,Det.own⟩) (.cons rfl (.inr ⟨rfl,rfl,Det.own⟩) (.cons rfl (.inl (Imp.int _ _)) (.cons rfl (.inl (Imp.int _ _)) (.cons rfl (.inl (Imp.int _ _)) (.cons rfl (.inl (Imp.int _ _)) (.cons rfl (.inl (Imp.ptr _ _)) (.cons rfl (.inl (Imp.bool _)) (.cons rfl (.inl (Imp.bool _)) .nil))))))))))))⟩
 repeat(first|refine wDB ?_|refine awp_seq_k fun K hK=>?_|refine wN fun bx=>?_|(refine wH ?_;clear hK))
 refine qldW tyok (M:=Mf) (.mslice pth.b1 pth.o1 pth.n1 pth.cap1) (c:=.slice (some ⟨pth.b1,pth.o1,none⟩) pth.n1 pth.cap1) pth.h1 (fun _ _=>.mslice _ _ _ _) ?_
 repeat(first|refine wDB ?_|refine awp_seq_k fun K hK=>?_|refine wN fun bx=>?_|(refine wH ?_;clear hK))
 refine qiaM tyok ?_ (hj:=⟨by decide,by have:=pth.p1;omega⟩)
 repeat(first|refine wDB ?_|refine awp_seq_k fun K hK=>?_|refine wN fun bx=>?_|(refine wH ?_;clear hK))
 refine qldW tyok (M:=Mf) (.mslice pth.b2 pth.o2 pth.n2 pth.cap2) (c:=.slice (some ⟨pth.b2,pth.o2,none⟩) pth.n2 pth.cap2) pth.h3 (fun _ _=>.mslice _ _ _ _) ?_
 repeat(first|refine wDB ?_|refine awp_seq_k fun K hK=>?_|refine wN fun bx=>?_|(refine wH ?_;clear hK))
 refine qiaM tyok ?_ (hj:=⟨by decide,by have:=pth.p2;omega⟩)
 repeat(first|refine wDB ?_|refine awp_seq_k fun K hK=>?_|refine wN fun bx=>?_|(refine wH ?_;clear hK))
 refine qldW tyok (M:=Mf) (.int .i64 pth.y) (c:=.int .i64 pth.y) pth.h4 (fun _ _=>.int _ _) ?_
 refine qaddw ?_
 repeat(first|refine wDB ?_|refine awp_seq_k fun K hK=>?_|refine wN fun bx=>?_|(refine wH ?_;clear hK))
 refine qiaM tyok ?_ (hj:=⟨by decide,by have:=pth.p2;omega⟩)
 repeat(first|refine wDB ?_|refine awp_seq_k fun K hK=>?_|refine wN fun bx=>?_|(refine wH ?_;clear hK))
 refine qstW tyok (M:=Mf) (c0:=.int .i64 pth.y) (c:=.int .i64 (IntKind.i64.wrap (pth.y+1))) pth.h4 (int_det _ _) (int_one _ _) ?_
 obtain⟨hp1,xx,hp2⟩:=pth.set (IntKind.i64.wrap (pth.y+1))
 repeat(first|refine wDB ?_|refine awp_seq_k fun K hK=>?_|refine wN fun bx=>?_|(refine wH ?_;clear hK))
 refine qldW tyok (M:=(memSet Mf pth.b2 (pth.o2+1) (.int .i64 (IntKind.i64.wrap (pth.y+1))))) (.mslice pth.b1 pth.o1 pth.n1 pth.cap1) (c:=.slice (some ⟨pth.b1,pth.o1,none⟩) pth.n1 pth.cap1) hp1 (fun _ _=>.mslice _ _ _ _) ?_
 repeat(first|refine wDB ?_|refine awp_seq_k fun K hK=>?_|refine wN fun bx=>?_|(refine wH ?_;clear hK))
 refine qiaM tyok ?_ (hj:=⟨by decide,by have:=pth.p1;omega⟩)
 repeat(first|refine wDB ?_|refine awp_seq_k fun K hK=>?_|refine wN fun bx=>?_|(refine wH ?_;clear hK))
 refine qldW tyok (M:=(memSet Mf pth.b2 (pth.o2+1) (.int .i64 (IntKind.i64.wrap (pth.y+1))))) (.int .i64 xx) (c:=.int .i64 xx) hp2 (fun _ _=>.int _ _) ?_
 refine qaddw ?_
 repeat(first|refine wDB ?_|refine awp_seq_k fun K hK=>?_|refine wN fun bx=>?_|(refine wH ?_;clear hK))
 refine qiaM tyok ?_ (hj:=⟨by decide,by have:=pth.p1;omega⟩)
 repeat(first|refine wDB ?_|refine awp_seq_k fun K hK=>?_|refine wN fun bx=>?_|(refine wH ?_;clear hK))
 refine qstW tyok (M:=(memSet Mf pth.b2 (pth.o2+1) (.int .i64 (IntKind.i64.wrap (pth.y+1))))) (c0:=.int .i64 xx) (c:=.int .i64 (IntKind.i64.wrap (xx+1))) hp2 (int_det _ _) (int_one _ _) ?_
 repeat(first|refine wDB ?_|refine awp_seq_k fun K hK=>?_|refine wN fun bx=>?_|(refine wH ?_;clear hK))
 refine qstW tyok (M:=M) (c0:=strC (made22.getD i default).word) (c:=strC []) (by simpa using hcell) (str_det _) (str_one _) ?_
 repeat(first|refine wDB ?_|refine awp_seq_k fun K hK=>?_|refine wN fun bx=>?_|(refine wH ?_;clear hK))
 exact⟨⟨i+1,_,hil,htx2⟩,wk,(by(repeat(first|exact pickNil|refine pickD (by(first|exact .here|exact .there (.here)|exact .there (.there (.here))|exact .there (.there (.there (.here)))|exact .there (.there (.there (.there (.here))))|exact .there (.there (.there (.there (.there (.here)))))|exact .there (.there (.there (.there (.there (.there (.here))))))|exact .there (.there (.there (.there (.there (.there (.there (.here)))))))|exact .there (.there (.there (.there (.there (.there (.there (.there (.here))))))))|exact .there (.there (.there (.there (.there (.there (.there (.there (.there (.here))))))))))) ?_))),by simp only;omega⟩
end Go.Proofs.YtcbdfmmiigpddaaDoor
