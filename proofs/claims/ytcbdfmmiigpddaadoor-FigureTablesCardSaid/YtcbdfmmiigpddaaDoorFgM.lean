/-
  The figures' small functions: a letter's point, letters' points, a digit, a text taken off, a row.
-/
import Derived.Test.YtcbdfmmiigpddaaDoorFb
import Derived.Test.YtcbdfmmiigpddaaDoorSq
import Derived.Test.YtcbdfmmiigpddaaDoorRn
import Derived.Test.YtcbdfmmiigpddaaDoorAbC
set_option maxRecDepth 100000
set_option maxHeartbeats 6400000
namespace Go.Proofs.YtcbdfmmiigpddaaDoor
open Go.Ab
def formE (f:FormR):List AV:=[.int .u8 f.k,.int .i64 f.a,.int .i64 f.b,.int .i64 f.c,.int .i64 f.d]
def pieceE (p:PieceR):List AV:=[.int .i64 p.n,.int .i64 p.f,sl formE 5 p.fs .view]
def eqE (l:List PieceR):List AV:=[sl pieceE 3 l .view]
def pairE (p:Int×Int):List AV:=[.int .i64 p.1,.int .i64 p.2]
def numE (x:Int):List AV:=[.int .i64 x]
def figE (f:FigR):List AV:=[.str f.word,.int .i64 f.pts,.int .i64 f.nums,sl pairE 2 f.unl .view,sl eqE 1 f.eqs .view,.str f.bw,sl numE 1 f.bp .view]
theorem cbPoint:Callable Tryd.prog 30:=fun _ _=>by kernel_rfl
theorem point_c (c base:Int) (h1:65≤c) (h2:c≤90) (h3:0≤base) (h4:base≤1):PCalls Tryd.prog 30 [.int .u8 c,.int .i64 base] (.int .i64 (if c=80 then 0 else c-65+base)):=by
 refine pcalls_of_awp tyok cbPoint Tryd.func30 rfl rfl ?_
 by_cases hc:c=80
 ·repeat(first|refine wDB ?_|refine awp_seq_k fun K hK=>?_|refine wN fun bx=>?_|(refine wH ?_;clear hK))
  refine r1 ?_
  exact Sub.of_eq (by rw[if_pos hc])
 ·have e1:IntKind.u8.wrap (c-65)=c-65:=wrap_inK (by simp only[inK];omega)
  have e2:IntKind.i64.wrap (c-65)=c-65:=wrap_inK (by simp only[inK];omega)
  repeat(first|refine wDB ?_|refine awp_seq_k fun K hK=>?_|refine wN fun bx=>?_|(refine wH ?_;clear hK))
  refine qp ?_ (hp:=by rw[e1,e2];simp only[inK];omega)
  repeat(first|refine wDB ?_|refine awp_seq_k fun K hK=>?_|refine wN fun bx=>?_|(refine wH ?_;clear hK))
  refine r1 ?_
  exact Sub.of_eq (by rw[if_neg hc,e1,e2])
theorem lettersF_at {s:List UInt8} (h:lettersF s=true) {i:Nat} (hi:i<s.length):65≤(s.getD i 0).toNat∧(s.getD i 0).toNat≤90:=by
 have:=List.all_eq_true.1 h s[i] (List.getElem_mem hi)
 simp only[Bool.and_eq_true]at this
 rw[List.getD_eq_getElem?_getD,List.getElem?_eq_getElem hi]
 exact⟨Nat.le_of_ble_eq_true this.1,Nat.le_of_ble_eq_true this.2⟩
theorem ptsF_succ {s:List UInt8} {base:Int} {i:Nat} (hi:i<s.length):ptsF base (s.take (i+1))=ptsF base (s.take i)++[ptF base (s.getD i 0)]:=by
 unfold ptsF
 rw[List.take_succ_eq_append_getElem hi,List.map_append,List.getD_eq_getElem?_getD,List.getElem?_eq_getElem hi]
 rfl
theorem cbPoints:Callable Tryd.prog 19:=fun _ _=>by kernel_rfl
theorem points_c (s:List UInt8) (base:Int) (hs:lettersF s=true) (hl:s.length≤1000000) (h3:0≤base) (h4:base≤1):PCalls Tryd.prog 19 [.str s,.int .i64 base] (sl numE 1 (ptsF base s) .view):=by
 refine pcalls_of_awp tyok cbPoints Tryd.func19 rfl rfl ?_
 repeat(first|refine wD ?_|refine awp_seq_k fun K hK=>?_|refine wN fun bx=>?_|(refine wH ?_;clear hK))
 refine TR.range tyok (fun b=>?_)
 repeat(first|refine wD ?_|refine awp_seq_k fun K hK=>?_|refine wN fun bx=>?_|(refine wH ?_;clear hK))
 refine awp_tok0 1 3 ?_
 refine awp_loopP (ι:={x:Nat×List Int×Option Addr×Nat//x.1≤s.length∧x.2.1=ptsF base (s.take x.1)})
  (fun x=>[(0,.str s),(1,.int .i64 base),(4,sl numE 1 x.1.2.1 (.own x.1.2.2.1 x.1.2.2.2)),(8,.ptr b 0)])
  (fun x=>[.tok x.1.2.2.1 x.1.2.2.2 x.1.2.1.length 1 3,.obj b (.stringIter ⟨s.toArray⟩ x.1.1)]) (fun x=>s.length-x.1.1) ⟨(0,[],none,0),Nat.zero_le _,rfl⟩ ?_ ⟨[],List.Perm.refl _⟩ ?_
 ·exact wk
 rintro⟨⟨i,xs,a2,c2⟩,hi,hxs⟩
 simp only at hi hxs ⊢
 have hxl:xs.length=i:=by rw[hxs];simp[ptsF];omega
 repeat(first|refine wD ?_|refine awp_seq_k fun K hK=>?_|refine wN fun bx=>?_|(refine wH ?_;clear hK))
 refine TR.next (List.Perm.swap _ _ _) ?_
 by_cases hlt:i<s.length
 ·obtain⟨l1,l2⟩:=lettersF_at hs hlt
  obtain⟨e1,e2⟩:=nextV_ascii hlt (by omega)
  rw[e1,e2]
  have ew:IntKind.u8.wrap ((s.getD i 0).toNat:Int)=((s.getD i 0).toNat:Int):=wrap_inK (by simp only[inK];omega)
  have g:=point_c ((s.getD i 0).toNat:Int) base (by omega) (by omega) h3 h4
  have g1:PCalls Tryd.prog 30 [.int .u8 (IntKind.u8.wrap ((s.getD i 0).toNat:Int)),.int .i64 base] (.int .i64 (ptF base (s.getD i 0))):=by rw[ew];exact g
  repeat(first|refine wD ?_|refine awp_seq_k fun K hK=>?_|refine wN fun bx=>?_|refine qpc rfl rfl rfl (g1) ?_|refine qpo rfl rfl rfl rfl rfl rfl (fun _=>g1) ?_|(refine wH ?_;clear hK))
  refine qapp tyok numE xs (ptF base (s.getD i 0)) (SubL.refl _) ?_ fun ad cp=>?_
  ·simp only
   omega
  repeat(first|refine wD ?_|refine awp_seq_k fun K hK=>?_|refine wN fun bx=>?_|(refine wH ?_;clear hK))
  refine⟨⟨(i+1,xs++[ptF base (s.getD i 0)],ad,cp),hlt,?_⟩,?_,⟨[],?_⟩,?_⟩
  ·show xs++_=_
   rw[hxs,ptsF_succ hlt]
  ·exact wk
  ·first|exact List.Perm.refl _|exact List.Perm.swap _ _ _
  ·simp only;omega
 ·obtain⟨e1,e2⟩:=nextV_end hlt
  rw[e1,e2]
  have he:i=s.length:=by omega
  subst he
  rw[List.take_length]at hxs
  subst hxs
  repeat(first|refine wD ?_|refine awp_seq_k fun K hK=>?_|refine wN fun bx=>?_|(refine wH ?_;clear hK))
  exact fnQ_ret 2 rfl (.tmp rfl .nil) (Sub.view _ _ _ _) ⟨rfl,rfl⟩
theorem cbDigit:Callable Tryd.prog 16:=fun _ _=>by kernel_rfl
theorem digit_c (s:List UInt8) (v:Int) (h:digF s=some v) (hs:s.length≤1000000000):PCalls Tryd.prog 16 [.str s] (.int .i64 v):=by
 refine pcalls_of_awp tyok cbDigit Tryd.func16 rfl rfl ?_
 cases s with
 |nil=>cases h
 |cons b l=>
  simp only[digF]at h
  cases hb:Nat.ble 48 b.toNat with
  |false=>rw[hb]at h;cases h
  |true=>
   rw[hb]at h
   simp only[Option.some.injEq]at h
   have h48:=Nat.le_of_ble_eq_true hb
   have h255:=b.toNat_lt
   have hl:((b::l).length:Int)=l.length+1:=by simp
   have e0:((b::l).getD (0:Int).toNat 0).toNat=b.toNat:=rfl
   have e1:IntKind.u8.wrap ((b.toNat:Int)-48)=(b.toNat:Int)-48:=wrap_inK (by simp only[inK];omega)
   have e2:IntKind.i64.wrap ((b.toNat:Int)-48)=(b.toNat:Int)-48:=wrap_inK (by simp only[inK];omega)
   repeat(first|refine wDB ?_|refine awp_seq_k fun K hK=>?_|refine wN fun bx=>?_|(refine wH ?_;clear hK))
   refine r1 ?_
   refine Sub.of_eq ?_
   rw[e0,e1,e2,h]
def rdrB (b:Nat) (s:List UInt8) (base:Int):Ent:=.box b 67 (.agg [.str s,.int .i64 base])
theorem cbHas:Callable Tryd.prog 36:=fun _ _=>by kernel_rfl
theorem has_c (b:Nat) (s p:List UInt8) (base:Int):ACalls Tryd.prog 36 [.ptr b 0,.str p] [rdrB b s base] (fun r H'=>r=.ret (.bool (Lib.hasPrefix s p))∧H'=[rdrB b (Lib.trimPrefix s p) base]):=by
 refine acalls_of_awp tyok cbHas Tryd.func36 rfl rfl ?_
 unfold rdrB
 repeat(first|refine wD ?_|refine awp_seq_k fun K hK=>?_|refine wN fun bx=>?_|refine qpc rfl rfl rfl (cutPrefix_c _ _) ?_|refine qpo rfl rfl rfl rfl rfl rfl (fun _=>cutPrefix_c _ _) ?_|(refine wH ?_;clear hK))
 exact fnQ_ret 0 rfl (.tmp rfl .nil) (Sub.refl _) ⟨rfl,rfl⟩
end Go.Proofs.YtcbdfmmiigpddaaDoor
namespace Go.Proofs.YtcbdfmmiigpddaaDoor
open Go.Ab
theorem cut_len (s sep:List UInt8):(Lib.cut s sep).1.length≤s.length∧(Lib.cut s sep).2.1.length≤s.length:=by
 unfold Lib.cut
 split
 ·simp only[List.length_take,List.length_drop];omega
 ·simp
theorem idxL_le (x:List UInt8):∀l,idxL x l<l.length∨l=[]
 |[]=>.inr rfl
 |y::l=>by
  refine .inl ?_
  have:=idxL_le x l
  simp only[idxL,List.length_cons]
  split
  ·omega
  split
  ·omega
  ·rcases this with h|rfl
   ·omega
   ·simp[idxL]at*
theorem kinds_sub:Sub (.slice 1 5 (chunk [.str [],.str [120],.str [121],.str [99,114,111,115,115],.str [100,111,116]] 1) .full) (sl txtE 1 kindsL .view):=
 (Sub.view _ _ _ _).trans (Sub.els fun i hi=>match i,hi with
   |0,_=>SubL.refl _
   |1,_=>SubL.refl _
   |2,_=>SubL.refl _
   |3,_=>SubL.refl _
   |4,_=>SubL.refl _)
theorem fkind_c (w:List UInt8):PCalls Tryd.prog 46 [.slice 1 5 (chunk [.str [],.str [120],.str [121],.str [99,114,111,115,115],.str [100,111,116]] 1) .full,.str w] (.int .i64 (idxL w kindsL)):=
 PCalls.sub (index_c kindsL w (by decide)) (.cons kinds_sub (SubL.refl _))
theorem cbForm:Callable Tryd.prog 37:=fun _ _=>by kernel_rfl
theorem form_c (b:Nat) (s rest:List UInt8) (base:Int) (f:FormR) (hs:s.length≤1000000) (h3:0≤base) (h4:base≤1) (h:formF base s=some (f,rest)):
  ACalls Tryd.prog 37 [.ptr b 0] [rdrB b s base] (fun r H'=>r=.ret (.agg (formE f))∧H'=[rdrB b rest base]):=by
 refine acalls_of_awp tyok cbForm Tryd.func37 rfl rfl ?_
 unfold rdrB
 unfold formF at h
 have g1:=cut_c s [40] (by omega)
 have l1:=cut_len s [40]
 cases hc1:Lib.cut s [40]with
 |mk word r1=>
 obtain⟨r1,ok1⟩:=r1
 rw[hc1]at h g1 l1
 simp only at h g1 l1
 have g2:=cut_c r1 [41] (by omega)
 have l2:=cut_len r1 [41]
 cases hc2:Lib.cut r1 [41]with
 |mk inner r2=>
 obtain⟨behind,ok2⟩:=r2
 rw[hc2]at h g2 l2
 simp only at h g2 l2
 cases hd:lettersF (Lib.replaceAll inner [44] [])&&decide (0≤idxL word kindsL)with
 |false=>rw[hd]at h;cases h
 |true=>
 rw[hd]at h
 simp only[Bool.and_eq_true,decide_eq_true_eq]at hd h
 have g3:=noComma_c inner (by omega)
 have gk:=fkind_c word
 have hk4:idxL word kindsL<5:=by
  rcases idxL_le word kindsL with h|h
  ·exact h
  ·cases h
 have ek:IntKind.u8.wrap (idxL word kindsL)=idxL word kindsL:=wrap_inK (by simp only[inK];omega)
 have gp:=fun hl=>points_c (Lib.replaceAll inner [44] []) base hd.1 hl h3 h4
 have hpl:(ptsF base (Lib.replaceAll inner [44] [])).length=(Lib.replaceAll inner [44] []).length:=by simp[ptsF]
 generalize hpp:ptsF base (Lib.replaceAll inner [44] [])=pp at h gp hpl
 ((repeat(first|refine wD ?_|refine awp_seq_k fun K hK=>?_|refine qpc rfl rfl rfl (g1) ?_|refine qpc rfl rfl rfl (g2) ?_|refine qpc rfl rfl rfl (gk) ?_|refine qpo rfl rfl rfl rfl rfl rfl (fun _=>g1) ?_|refine qpo rfl rfl rfl rfl rfl rfl (fun _=>g2) ?_|refine qpo rfl rfl rfl rfl rfl rfl (fun _=>gk) ?_|(refine wH ?_;clear hK)));refine wN fun b2=>?_;(repeat(first|refine wD ?_|refine awp_seq_k fun K hK=>?_|refine wN fun bx=>?_|refine qpc rfl rfl rfl (g1) ?_|refine qpc rfl rfl rfl (g2) ?_|refine qpc rfl rfl rfl (gk) ?_|refine qpo rfl rfl rfl rfl rfl rfl (fun _=>g1) ?_|refine qpo rfl rfl rfl rfl rfl rfl (fun _=>g2) ?_|refine qpo rfl rfl rfl rfl rfl rfl (fun _=>gk) ?_|(refine wH ?_;clear hK))))
 refine areg_soft mixed tyok [1,6] [] [0,1,2,3,4,5,6,7] (by decide +kernel) ?_
 match pp,h,hpl,gp with
 |[a,b'],h,hpl,gp=>
  simp only[Option.some.injEq,Prod.mk.injEq]at h
  obtain⟨rfl,rfl⟩:=h
  have gp:=gp (by simp at hpl;omega)
  repeat(first|refine wDB ?_|refine awp_seq_k fun K hK=>?_|refine wN fun bx=>?_|refine qpc rfl rfl rfl (g3) ?_|refine qpc rfl rfl rfl (gp) ?_|refine qpo rfl rfl rfl rfl rfl rfl (fun _=>g3) ?_|refine qpo rfl rfl rfl rfl rfl rfl (fun _=>gp) ?_|(refine wH ?_;clear hK))
  exact fnQ_ret 1 rfl (.cell rfl rfl (List.Mem.head _) rfl trivial .nil) (Sub.of_eq (congrArg (fun k=>AV.agg [.int .u8 k,.int .i64 a,.int .i64 b',.int .i64 0,.int .i64 0]) ek)) ⟨rfl,rfl⟩
 |[a,b',c,d],h,hpl,gp=>
  simp only[Option.some.injEq,Prod.mk.injEq]at h
  obtain⟨rfl,rfl⟩:=h
  have gp:=gp (by simp at hpl;omega)
  repeat(first|refine wDB ?_|refine awp_seq_k fun K hK=>?_|refine wN fun bx=>?_|refine qpc rfl rfl rfl (g3) ?_|refine qpc rfl rfl rfl (gp) ?_|refine qpo rfl rfl rfl rfl rfl rfl (fun _=>g3) ?_|refine qpo rfl rfl rfl rfl rfl rfl (fun _=>gp) ?_|(refine wH ?_;clear hK))
  exact fnQ_ret 1 rfl (.cell rfl rfl (List.Mem.head _) rfl trivial .nil) (Sub.of_eq (congrArg (fun k=>AV.agg [.int .u8 k,.int .i64 a,.int .i64 b',.int .i64 c,.int .i64 d]) ek)) ⟨rfl,rfl⟩
end Go.Proofs.YtcbdfmmiigpddaaDoor
namespace Go.Proofs.YtcbdfmmiigpddaaDoor
open Go.Ab
theorem trim_no {s p:List UInt8} (h:Lib.hasPrefix s p=false):Lib.trimPrefix s p=s:=by
 unfold Lib.trimPrefix
 rw[h]
 rfl
theorem trim_len (s p:List UInt8):(Lib.trimPrefix s p).length≤s.length:=by
 unfold Lib.trimPrefix
 split
 ·simp only[List.length_drop];omega
 ·exact Nat.le_refl _
theorem hasF_t {s p:List UInt8} (h:Lib.hasPrefix s p=true):hasF p s=some (Lib.trimPrefix s p):=by unfold hasF;rw[h]
theorem hasF_f {s p:List UInt8} (h:Lib.hasPrefix s p=false):hasF p s=none:=by unfold hasF;rw[h]
theorem sign_eq (s:List UInt8):signF s=(if Lib.hasPrefix s [45] then -1 else 1,Lib.trimPrefix s [45]):=by
 unfold signF
 cases h:Lib.hasPrefix s [45]with
 |true=>rw[hasF_t h];rfl
 |false=>rw[hasF_f h,trim_no h];rfl
theorem plus_eq (s:List UInt8):plusF s=Lib.trimPrefix s [43]:=by
 unfold plusF
 cases h:Lib.hasPrefix s [43]with
 |true=>rw[hasF_t h]
 |false=>rw[hasF_f h,trim_no h]
theorem by_2 {s:List UInt8} (h:Lib.hasPrefix s [50,42]=true):byF s=(2,0,Lib.trimPrefix s [50,42]):=by
 unfold byF
 rw[hasF_t h]
theorem by_m {s:List UInt8} (h:Lib.hasPrefix s [50,42]=false) (h1:Lib.hasPrefix s [109,42]=true):byF s=(1,1,Lib.trimPrefix s [109,42]):=by
 unfold byF
 rw[hasF_f h,hasF_t h1]
theorem by_n {s:List UInt8} (h:Lib.hasPrefix s [50,42]=false) (h1:Lib.hasPrefix s [109,42]=false) (h2:Lib.hasPrefix s [110,42]=true):byF s=(1,2,Lib.trimPrefix s [110,42]):=by
 unfold byF
 rw[hasF_f h,hasF_f h1,hasF_t h2]
theorem by_no {s:List UInt8} (h:Lib.hasPrefix s [50,42]=false) (h1:Lib.hasPrefix s [109,42]=false) (h2:Lib.hasPrefix s [110,42]=false):byF s=(1,0,s):=by
 unfold byF
 rw[hasF_f h,hasF_f h1,hasF_f h2]
theorem by_len (s:List UInt8):(byF s).2.2.length≤s.length:=by
 cases h:Lib.hasPrefix s [50,42]with
 |true=>rw[by_2 h];exact trim_len _ _
 |false=>cases h1:Lib.hasPrefix s [109,42]with
  |true=>rw[by_m h h1];exact trim_len _ _
  |false=>cases h2:Lib.hasPrefix s [110,42]with
   |true=>rw[by_n h h1 h2];exact trim_len _ _
   |false=>rw[by_no h h1 h2];exact Nat.le_refl _
theorem formF_len {base:Int} {s rest:List UInt8} {f:FormR} (h:formF base s=some (f,rest)):rest.length≤s.length:=by
 unfold formF at h
 have l1:=cut_len s [40]
 cases hc1:Lib.cut s [40]with
 |mk word r1=>
 obtain⟨r1,ok1⟩:=r1
 rw[hc1]at h l1
 simp only at h l1
 have l2:=cut_len r1 [41]
 cases hc2:Lib.cut r1 [41]with
 |mk inner r2=>
 obtain⟨behind,ok2⟩:=r2
 rw[hc2]at h l2
 simp only at h l2
 split at h
 ·cases h
 ·split at h
  ·cases h;omega
  ·cases h;omega
  ·cases h
theorem facsF_len {base:Int}:∀{n:Nat} {s rest:List UInt8} {l:List FormR},facsF base n s=some (l,rest)→l.length≤n
 |0,s,rest,l,h=>by cases h
 |n+1,s,rest,l,h=>by
  simp only[facsF]at h
  split at h
  ·cases h
   exact Nat.zero_le _
  ·split at h
   ·cases h
   ·split at h
    ·cases h
    ·rename_i h1
     cases h
     have:=facsF_len h1
     simp only[List.length_cons]
     omega
theorem facsF_rest {base:Int}:∀{n:Nat} {s rest:List UInt8} {l:List FormR},facsF base n s=some (l,rest)→rest.length≤s.length
 |0,s,rest,l,h=>by cases h
 |n+1,s,rest,l,h=>by
  have t:=trim_len s [42]
  simp only[facsF]at h
  cases hp:Lib.hasPrefix s [42]with
  |false=>
   rw[hasF_f hp]at h
   cases h
   exact Nat.le_refl _
  |true=>
   rw[hasF_t hp]at h
   simp only at h
   split at h
   ·cases h
   ·rename_i h0
    have t1:=formF_len h0
    split at h
    ·cases h
    ·rename_i h1
     cases h
     have:=facsF_rest h1
     omega
theorem cbPiece:Callable Tryd.prog 27:=fun _ _=>by kernel_rfl
theorem piece_c (b:Nat) (s rest:List UInt8) (base:Int) (n:Nat) (p:PieceR) (hs:s.length≤1000000) (hn:n≤1000) (h3:0≤base) (h4:base≤1) (h:pieceF base n s=some (p,rest)):
  ACalls Tryd.prog 27 [.ptr b 0] [rdrB b s base] (fun r H'=>r=.ret (.agg (pieceE p))∧H'=[rdrB b rest base]):=by
 refine acalls_of_awp tyok cbPiece Tryd.func27 rfl rfl ?_
 unfold rdrB
 unfold pieceF at h
 rw[sign_eq s]at h
 simp only[plus_eq]at h
 have t1:=trim_len s [45]
 have t2:=trim_len (Lib.trimPrefix s [45]) [43]
 have t3:=by_len (Lib.trimPrefix (Lib.trimPrefix s [45]) [43])
 ((repeat(first|refine wD ?_|refine awp_seq_k fun K hK=>?_|(refine wH ?_;clear hK)));refine wN fun b2=>?_;(repeat(first|refine wD ?_|refine awp_seq_k fun K hK=>?_|refine wN fun bx=>?_|(refine wH ?_;clear hK))))
 (first|refine qcallE .here (has_c b s [45] base) ?_|refine qcallE (.there .here) (has_c b s [45] base) ?_|refine qcallE (.there (.there .here)) (has_c b s [45] base) ?_|refine qcallE (.there (.there (.there .here))) (has_c b s [45] base) ?_|refine qcallE (.there (.there (.there (.there .here)))) (has_c b s [45] base) ?_)
 repeat(first|refine wD ?_|refine awp_seq_k fun K hK=>?_|refine wN fun bx=>?_|(refine wH ?_;clear hK))
 generalize hg:(if Lib.hasPrefix s [45]=true then(-1:Int) else 1)=g at h
 generalize hs1:Lib.trimPrefix s [45]=s1 at h t1 t2 t3 ⊢
 refine(have hr:=cutKP (Wk:=[(0,.ptr b 0),(2,.ptr b2 0)]) (H0:=[.box b 67 (.agg [.str s1,.int .i64 base]),.box b2 44 (.agg [.int .i64 g,.int .i64 0,.nils])]) hK ?_;?_)
 rotate_left
 ·clear hK
  refine awp_cond rfl (fun hb=>?_) (fun hb=>?_)
  ·obtain rfl:g= -1:=by rw[←hg,hb];rfl
   repeat(first|refine wD ?_|refine awp_seq_k fun K hK=>?_|refine wN fun bx=>?_|(refine wH ?_;clear hK))
   exact hr _ _ wk (List.Perm.refl _)
  ·obtain rfl:g=1:=by rw[←hg,hb];rfl
   repeat(first|refine wD ?_|refine awp_seq_k fun K hK=>?_|refine wN fun bx=>?_|(refine wH ?_;clear hK))
   exact hr _ _ wk (List.Perm.refl _)
 clear hK
 repeat(first|refine wD ?_|refine awp_seq_k fun K hK=>?_|refine wN fun bx=>?_|(refine wH ?_;clear hK))
 (first|refine qcallE .here (has_c b s1 [43] base) ?_|refine qcallE (.there .here) (has_c b s1 [43] base) ?_|refine qcallE (.there (.there .here)) (has_c b s1 [43] base) ?_|refine qcallE (.there (.there (.there .here))) (has_c b s1 [43] base) ?_|refine qcallE (.there (.there (.there (.there .here)))) (has_c b s1 [43] base) ?_)
 repeat(first|refine wD ?_|refine awp_seq_k fun K hK=>?_|refine wN fun bx=>?_|(refine wH ?_;clear hK))
 generalize hs2:Lib.trimPrefix s1 [43]=s2 at h t2 t3 ⊢
 (first|refine qcallE .here (has_c b s2 [50,42] base) ?_|refine qcallE (.there .here) (has_c b s2 [50,42] base) ?_|refine qcallE (.there (.there .here)) (has_c b s2 [50,42] base) ?_|refine qcallE (.there (.there (.there .here))) (has_c b s2 [50,42] base) ?_|refine qcallE (.there (.there (.there (.there .here)))) (has_c b s2 [50,42] base) ?_)
 repeat(first|refine wD ?_|refine awp_seq_k fun K hK=>?_|refine wN fun bx=>?_|(refine wH ?_;clear hK))
 have hgb: -1≤g∧g≤1:=by
  rw[←hg]
  split<;>omega
 cases hby:byF s2 with
 |mk m q=>
 obtain⟨fb,s3⟩:=q
 rw[hby]at h t3
 simp only at h t3
 generalize hn1:g*m=n1 at h
 refine(have hr:=cutKP (Wk:=[(0,.ptr b 0),(2,.ptr b2 0)]) (H0:=[.box b 67 (.agg [.str s3,.int .i64 base]),.box b2 44 (.agg [.int .i64 n1,.int .i64 fb,.nils])]) hK ?_;?_)
 rotate_left
 ·clear hK
  refine awp_cond rfl (fun hb=>?_) (fun hb=>?_)
  ·rw[by_2 hb]at hby
   cases hby
   subst hn1
   repeat(first|refine wD ?_|refine awp_seq_k fun K hK=>?_|refine wN fun bx=>?_|(refine wH ?_;clear hK))
   exact hr _ _ wk (List.Perm.refl _)
  rw[trim_no hb]
  repeat(first|refine wD ?_|refine awp_seq_k fun K hK=>?_|refine wN fun bx=>?_|(refine wH ?_;clear hK))
  (first|refine qcallE .here (has_c b s2 [109,42] base) ?_|refine qcallE (.there .here) (has_c b s2 [109,42] base) ?_|refine qcallE (.there (.there .here)) (has_c b s2 [109,42] base) ?_|refine qcallE (.there (.there (.there .here))) (has_c b s2 [109,42] base) ?_|refine qcallE (.there (.there (.there (.there .here)))) (has_c b s2 [109,42] base) ?_)
  repeat(first|refine wD ?_|refine awp_seq_k fun K hK=>?_|refine wN fun bx=>?_|(refine wH ?_;clear hK))
  refine awp_cond rfl (fun hb1=>?_) (fun hb1=>?_)
  ·rw[by_m hb hb1]at hby
   cases hby
   obtain rfl:n1=g:=by omega
   repeat(first|refine wD ?_|refine awp_seq_k fun K hK=>?_|refine wN fun bx=>?_|(refine wH ?_;clear hK))
   exact hr _ _ wk (List.Perm.refl _)
  rw[trim_no hb1]
  repeat(first|refine wD ?_|refine awp_seq_k fun K hK=>?_|refine wN fun bx=>?_|(refine wH ?_;clear hK))
  (first|refine qcallE .here (has_c b s2 [110,42] base) ?_|refine qcallE (.there .here) (has_c b s2 [110,42] base) ?_|refine qcallE (.there (.there .here)) (has_c b s2 [110,42] base) ?_|refine qcallE (.there (.there (.there .here))) (has_c b s2 [110,42] base) ?_|refine qcallE (.there (.there (.there (.there .here)))) (has_c b s2 [110,42] base) ?_)
  repeat(first|refine wD ?_|refine awp_seq_k fun K hK=>?_|refine wN fun bx=>?_|(refine wH ?_;clear hK))
  refine awp_cond rfl (fun hb2=>?_) (fun hb2=>?_)
  ·rw[by_n hb hb1 hb2]at hby
   cases hby
   obtain rfl:n1=g:=by omega
   repeat(first|refine wD ?_|refine awp_seq_k fun K hK=>?_|refine wN fun bx=>?_|(refine wH ?_;clear hK))
   exact hr _ _ wk (List.Perm.refl _)
  ·rw[trim_no hb2]
   rw[by_no hb hb1 hb2]at hby
   cases hby
   obtain rfl:n1=g:=by omega
   repeat(first|refine wD ?_|refine awp_seq_k fun K hK=>?_|refine wN fun bx=>?_|(refine wH ?_;clear hK))
   exact hr _ _ wk (List.Perm.refl _)
 clear hK
 cases hf:formF base s3 with
 |none=>rw[hf]at h;cases h
 |some q=>
 obtain⟨x,s4⟩:=q
 rw[hf]at h
 simp only at h
 cases hfs:facsF base n s4 with
 |none=>rw[hfs]at h;cases h
 |some q=>
 obtain⟨l,s5⟩:=q
 rw[hfs]at h
 simp only[Option.some.injEq,Prod.mk.injEq]at h
 obtain⟨rfl,rfl⟩:=h
 have t4:=formF_len hf
 have t5:=facsF_len hfs
 refine awp_boxSub [_] (v':=.agg [.int .i64 n1,.int .i64 fb,sl formE 5 [] (.own none 0)]) (subAgg (.cons (Sub.refl _) (.cons (Sub.refl _) (.cons (Sub.sl_nil formE 5) .nil)))) ?_
 refine awp_tok0 5 41 ?_
 repeat(first|refine wK ?_|refine awp_seq_k fun K hK=>?_|refine wN fun bx=>?_|(refine wH ?_;clear hK))
 refine areg_kept mixed tyok [(3,[67]),(4,[])] [0,1,2,3,4,5,6,7] (by decide +kernel) ?_
 repeat(first|refine wD ?_|refine awp_seq_k fun K hK=>?_|refine wN fun bx=>?_|(refine wH ?_;clear hK))
 (first|refine qcallE .here (form_c b s3 s4 base x (by omega) h3 h4 hf) ?_|refine qcallE (.there .here) (form_c b s3 s4 base x (by omega) h3 h4 hf) ?_|refine qcallE (.there (.there .here)) (form_c b s3 s4 base x (by omega) h3 h4 hf) ?_|refine qcallE (.there (.there (.there .here))) (form_c b s3 s4 base x (by omega) h3 h4 hf) ?_|refine qcallE (.there (.there (.there (.there .here)))) (form_c b s3 s4 base x (by omega) h3 h4 hf) ?_)
 repeat(first|refine wD ?_|refine awp_seq_k fun K hK=>?_|refine wN fun bx=>?_|(refine wH ?_;clear hK))
 refine qapp tyok formE [] x (SubL.refl _) ?_ fun ad cp=>?_
 ·simp
 repeat(first|refine wD ?_|refine awp_seq_k fun K hK=>?_|refine wN fun bx=>?_|(refine wH ?_;clear hK))
 refine awp_loop0 (ι:={y:Nat×List FormR×List FormR×List UInt8×Option Addr×Nat//facsF base y.1 y.2.2.2.1=some (y.2.2.1,s5)∧y.2.1++y.2.2.1=x::l∧y.2.2.2.1.length≤1000000})
  (fun _=>[(0,.ptr b 0),(2,.ptr b2 0)])
  (fun y=>[.box b 67 (.agg [.str y.1.2.2.2.1,.int .i64 base]),.tok y.1.2.2.2.2.1 y.1.2.2.2.2.2 y.1.2.1.length 5 41,.box b2 44 (.agg [.int .i64 n1,.int .i64 fb,sl formE 5 y.1.2.1 (.own y.1.2.2.2.2.1 y.1.2.2.2.2.2)])])
  (fun y=>y.1.1) ⟨(n,[x],l,s4,ad,cp),hfs,rfl,by show s4.length≤1000000;omega⟩ wk ⟨0,rfl⟩ ?_
 rintro⟨⟨k,acc,l2,cur,a2,c2⟩,hk,hacc,hcur⟩
 simp only at hk hacc hcur ⊢
 have hal:acc.length+l2.length=l.length+1:=by rw[←List.length_append,hacc,List.length_cons]
 cases k with
 |zero=>cases hk
 |succ k=>
 simp only[facsF]at hk
 repeat(first|refine wD ?_|refine awp_seq_k fun K hK=>?_|refine wN fun bx=>?_|(refine wH ?_;clear hK))
 (first|refine qcallE .here (has_c b cur [42] base) ?_|refine qcallE (.there .here) (has_c b cur [42] base) ?_|refine qcallE (.there (.there .here)) (has_c b cur [42] base) ?_|refine qcallE (.there (.there (.there .here))) (has_c b cur [42] base) ?_|refine qcallE (.there (.there (.there (.there .here)))) (has_c b cur [42] base) ?_)
 repeat(first|refine wD ?_|refine awp_seq_k fun K hK=>?_|refine wN fun bx=>?_|(refine wH ?_;clear hK))
 refine awp_cond rfl (fun hb=>?_) (fun hb=>?_)
 ·rw[hasF_t hb]at hk
  have t6:=trim_len cur [42]
  simp only at hk
  cases hf1:formF base (Lib.trimPrefix cur [42])with
  |none=>rw[hf1]at hk;cases hk
  |some q=>
  obtain⟨f1,s6⟩:=q
  rw[hf1]at hk
  simp only at hk
  have t7:=formF_len hf1
  cases hf2:facsF base k s6 with
  |none=>rw[hf2]at hk;cases hk
  |some q=>
  obtain⟨l3,s7⟩:=q
  rw[hf2]at hk
  simp only[Option.some.injEq,Prod.mk.injEq]at hk
  obtain⟨rfl,rfl⟩:=hk
  repeat(first|refine wK ?_|refine awp_seq_k fun K hK=>?_|refine wN fun bx=>?_|(refine wH ?_;clear hK))
  refine areg_kept mixed tyok [(3,[67]),(4,[])] [0,1,2,3,4,5,6,7] (by decide +kernel) ?_
  repeat(first|refine wD ?_|refine awp_seq_k fun K hK=>?_|refine wN fun bx=>?_|(refine wH ?_;clear hK))
  (first|refine qcallE .here (form_c b (Lib.trimPrefix cur [42]) s6 base f1 (by omega) h3 h4 hf1) ?_|refine qcallE (.there .here) (form_c b (Lib.trimPrefix cur [42]) s6 base f1 (by omega) h3 h4 hf1) ?_|refine qcallE (.there (.there .here)) (form_c b (Lib.trimPrefix cur [42]) s6 base f1 (by omega) h3 h4 hf1) ?_|refine qcallE (.there (.there (.there .here))) (form_c b (Lib.trimPrefix cur [42]) s6 base f1 (by omega) h3 h4 hf1) ?_|refine qcallE (.there (.there (.there (.there .here)))) (form_c b (Lib.trimPrefix cur [42]) s6 base f1 (by omega) h3 h4 hf1) ?_)
  repeat(first|refine wD ?_|refine awp_seq_k fun K hK=>?_|refine wN fun bx=>?_|(refine wH ?_;clear hK))
  refine qapp tyok formE acc f1 (SubL.refl _) ?_ fun ad2 cp2=>?_
  ·simp only
   omega
  repeat(first|refine wD ?_|refine awp_seq_k fun K hK=>?_|refine wN fun bx=>?_|(refine wH ?_;clear hK))
  refine⟨⟨(k,acc++[f1],l3,s6,ad2,cp2),hf2,by simpa using hacc,by show s6.length≤1000000;omega⟩,wk,⟨0,rfl⟩,Nat.lt_succ_self _⟩
 ·rw[hasF_f hb]at hk
  simp only[Option.some.injEq,Prod.mk.injEq]at hk
  obtain⟨rfl,rfl⟩:=hk
  rw[List.append_nil]at hacc
  subst hacc
  rw[trim_no hb]
  refine awp_permS (H:=[_,_,_]) (List.perm_append_comm (l₁:=[_]) (l₂:=[_,_])) ?_
  repeat(first|refine wD ?_|refine awp_seq_k fun K hK=>?_|refine wN fun bx=>?_|(refine wH ?_;clear hK))
  exact fnQ_ret 2 rfl (.cell rfl rfl (List.Mem.tail _ (List.Mem.head _)) rfl trivial .nil) (subAgg (.cons (Sub.refl _) (.cons (Sub.refl _) (.cons (Sub.view _ _ _ _) .nil)))) ⟨rfl,rfl⟩
end Go.Proofs.YtcbdfmmiigpddaaDoor
namespace Go.Proofs.YtcbdfmmiigpddaaDoor
open Go.Ab
theorem pieceF_len {base:Int} {n:Nat} {s rest:List UInt8} {p:PieceR} (h:pieceF base n s=some (p,rest)):rest.length≤s.length:=by
 unfold pieceF at h
 rw[sign_eq s]at h
 simp only[plus_eq]at h
 have t1:=trim_len s [45]
 have t2:=trim_len (Lib.trimPrefix s [45]) [43]
 have t3:=by_len (Lib.trimPrefix (Lib.trimPrefix s [45]) [43])
 cases hby:byF (Lib.trimPrefix (Lib.trimPrefix s [45]) [43])with
 |mk m q=>
 obtain⟨fb,s3⟩:=q
 rw[hby]at h t3
 simp only at h t3
 cases hf:formF base s3 with
 |none=>rw[hf]at h;cases h
 |some q=>
 obtain⟨x,s4⟩:=q
 rw[hf]at h
 simp only at h
 cases hfs:facsF base n s4 with
 |none=>rw[hfs]at h;cases h
 |some q=>
 obtain⟨l,s5⟩:=q
 rw[hfs]at h
 simp only[Option.some.injEq,Prod.mk.injEq]at h
 obtain⟨rfl,rfl⟩:=h
 have t4:=formF_len hf
 have t5:=facsF_rest hfs
 omega
theorem pieces_count (c:UInt8):∀(l:List UInt8),(splitC c l).length≤l.length+1
 |[]=>by simp[splitC]
 |b::l=>by
  have:=pieces_count c l
  simp only[splitC]
  split
  ·simp only[List.length_cons];omega
  ·split
   ·simp
   ·rename_i h
    rw[h]at this
    simp only[List.length_cons]at this ⊢
    omega
theorem pieces_len (c:UInt8):∀(l p:List UInt8),p∈splitC c l→p.length≤l.length
 |[],p,h=>by simp[splitC]at h;simp[h]
 |b::l,p,h=>by
  simp only[splitC]at h
  split at h
  ·rcases List.mem_cons.1 h with rfl|h
   ·simp
   ·have:=pieces_len c l p h;simp;omega
  ·split at h
   ·simp at h;simp[h]
   ·rename_i q qs hq
    rcases List.mem_cons.1 h with rfl|h
    ·have:=pieces_len c l q (by rw[hq];simp);simp;omega
    ·have:=pieces_len c l p (by rw[hq];simp[h]);simp;omega
theorem sumF_len {base:Int} {n:Nat}:∀{k:Nat} {s:List UInt8} {l:List PieceR},sumF base n k s=some l→l.length≤k
 |0,s,l,h=>by simp[sumF]at h
 |k+1,s,l,h=>by
  simp only[sumF]at h
  split at h
  ·cases h
   exact Nat.zero_le _
  ·split at h
   ·cases h
   ·split at h
    ·cases h
    ·rename_i h1
     cases h
     have:=sumF_len h1
     simp only[List.length_cons]
     omega
theorem allO_len {α β:Type} {f:α→Option β}:∀{l:List α} {r:List β},allO f l=some r→r.length=l.length
 |[],r,h=>by
  simp only[allO,Option.some.injEq]at h
  subst h
  rfl
 |x::l,r,h=>by
  simp only[allO]at h
  split at h
  ·cases h
  ·split at h
   ·cases h
   ·rename_i h1
    cases h
    simp[allO_len h1]
theorem cbEqs:Callable Tryd.prog 17:=fun _ _=>by kernel_rfl
theorem equations_c (s:List UInt8) (base:Int) (L:List (List PieceR)) (hs:s.length≤1000000) (h3:0≤base) (h4:base≤1) (h:eqsF base s=some L):
  PCalls Tryd.prog 17 [.str s,.int .i64 base] (sl eqE 1 L .view):=by
 refine pcalls_of_awp tyok cbEqs Tryd.func17 rfl rfl ?_
 unfold eqsF at h
 ((repeat(first|refine wD ?_|refine awp_seq_k fun K hK=>?_|(refine wH ?_;clear hK)));refine wN fun b3=>?_;(repeat(first|refine wD ?_|refine awp_seq_k fun K hK=>?_|(refine wH ?_;clear hK)));refine wN fun b4=>?_;(repeat(first|refine wD ?_|refine awp_seq_k fun K hK=>?_|refine wN fun bx=>?_|(refine wH ?_;clear hK))))
 refine TR.hcall rfl rfl rfl True.intro rfl rfl (List.Perm.refl _) (SplitSeq_c _ _) (fun v H' hK=>?_) (fun v H' hK=>?_)
 rotate_left
 ·obtain⟨bs,bsep,bsave,e,_⟩:=hK
  cases e
 obtain⟨bs,bsep,bsave,e,rfl⟩:=hK
 cases e
 repeat(first|refine wD ?_|refine awp_seq_k fun K hK=>?_|refine wN fun bx=>?_|(refine wH ?_;clear hK))
 refine awp_weaken (T':=[(9,.func (.func 40) [] [.ptr bsep 0,.ptr bs 0,.ptr bsave 0]),(4,.ptr b4 0),(3,.ptr b3 0)]) (Weak.spec wk) ?_
 refine awp_boxSub (seqBoxes bs bsep bsave s [59]) (Sub.sl_nil eqE 1) ?_
 refine awp_tok0 1 45 ?_
 refine awp_rangeSeq (splitSeq1_c s 59 bs bsep bsave (by omega)) rfl (by decide) (by simp) (Hb:=[.tok none 0 0 1 45,.box b4 28 (sl eqE 1 [] (.own none 0)),.box b3 3 (.int .i64 base)]) (List.perm_middle (l₁:=seqBoxes bs bsep bsave s [59]) (l₂:=[.box b4 28 (sl eqE 1 [] (.own none 0)),.box b3 3 (.int .i64 base)])).symm
  (fun k Hk=>k≤(splitC 59 s).length∧∃(outs rest:List (List PieceR)) (a:Option Addr) (cap:Nat) (G:AHeap),Hk=G++[.tok a cap outs.length 1 45,.box b4 28 (sl eqE 1 outs (.own a cap)),.box b3 3 (.int .i64 base)]∧outs.length=k∧allO (sumF base 9 9) ((splitC 59 s).drop k)=some rest∧outs++rest=L)
  ⟨Nat.zero_le _,[],L,none,0,[],rfl,rfl,h,rfl⟩ ?_ ?_
 ·rintro k Hk vs hx ⟨hk,outs,rest,a,cap,G,rfl,hol,hall,hL⟩
  obtain⟨p,hp,rfl⟩:∃p,(splitC 59 s)[k]?=some p∧vs=[.str p]:=by
   simp only[List.getElem?_map,Option.map_eq_some_iff]at hx
   obtain⟨p,h1,h2⟩:=hx
   exact⟨p,h1,h2.symm⟩
  have hk':=(List.getElem?_eq_some_iff.1 hp).1
  have hcount:=pieces_count 59 s
  have hplen:=pieces_len 59 s p (List.mem_of_getElem? hp)
  have hdk:(splitC 59 s).drop k=p::(splitC 59 s).drop (k+1):=by
   rw[List.drop_eq_getElem_cons hk',(List.getElem?_eq_some_iff.1 hp).2]
  rw[hdk]at hall
  simp only[allO]at hall
  cases hsum:sumF base 9 9 p with
  |none=>rw[hsum]at hall;cases hall
  |some lp=>
  rw[hsum]at hall
  simp only at hall
  cases hall2:allO (sumF base 9 9) ((splitC 59 s).drop (k+1))with
  |none=>rw[hall2]at hall;cases hall
  |some rest2=>
  rw[hall2]at hall
  simp only[Option.some.injEq]at hall
  subst hall
  refine awp_dropF ?_
  repeat(first|refine wD ?_|refine awp_seq_k fun K hK=>?_|refine wN fun bx=>?_|(refine wH ?_;clear hK))
  refine⟨rfl,?_⟩
  ((repeat(first|refine wD ?_|refine awp_seq_k fun K hK=>?_|(refine wH ?_;clear hK)));refine wN fun b14=>?_;(repeat(first|refine wD ?_|refine awp_seq_k fun K hK=>?_|refine wN fun bx=>?_|(refine wH ?_;clear hK))))
  refine awp_tok0 3 44 ?_
  have hlp:=sumF_len hsum
  refine awp_loopP (ι:={y:Nat×List PieceR×List PieceR×List UInt8×Option Addr×Nat//sumF base 9 y.1 y.2.2.2.1=some y.2.2.1∧y.2.1++y.2.2.1=lp∧y.2.2.2.1.length≤1000000})
   (fun y=>[(6,.ptr b14 0),(7,sl pieceE 3 y.1.2.1 (.own y.1.2.2.2.2.1 y.1.2.2.2.2.2)),(4,.ptr b4 0),(3,.ptr b3 0)])
   (fun y=>[.box b14 67 (.agg [.str y.1.2.2.2.1,.int .i64 base]),.tok y.1.2.2.2.2.1 y.1.2.2.2.2.2 y.1.2.1.length 3 44,.tok a cap outs.length 1 45,.box b4 28 (sl eqE 1 outs (.own a cap)),.box b3 3 (.int .i64 base)])
   (fun y=>y.1.1) ⟨(9,[],lp,p,none,0),hsum,rfl,by show p.length≤1000000;omega⟩ wk ⟨[],List.Perm.swap _ _ _⟩ ?_
  rintro⟨⟨j,acc,l2,cur,a2,c2⟩,hj,hacc,hcur⟩
  simp only at hj hacc hcur ⊢
  have hal:acc.length+l2.length=lp.length:=by rw[←List.length_append,hacc]
  cases j with
  |zero=>simp[sumF]at hj
  |succ j=>
  simp only[sumF]at hj
  cases cur with
  |nil=>
   simp only[List.isEmpty_nil,Option.some.injEq]at hj
   subst hj
   rw[List.append_nil]at hacc
   subst hacc
   repeat(first|refine wD ?_|refine awp_seq_k fun K hK=>?_|refine wN fun bx=>?_|(refine wH ?_;clear hK))
   refine qapp tyok eqE outs acc (.cons (Sub.view _ _ _ _) .nil) ?_ fun ad cp=>?_
   ·simp only
    omega
   repeat(first|refine wD ?_|refine awp_seq_k fun K hK=>?_|refine wN fun bx=>?_|(refine wH ?_;clear hK))
   exact⟨hk',outs++[acc],rest2,ad,cp,[_,_],rfl,by simp[hol],rfl,by simpa using hL⟩
  |cons x t=>
   simp only[List.isEmpty_cons]at hj
   cases hpc:pieceF base 9 (x::t)with
   |none=>rw[hpc]at hj;cases hj
   |some q=>
   obtain⟨pc,s1⟩:=q
   rw[hpc]at hj
   simp only at hj
   have t1:=pieceF_len hpc
   cases hsm:sumF base 9 j s1 with
   |none=>rw[hsm]at hj;cases hj
   |some l3=>
   rw[hsm]at hj
   simp only[Option.some.injEq]at hj
   subst hj
   repeat(first|refine wD ?_|refine awp_seq_k fun K hK=>?_|refine wN fun bx=>?_|(refine wH ?_;clear hK))
   (first|refine qcallE .here (piece_c b14 (x::t) s1 base 9 pc hcur (by decide) h3 h4 hpc) ?_|refine qcallE (.there .here) (piece_c b14 (x::t) s1 base 9 pc hcur (by decide) h3 h4 hpc) ?_|refine qcallE (.there (.there .here)) (piece_c b14 (x::t) s1 base 9 pc hcur (by decide) h3 h4 hpc) ?_|refine qcallE (.there (.there (.there .here))) (piece_c b14 (x::t) s1 base 9 pc hcur (by decide) h3 h4 hpc) ?_|refine qcallE (.there (.there (.there (.there .here)))) (piece_c b14 (x::t) s1 base 9 pc hcur (by decide) h3 h4 hpc) ?_)
   repeat(first|refine wD ?_|refine awp_seq_k fun K hK=>?_|refine wN fun bx=>?_|(refine wH ?_;clear hK))
   refine qapp tyok pieceE acc pc (SubL.refl _) ?_ fun ad cp=>?_
   ·simp only
    omega
   repeat(first|refine wD ?_|refine awp_seq_k fun K hK=>?_|refine wN fun bx=>?_|(refine wH ?_;clear hK))
   refine⟨⟨(j,acc++[pc],l3,s1,ad,cp),hsm,by simpa using hacc,by show s1.length≤1000000;omega⟩,wk,⟨[],List.Perm.refl _⟩,Nat.lt_succ_self _⟩
 ·rintro He H' ⟨s',rfl⟩ ⟨hk,outs,rest,a,cap,G,rfl,hol,hall,hL⟩
  rw[List.length_map]at hol hall
  rw[List.drop_length]at hall
  simp only[allO,Option.some.injEq]at hall
  subst hall
  rw[List.append_nil]at hL
  subst hL
  refine blockQ_normal ?_
  refine hK _ _ ?_
  rw[←List.append_assoc]
  refine awp_dropF ?_
  repeat(first|refine wD ?_|refine awp_seq_k fun K hK=>?_|refine wN fun bx=>?_|(refine wH ?_;clear hK))
  exact fnQ_ret 3 rfl (.cell rfl rfl (List.Mem.tail _ (List.Mem.head _)) rfl trivial .nil) (Sub.view _ _ _ _) ⟨rfl,rfl⟩
end Go.Proofs.YtcbdfmmiigpddaaDoor
namespace Go.Ab
section
variable {P:Program} {N:Nat} {ty:TypeId→Option TyI} {l0:List Oper} {LD:LDs} {W:Bool} {Q:APost} {n:Nat} {o:Oper} {l:List (Nat×Oper)} {T:Tmps} {H:AHeap}
theorem run_build2 (hty:TyOk P ty) {t e:TypeId} {i ei:TyI} {z0 z1:AV} {k:IntKind} {w:World} (hti:ty t=some i) (hk:i.k=.array 2 e) (hz:i.zero=.agg [z0,z1]) (he:ty e=some ei) (hes:ei.size=1) (a b:Int):
  (Instr.build t #[(0,.int k a),(1,.int k b)]).run P w=.ok (.agg #[.int k a,.int k b]) w:=by
 obtain⟨⟨d,hd,hkf⟩,inf,zv,hinf,hsz,hby,hzz,hzs,hzr⟩:=hty t i hti
 obtain⟨-,inf2,_,hinf2,hsz2,-⟩:=hty e ei he
 rw[hk]at hkf
 obtain rfl:d=.array 2 e:=hkf
 have hzr':=hzr.1 (fun _ _=>False) w
 rw[hz]at hzr'
 cases hzr' with
 |agg _ cs hl hc=>
 match cs,hl with
 |[c0,c1],_=>
 unfold Instr.build
 have hzv:(zeroValue t).run P w=.ok (.agg ⟨[c0,c1]⟩) w:=by rw[run_zeroValue hinf hzz]
 have hso:(sizeOf e).run P w=.ok 1 w:=by rw[run_sizeOf hinf2,hsz2,hes]
 rw[Sem.run_bind,hzv,Result.andThen_ok,Sem.run_bind,run_underlying hd,Result.andThen_ok]
 simp only[Sem.run_bind]
 rw[hso,Result.andThen_ok]
 rfl
theorem qarr2 (hty:TyOk P ty) {t e:TypeId} {x y:Operand} {i ei:TyI} {z0 z1:AV} {k:IntKind} {a b:Int} {d:Nat} (k':TR P N ty l0 LD W Q l ((d,.agg [.int k a,.int k b])::T) H)
  (ho:o.op=.build t #[(0,x),(1,y)]:=by exact rfl) (hg:o.guard=none:=by exact rfl) (hd:o.dst=some d:=by exact rfl) (hN:Nat.ble (d+1) N=true:=by exact rfl)
  (hon:optN True T (tmpsOf o.op):=by exact True.intro) (hti:ty t=some i:=by exact rfl) (hk:i.k=.array 2 e:=by exact rfl) (hz:i.zero=.agg [z0,z1]:=by exact rfl) (he:ty e=some ei:=by exact rfl)
  (hes:ei.size=1:=by exact rfl) (hx:opvL (tmpsOf o.op) T x=some (.int k a):=by exact rfl) (hy:opvL (tmpsOf o.op) T y=some (.int k b):=by exact rfl):TR P N ty l0 LD W Q ((n,o)::l) T H:=by
 refine TR.sem (.agg [.int k a,.int k b]) d hg hd hN hon (fun st w ρ hF=>?_) k'
 have h1:=(hF x _ hx).int_eq
 have h2:=(hF y _ hy).int_eq
 refine⟨.agg #[.int k a,.int k b],?_,.agg _ _ rfl fun j v z hv hz=>?_⟩
 ·unfold execOp
  rw[ho]
  have e:(#[(0,x),(1,y)].map fun(p:Nat×Operand)=>(p.1,ρ p.2))= #[(0,.int k a),(1,.int k b)]:=by simp[h1,h2]
  show((do pure (.value (←Instr.build t (#[(0,x),(1,y)].map fun(p:Nat×Operand)=>(p.1,ρ p.2))))):Sem Next).run P w=_
  rw[e]
  exact exec_v (run_build2 hty hti hk hz he hes a b)
 ·match j,hv,hz with
  |0,hv,hz=>simp at hv hz;subst hv;subst hz;exact .int _ _
  |1,hv,hz=>simp at hv hz;subst hv;subst hz;exact .int _ _
end
end Go.Ab
namespace Go.Proofs.YtcbdfmmiigpddaaDoor
open Go.Ab
def rowV:Option (List (List UInt8))→AV
 |some l=>.tuple [sl txtE 1 l .view,.bool true]
 |none=>.tuple [sl txtE 1 [] .view,.bool false]
theorem split_ne (s sep:List UInt8):0<(Lib.split s sep).length:=by
 unfold Lib.split
 cases Lib.count s sep with
 |zero=>simp[Lib.splitK]
 |succ k=>
  unfold Lib.splitK
  split<;>simp
theorem cbRow:Callable Tryd.prog 15:=fun _ _=>by kernel_rfl
theorem row_c (t w:List UInt8) (hs:t.length≤1000000):PCalls Tryd.prog 15 [.str t,.str w] (rowV (rowF t w)):=by
 refine pcalls_of_awp tyok cbRow Tryd.func15 rfl rfl ?_
 ((repeat(first|refine wD ?_|refine awp_seq_k fun K hK=>?_|(refine wH ?_;clear hK)));refine wN fun b3=>?_;(repeat(first|refine wD ?_|refine awp_seq_k fun K hK=>?_|(refine wH ?_;clear hK)));refine wN fun b4=>?_;(repeat(first|refine wD ?_|refine awp_seq_k fun K hK=>?_|(refine wH ?_;clear hK)));refine wN fun b5=>?_;(repeat(first|refine wD ?_|refine awp_seq_k fun K hK=>?_|refine wN fun bx=>?_|(refine wH ?_;clear hK))))
 refine TR.hcall rfl rfl rfl True.intro rfl rfl (List.Perm.refl _) (SplitSeq_c _ _) (fun v H' hK=>?_) (fun v H' hK=>?_)
 rotate_left
 ·obtain⟨bs,bsep,bsave,e,_⟩:=hK
  cases e
 obtain⟨bs,bsep,bsave,e,rfl⟩:=hK
 cases e
 repeat(first|refine wD ?_|refine awp_seq_k fun K hK=>?_|refine wN fun bx=>?_|(refine wH ?_;clear hK))
 refine awp_weaken (T':=[(9,.func (.func 40) [] [.ptr bsep 0,.ptr bs 0,.ptr bsave 0]),(5,.ptr b5 0),(4,.ptr b4 0),(3,.ptr b3 0)]) (Weak.spec wk) ?_
 refine awp_rangeSeq (splitSeq1_c t 10 bs bsep bsave (by omega)) rfl (by decide) (by simp) (Hb:=[.box b5 4 (.bool false),.box b4 23 .nils,.box b3 9 (.str w)]) (List.Perm.refl _)
  (fun k Hk=>k≤(splitC 10 t).length∧∃(G:AHeap),Hk=G++[.box b5 4 (.bool false),.box b4 23 .nils,.box b3 9 (.str w)]∧rowG w ((rowsF t).drop k)=rowF t w)
  ⟨Nat.zero_le _,[],rfl,rfl⟩ ?_ ?_
 ·rintro k Hk vs hx ⟨hk,G,rfl,hrow⟩
  obtain⟨p,hp,rfl⟩:∃p,(splitC 10 t)[k]?=some p∧vs=[.str p]:=by
   simp only[List.getElem?_map,Option.map_eq_some_iff]at hx
   obtain⟨p,h1,h2⟩:=hx
   exact⟨p,h1,h2.symm⟩
  have hk':=(List.getElem?_eq_some_iff.1 hp).1
  have hplen:=pieces_len 10 t p (List.mem_of_getElem? hp)
  have hdk:(rowsF t).drop k=Lib.split p [124]::(rowsF t).drop (k+1):=by
   unfold rowsF
   rw[List.drop_eq_getElem_cons (by simpa using hk')]
   simp[(List.getElem?_eq_some_iff.1 hp).2]
  rw[hdk]at hrow
  simp only[rowG]at hrow
  have gs:=split_c p 124 (by omega)
  have hne:=split_ne p [124]
  refine awp_dropF ?_
  repeat(first|refine wD ?_|refine awp_seq_k fun K hK=>?_|refine wN fun bx=>?_|(refine wH ?_;clear hK))
  refine⟨rfl,?_⟩
  repeat(first|refine wD ?_|refine awp_seq_k fun K hK=>?_|refine wN fun bx=>?_|refine qpc rfl rfl rfl (gs) ?_|refine qpo rfl rfl rfl rfl rfl rfl (fun _=>gs) ?_|(refine wH ?_;clear hK))
  refine awp_cond rfl (fun hb=>?_) (fun hb=>?_)
  ·have he:(Lib.split p [124]).getD 0 []=w:=beq_iff_eq.1 hb
   rw[if_pos he]at hrow
   repeat(first|refine wD ?_|refine awp_seq_k fun K hK=>?_|refine wN fun bx=>?_|(refine wH ?_;clear hK))
   intro He _
   repeat(first|refine blockQ_ret ?_|refine thenQ_ret ?_)
   refine⟨_,_,_,.cell rfl rfl (b:=b4) (ty0:=23) (u:=sl txtE 1 (Lib.split p [124]) .view) (List.mem_append.2 (.inr (List.mem_of_getElem? (i:=1) rfl))) rfl trivial
    (.cell rfl rfl (b:=b5) (ty0:=4) (u:=.bool true) (List.mem_append.2 (.inr (List.mem_of_getElem? (i:=0) rfl))) rfl trivial .nil),?_,rfl,List.drop_length⟩
   rw[←hrow]
   exact Sub.refl _
  ·have he:¬(Lib.split p [124]).getD 0 []=w:=fun e=>absurd (beq_iff_eq.2 e) (by rw[show((Lib.split p [124]).getD 0 []==w)=false from hb];decide)
   rw[if_neg he]at hrow
   repeat(first|refine wD ?_|refine awp_seq_k fun K hK=>?_|refine wN fun bx=>?_|(refine wH ?_;clear hK))
   exact⟨hk',[],rfl,hrow⟩
 ·rintro He H' ⟨s',rfl⟩ ⟨hk,G,rfl,hrow⟩
  rw[List.length_map,show(splitC 10 t).length=(rowsF t).length by simp[rowsF],List.drop_length]at hrow
  refine blockQ_normal ?_
  refine hK _ _ ?_
  rw[←List.append_assoc]
  refine awp_dropF ?_
  repeat(first|refine wD ?_|refine awp_seq_k fun K hK=>?_|refine wN fun bx=>?_|(refine wH ?_;clear hK))
  refine fnQ_ret 3 rfl (.cell rfl rfl (List.Mem.tail _ (List.Mem.head _)) rfl trivial (.cell rfl rfl (List.Mem.head _) rfl trivial .nil)) ?_ ⟨rfl,rfl⟩
  rw[←hrow]
  exact Sub.tuple2 (Sub.nilsv _ _) (Sub.refl _)
def wordsT (t:List UInt8):List (List UInt8):=(splitC 10 t).map fun l=>(Lib.cut l [124]).1
theorem cbWords1:Callable Tryd.prog 24:=fun _ _=>by kernel_rfl
theorem fwords1_c (s:List UInt8) (b:Nat) (outs:List (List UInt8)) (a:Option Addr) (cap:Nat) (hs:s.length≤1000000) (ho:outs.length≤1000000):
  ACalls Tryd.prog 24 [.str s,.ptr b 0] [.tok a cap outs.length 1 9,.box b 23 (sl txtE 1 outs (.own a cap))]
   (fun r H'=>r=.ret (.tuple [])∧∃ad cp,H'=[.tok ad cp (outs++[(Lib.cut s [124]).1]).length 1 9,.box b 23 (sl txtE 1 (outs++[(Lib.cut s [124]).1]) (.own ad cp))]):=by
 refine acalls_of_awp tyok cbWords1 Tryd.func24 rfl rfl ?_
 have g:=cut_c s [124] (by omega)
 repeat(first|refine wD ?_|refine awp_seq_k fun K hK=>?_|refine wN fun bx=>?_|refine qpc rfl rfl rfl (g) ?_|refine qpo rfl rfl rfl rfl rfl rfl (fun _=>g) ?_|(refine wH ?_;clear hK))
 refine qapp tyok txtE outs (Lib.cut s [124]).1 (SubL.refl _) ?_ fun ad cp=>?_
 ·simp only
  omega
 repeat(first|refine wD ?_|refine awp_seq_k fun K hK=>?_|refine wN fun bx=>?_|(refine wH ?_;clear hK))
 exact fnQ_ret 0 rfl .nil (Sub.refl _) ⟨rfl,ad,cp,rfl⟩
end Go.Proofs.YtcbdfmmiigpddaaDoor
namespace Go.Proofs.YtcbdfmmiigpddaaDoor
open Go.Ab
theorem cbWords:Callable Tryd.prog 14:=fun _ _=>by kernel_rfl
set_option maxHeartbeats 3200000 in
set_option maxRecDepth 100000 in
theorem fwords_c (t:List UInt8) (hs:t.length≤900000):PCalls Tryd.prog 14 [.str t] (sl txtE 1 (wordsT t) .view):=by
 refine pcalls_of_awp tyok cbWords Tryd.func14 rfl rfl ?_
 ((repeat(first|refine wD ?_|refine awp_seq_k fun K hK=>?_|(refine wH ?_;clear hK)));refine wN fun b2=>?_;(repeat(first|refine wD ?_|refine awp_seq_k fun K hK=>?_|(refine wH ?_;clear hK)));refine wN fun b3=>?_;(repeat(first|refine wD ?_|refine awp_seq_k fun K hK=>?_|refine wN fun bx=>?_|(refine wH ?_;clear hK))))
 refine TR.hcall rfl rfl rfl True.intro rfl rfl (List.Perm.refl _) (SplitSeq_c _ _) (fun v H' hK=>?_) (fun v H' hK=>?_)
 rotate_left
 ·obtain⟨bs,bsep,bsave,e,_⟩:=hK
  cases e
 obtain⟨bs,bsep,bsave,e,rfl⟩:=hK
 cases e
 repeat(first|refine wD ?_|refine awp_seq_k fun K hK=>?_|refine wN fun bx=>?_|(refine wH ?_;clear hK))
 refine awp_weaken (T':=[(7,.func (.func 40) [] [.ptr bsep 0,.ptr bs 0,.ptr bsave 0]),(3,.ptr b3 0),(2,.ptr b2 0)]) (Weak.spec wk) ?_
 refine awp_boxSub (seqBoxes bs bsep bsave t [10]++[.box b3 60 (.func (.func 24) [] [.ptr b2 0])]) (Sub.sl_nil txtE 1) ?_
 refine awp_tok0 1 9 ?_
 refine awp_rangeSeq (splitSeq1_c t 10 bs bsep bsave (by omega)) rfl (by decide) (by simp) (Hb:=[.tok none 0 0 1 9,.box b3 60 (.func (.func 24) [] [.ptr b2 0]),.box b2 23 (sl txtE 1 [] (.own none 0))]) (List.perm_middle (l₁:=seqBoxes bs bsep bsave t [10]) (l₂:=[.box b3 60 (.func (.func 24) [] [.ptr b2 0]),.box b2 23 (sl txtE 1 [] (.own none 0))])).symm
  (fun k Hk=>k≤(splitC 10 t).length∧∃(outs:List (List UInt8)) (a:Option Addr) (cap:Nat) (G:AHeap),Hk.Perm (G++[.tok a cap outs.length 1 9,.box b3 60 (.func (.func 24) [] [.ptr b2 0]),.box b2 23 (sl txtE 1 outs (.own a cap))])∧outs=(wordsT t).take k)
  ⟨Nat.zero_le _,[],none,0,[],List.Perm.refl _,rfl⟩ ?_ ?_
 ·rintro k Hk vs hx ⟨hk,outs,a,cap,G,hperm,hout⟩
  obtain⟨p,hp,rfl⟩:∃p,(splitC 10 t)[k]?=some p∧vs=[.str p]:=by
   simp only[List.getElem?_map,Option.map_eq_some_iff]at hx
   obtain⟨p,h1,h2⟩:=hx
   exact⟨p,h1,h2.symm⟩
  have hk':=(List.getElem?_eq_some_iff.1 hp).1
  have hcount:=pieces_count 10 t
  have hplen:=pieces_len 10 t p (List.mem_of_getElem? hp)
  have hol:outs.length≤1000000:=by
   rw[hout,List.length_take]
   have:(wordsT t).length=(splitC 10 t).length:=by simp[wordsT]
   omega
  have hnext:outs++[(Lib.cut p [124]).1]=(wordsT t).take (k+1):=by
   have hkw:k<(wordsT t).length:=by simpa [wordsT]using hk'
   rw[hout,List.take_succ_eq_append_getElem hkw]
   simp[wordsT,(List.getElem?_eq_some_iff.1 hp).2]
  refine awp_permS hperm ?_
  refine awp_dropF ?_
  repeat(first|refine wD ?_|refine awp_seq_k fun K hK=>?_|refine wN fun bx=>?_|(refine wH ?_;clear hK))
  refine⟨rfl,?_⟩
  repeat(first|refine wD ?_|refine awp_seq_k fun K hK=>?_|refine wN fun bx=>?_|(refine wH ?_;clear hK))
  refine TR.hcall (Hc:=[.tok a cap outs.length 1 9,.box b2 23 (sl txtE 1 outs (.own a cap))]) (G:=[_]) rfl rfl rfl True.intro rfl rfl (List.Perm.cons _ (List.Perm.swap _ _ _)) (fwords1_c p b2 outs a cap (by omega) hol) (fun v H' hK=>?_) (fun v H' hK=>?_)
  rotate_left
  ·obtain⟨e1,_⟩:=hK
   cases e1
  obtain⟨e1,ad,cp,rfl⟩:=hK
  cases e1
  repeat(first|refine wD ?_|refine awp_seq_k fun K hK=>?_|refine wN fun bx=>?_|(refine wH ?_;clear hK))
  exact⟨hk',outs++[(Lib.cut p [124]).1],ad,cp,[],.cons _ (.swap _ _ _),hnext⟩
 ·rintro He H' ⟨s',rfl⟩ ⟨hk,outs,a,cap,G,hperm,hout⟩
  rw[List.length_map,show(splitC 10 t).length=(wordsT t).length by simp[wordsT],List.take_length]at hout
  subst hout
  refine blockQ_normal ?_
  refine hK _ _ ?_
  refine awp_permS (H:=(seqBoxes bs bsep bsave s' [10]++G)++[_,_,_]) (by rw[List.append_assoc];exact List.Perm.append_left _ hperm) ?_
  refine awp_dropF ?_
  repeat(first|refine wD ?_|refine awp_seq_k fun K hK=>?_|refine wN fun bx=>?_|(refine wH ?_;clear hK))
  exact fnQ_ret 3 rfl (.cell rfl rfl (List.Mem.tail _ (List.Mem.tail _ (List.Mem.head _))) rfl trivial .nil) (Sub.view _ _ _ _) ⟨rfl,rfl⟩
noncomputable def made21:List UInt8:=(Tryd.f9.body.bind codeArg).getD []
noncomputable def asked21:List UInt8:=(Tryd.f12.body.bind codeArg).getD []
theorem made_len:made21.length≤100000:=by decide +kernel
theorem asked_len:asked21.length≤100000:=by decide +kernel
theorem cbCs:Callable Tryd.prog 5:=fun _ _=>by kernel_rfl
set_option maxRecDepth 100000 in
theorem constructions_c:PCalls Tryd.prog 5 [] (sl txtE 1 (wordsT made21) .view):=by
 refine pcalls_of_awp tyok cbCs Tryd.func5 rfl rfl ?_
 have g:=fwords_c made21 (by have:=made_len;omega)
 repeat(first|refine wD ?_|refine awp_seq_k fun K hK=>?_|refine wN fun bx=>?_|refine qpc rfl rfl rfl (g) ?_|refine qpo rfl rfl rfl rfl rfl rfl (fun _=>g) ?_|(refine wH ?_;clear hK))
 refine r1 ?_
 exact Sub.refl _
theorem cbPs:Callable Tryd.prog 6:=fun _ _=>by kernel_rfl
set_option maxRecDepth 100000 in
theorem predicates_c:PCalls Tryd.prog 6 [] (sl txtE 1 (wordsT asked21) .view):=by
 refine pcalls_of_awp tyok cbPs Tryd.func6 rfl rfl ?_
 have g:=fwords_c asked21 (by have:=asked_len;omega)
 repeat(first|refine wD ?_|refine awp_seq_k fun K hK=>?_|refine wN fun bx=>?_|refine qpc rfl rfl rfl (g) ?_|refine qpo rfl rfl rfl rfl rfl rfl (fun _=>g) ?_|(refine wH ?_;clear hK))
 refine r1 ?_
 exact Sub.refl _
def rowsOk (R:List (List UInt8)→Option FigR) (t:List UInt8):Bool:=(rowsF t).all fun l=>(R l).isSome&&l.all fun x=>Nat.ble x.length 1000
theorem made_ok:rowsOk conR made21=true:=by decide +kernel
theorem asked_ok:rowsOk preR asked21=true:=by decide +kernel
theorem rowsOk_at {R:List (List UInt8)→Option FigR} {t w:List UInt8} {l:List (List UInt8)} (h:rowsOk R t=true) (hr:rowF t w=some l):(∃f,R l=some f)∧∀x∈l,x.length≤1000:=by
 have:=List.all_eq_true.1 h l (rowG_mem hr)
 simp only[Bool.and_eq_true,List.all_eq_true]at this
 exact⟨Option.isSome_iff_exists.1 this.1,fun x hx=>Nat.le_of_ble_eq_true (this.2 x hx)⟩
noncomputable def conF (w:List UInt8):Option FigR:=match rowF made21 w with
 |none=>none
 |some l=>match conR l with
  |none=>none
  |some f=>some {f with word:=w}
noncomputable def preF (w:List UInt8):Option FigR:=match rowF asked21 w with
 |none=>none
 |some l=>match preR l with
  |none=>none
  |some f=>some {f with word:=w}
theorem conF_none {w:List UInt8} (h:rowF made21 w=none):conF w=none:=by
 unfold conF
 rw[h]
theorem conF_some {w:List UInt8} {l:List (List UInt8)} {f:FigR} (h:rowF made21 w=some l) (hf:conR l=some f):conF w=some {f with word:=w}:=by
 unfold conF
 rw[h]
 simp only[hf]
theorem preF_none {w:List UInt8} (h:rowF asked21 w=none):preF w=none:=by
 unfold preF
 rw[h]
theorem preF_some {w:List UInt8} {l:List (List UInt8)} {f:FigR} (h:rowF asked21 w=some l) (hf:preR l=some f):preF w=some {f with word:=w}:=by
 unfold preF
 rw[h]
 simp only[hf]
def figZ:FigR:=⟨[],0,0,[],[],[],[]⟩
def figV:Option FigR→AV
 |some f=>.tuple [.agg (figE f),.bool true]
 |none=>.tuple [.agg (figE figZ),.bool false]
theorem figZ_sub:Sub (.agg [.str [],.int .i64 0,.int .i64 0,.nils,.nils,.str [],.nils]) (.agg (figE figZ)):=
 subAgg (.cons (Sub.refl _) (.cons (Sub.refl _) (.cons (Sub.refl _) (.cons (Sub.nilsv _ _) (.cons (Sub.nilsv _ _) (.cons (Sub.refl _) (.cons (Sub.nilsv _ _) .nil)))))))
end Go.Proofs.YtcbdfmmiigpddaaDoor
namespace Go.Proofs.YtcbdfmmiigpddaaDoor
open Go.Ab
theorem cbPr:Callable Tryd.prog 12:=fun _ _=>by kernel_rfl
theorem predicate_c (w:List UInt8):PCalls Tryd.prog 12 [.str w] (figV (preF w)):=by
 refine pcalls_of_awp tyok cbPr Tryd.func12 rfl rfl ?_
 have g:=row_c asked21 w (by have:=asked_len;omega)
 cases hr:rowF asked21 w with
 |none=>
  rw[hr]at g
  simp only[rowV]at g
  ((repeat(first|refine wD ?_|refine awp_seq_k fun K hK=>?_|refine qpc rfl rfl rfl (g) ?_|refine qpo rfl rfl rfl rfl rfl rfl (fun _=>g) ?_|(refine wH ?_;clear hK)));refine wN fun b2=>?_;(repeat(first|refine wD ?_|refine awp_seq_k fun K hK=>?_|refine wN fun bx=>?_|refine qpc rfl rfl rfl (g) ?_|refine qpo rfl rfl rfl rfl rfl rfl (fun _=>g) ?_|(refine wH ?_;clear hK))))
  refine fnQ_ret 1 rfl (.cell rfl rfl (List.Mem.head _) rfl trivial (.tmp rfl .nil)) ?_ ⟨rfl,rfl⟩
  rw[preF_none hr]
  exact Sub.tuple2 figZ_sub (Sub.refl _)
 |some l=>
  rw[hr]at g
  simp only[rowV]at g
  obtain⟨⟨f,hf⟩,hlen⟩:=rowsOk_at asked_ok hr
  have hP:=preF_some hr hf
  unfold preR at hf
  split at hf
  rotate_left
  ·cases hf
  rename_i w0 p e
  cases hp:digF p with
  |none=>rw[hp]at hf;cases hf
  |some pv=>
  rw[hp]at hf
  simp only at hf
  cases he:eqsF 0 e with
  |none=>rw[he]at hf;cases hf
  |some ev=>
  rw[he]at hf
  simp only[Option.some.injEq]at hf
  subst hf
  have g1:=digit_c p pv hp (by have:=hlen p (by simp);omega)
  have g2:=equations_c e 0 ev (by have:=hlen e (by simp);omega) (by decide) (by decide) he
  have hl3:(([w0,p,e]:List (List UInt8)).length:Int)=3:=rfl
  ((repeat(first|refine wKB ?_|refine awp_seq_k fun K hK=>?_|refine qpc rfl rfl rfl (g) ?_|refine qpo rfl rfl rfl rfl rfl rfl (fun _=>g) ?_|(refine wH ?_;clear hK)));refine wN fun b2=>?_;(repeat(first|refine wKB ?_|refine awp_seq_k fun K hK=>?_|refine wN fun bx=>?_|refine qpc rfl rfl rfl (g) ?_|refine qpo rfl rfl rfl rfl rfl rfl (fun _=>g) ?_|(refine wH ?_;clear hK))))
  refine areg_soft mixed tyok [4,8] [] [0,1,2,3,4,5,6,7,8,9,10,11] (by decide +kernel) ?_
  repeat(first|refine wDB ?_|refine awp_seq_k fun K hK=>?_|refine wN fun bx=>?_|refine qpc rfl rfl rfl (g1) ?_|refine qpc rfl rfl rfl (g2) ?_|refine qpo rfl rfl rfl rfl rfl rfl (fun _=>g1) ?_|refine qpo rfl rfl rfl rfl rfl rfl (fun _=>g2) ?_|(refine wH ?_;clear hK))
  refine fnQ_ret 1 rfl (.cell rfl rfl (List.Mem.head _) rfl trivial (.tmp rfl .nil)) ?_ ⟨rfl,rfl⟩
  rw[hP]
  exact(Sub.tuple2 (subAgg (.cons (Sub.refl _) (.cons (Sub.refl _) (.cons (Sub.refl _) (.cons (Sub.nilsv _ _) (.cons (Sub.refl _) (.cons (Sub.refl _) (.cons (Sub.nilsv _ _) .nil)))))))) (Sub.refl _))
theorem allO_drop {α β:Type} {f:α→Option β} {l:List α} {r:List β} {k:Nat} {x:α} (hk:l[k]?=some x) (h:allO f (l.drop k)=some r):∃y r',f x=some y∧allO f (l.drop (k+1))=some r'∧r=y::r':=by
 have hk':=(List.getElem?_eq_some_iff.1 hk).1
 rw[List.drop_eq_getElem_cons hk',(List.getElem?_eq_some_iff.1 hk).2]at h
 simp only[allO]at h
 cases h1:f x with
 |none=>rw[h1]at h;cases h
 |some y=>
  rw[h1]at h
  simp only at h
  cases h2:allO f (l.drop (k+1))with
  |none=>rw[h2]at h;cases h
  |some r'=>
   rw[h2]at h
   simp only[Option.some.injEq]at h
   exact⟨y,r',rfl,rfl,h.symm⟩
theorem fieldsGo_len:∀(l cur x:List UInt8),x∈Lib.fieldsGo cur l→x.length≤cur.length+l.length
 |[],cur,x,h=>by
  simp only[Lib.fieldsGo]at h
  split at h
  ·cases h
  ·simp at h;simp[h]
 |b::l,cur,x,h=>by
  simp only[Lib.fieldsGo]at h
  split at h
  ·split at h
   ·have:=fieldsGo_len l [] x h
    simp at this ⊢;omega
   ·rcases List.mem_cons.1 h with rfl|h
    ·simp
    ·have:=fieldsGo_len l [] x h
     simp at this ⊢;omega
  ·have:=fieldsGo_len l _ x h
   simp at this ⊢;omega
theorem fields_count (l:List UInt8):(Lib.fields l).length≤l.length+1:=by
 have:∀(l:List UInt8) (ws:Bool),Lib.cntF ws l≤l.length:=by
  intro l
  induction l with
  |nil=>intro ws;simp[Lib.cntF]
  |cons b l ih=>
   intro ws
   have:=ih (Lib.isSp b)
   simp only[Lib.cntF,List.length_cons]
   split<;>omega
 rw[Lib.fields_length]
 have:=this l true
 omega
theorem cbCo:Callable Tryd.prog 9:=fun _ _=>by kernel_rfl
theorem construction_c (w:List UInt8):PCalls Tryd.prog 9 [.str w] (figV (conF w)):=by
 refine pcalls_of_awp tyok cbCo Tryd.func9 rfl rfl ?_
 have g:=row_c made21 w (by have:=made_len;omega)
 cases hr:rowF made21 w with
 |none=>
  rw[hr]at g
  simp only[rowV]at g
  ((repeat(first|refine wD ?_|refine awp_seq_k fun K hK=>?_|refine qpc rfl rfl rfl (g) ?_|refine qpo rfl rfl rfl rfl rfl rfl (fun _=>g) ?_|(refine wH ?_;clear hK)));refine wN fun b2=>?_;(repeat(first|refine wD ?_|refine awp_seq_k fun K hK=>?_|refine wN fun bx=>?_|refine qpc rfl rfl rfl (g) ?_|refine qpo rfl rfl rfl rfl rfl rfl (fun _=>g) ?_|(refine wH ?_;clear hK))))
  refine fnQ_ret 1 rfl (.cell rfl rfl (List.Mem.head _) rfl trivial (.tmp rfl .nil)) ?_ ⟨rfl,rfl⟩
  rw[conF_none hr]
  exact Sub.tuple2 figZ_sub (Sub.refl _)
 |some l=>
  rw[hr]at g
  simp only[rowV]at g
  obtain⟨⟨f,hf⟩,hlen⟩:=rowsOk_at made_ok hr
  have hP:=conF_some hr hf
  unfold conR at hf
  split at hf
  rotate_left
  ·cases hf
  rename_i w0 p n u e bt
  cases hp:digF p with
  |none=>rw[hp]at hf;cases hf
  |some pv=>
  rw[hp]at hf
  simp only at hf
  cases hn:digF n with
  |none=>rw[hn]at hf;cases hf
  |some nv=>
  rw[hn]at hf
  simp only at hf
  cases hu:asciiB u with
  |false=>rw[hu]at hf;cases hf
  |true=>
  rw[hu]at hf
  simp only at hf
  cases hpr:allO pairF (Lib.fields u)with
  |none=>rw[hpr]at hf;cases hf
  |some uv=>
  rw[hpr]at hf
  simp only at hf
  cases he:eqsF 1 e with
  |none=>rw[he]at hf;cases hf
  |some ev=>
  rw[he]at hf
  simp only at hf
  cases hbt:builtF bt with
  |none=>rw[hbt]at hf;cases hf
  |some q=>
  obtain⟨bw,bp⟩:=q
  rw[hbt]at hf
  simp only[Option.some.injEq]at hf
  subst hf
  have lu:u.length≤1000:=hlen u (by simp)
  have lb:bt.length≤1000:=hlen bt (by simp)
  have g1:=digit_c p pv hp (by have:=hlen p (by simp);omega)
  have g2:=digit_c n nv hn (by have:=hlen n (by simp);omega)
  have g3:=equations_c e 1 ev (by have:=hlen e (by simp);omega) (by decide) (by decide) he
  have g4:=fields_c u (by omega) hu
  have g5:=cut_c bt [32] (by omega)
  have lc:=cut_len bt [32]
  have hl6:(([w0,p,n,u,e,bt]:List (List UInt8)).length:Int)=6:=rfl
  have hfc:=fields_count u
  ((repeat(first|refine wKB ?_|refine awp_seq_k fun K hK=>?_|refine qpc rfl rfl rfl (g) ?_|refine qpo rfl rfl rfl rfl rfl rfl (fun _=>g) ?_|(refine wH ?_;clear hK)));refine wN fun b2=>?_;(repeat(first|refine wKB ?_|refine awp_seq_k fun K hK=>?_|refine wN fun bx=>?_|refine qpc rfl rfl rfl (g) ?_|refine qpo rfl rfl rfl rfl rfl rfl (fun _=>g) ?_|(refine wH ?_;clear hK))))
  refine areg_soft mixed tyok [4,8,12] [] [0,1,2,3,4,5,6,7,8,9,10,11,12,13,14,15] (by decide +kernel) ?_
  ((repeat(first|refine wDB ?_|refine awp_seq_k fun K hK=>?_|refine qpc rfl rfl rfl (g1) ?_|refine qpc rfl rfl rfl (g2) ?_|refine qpc rfl rfl rfl (g3) ?_|refine qpc rfl rfl rfl (g4) ?_|refine qpo rfl rfl rfl rfl rfl rfl (fun _=>g1) ?_|refine qpo rfl rfl rfl rfl rfl rfl (fun _=>g2) ?_|refine qpo rfl rfl rfl rfl rfl rfl (fun _=>g3) ?_|refine qpo rfl rfl rfl rfl rfl rfl (fun _=>g4) ?_|(refine wH ?_;clear hK)));refine wN fun b6=>?_;(repeat(first|refine wDB ?_|refine awp_seq_k fun K hK=>?_|refine wN fun bx=>?_|refine qpc rfl rfl rfl (g1) ?_|refine qpc rfl rfl rfl (g2) ?_|refine qpc rfl rfl rfl (g3) ?_|refine qpc rfl rfl rfl (g4) ?_|refine qpo rfl rfl rfl rfl rfl rfl (fun _=>g1) ?_|refine qpo rfl rfl rfl rfl rfl rfl (fun _=>g2) ?_|refine qpo rfl rfl rfl rfl rfl rfl (fun _=>g3) ?_|refine qpo rfl rfl rfl rfl rfl rfl (fun _=>g4) ?_|(refine wH ?_;clear hK))))
  refine awp_boxSub [] (v':=.agg [.str w,.int .i64 pv,.int .i64 nv,sl pairE 2 [] (.own none 0),sl eqE 1 ev .view,.str [],.nils]) (subAgg (.cons (Sub.refl _) (.cons (Sub.refl _) (.cons (Sub.refl _) (.cons (Sub.sl_nil pairE 2) (SubL.refl _)))))) ?_
  refine awp_tok0 2 55 ?_
  refine awp_loop0 (ι:={y:Nat×List (Int×Int)×List (Int×Int)×Option Addr×Nat//y.1≤(Lib.fields u).length∧allO pairF ((Lib.fields u).drop y.1)=some y.2.2.1∧y.2.1++y.2.2.1=uv})
   (fun y=>[(0,.str w),(2,.ptr b2 0),(4,sl txtE 1 [w0,p,n,u,e,bt] .view),(6,.ptr b6 0),(38,sl txtE 1 (Lib.fields u) .view),(39,.int .i64 (Lib.fields u).length),(40,.int .i64 y.1.1)])
   (fun y=>[.tok y.1.2.2.2.1 y.1.2.2.2.2 y.1.2.1.length 2 55,.box b6 33 (.agg [.str w,.int .i64 pv,.int .i64 nv,sl pairE 2 y.1.2.1 (.own y.1.2.2.2.1 y.1.2.2.2.2),sl eqE 1 ev .view,.str [],.nils]),.box b2 33 (.agg [.str [],.int .i64 0,.int .i64 0,.nils,.nils,.str [],.nils])])
   (fun y=>(Lib.fields u).length-y.1.1) ⟨(0,[],uv,none,0),Nat.zero_le _,hpr,rfl⟩ wk ⟨0,rfl⟩ ?_
  rintro⟨⟨k,acc,rest,a2,c2⟩,hk,hall,hacc⟩
  simp only at hk hall hacc ⊢
  have hul:=allO_len hpr
  have hal:acc.length+rest.length=uv.length:=by rw[←List.length_append,hacc]
  by_cases hlt:k<(Lib.fields u).length
  ·have hlt':(k:Int)<(Lib.fields u).length:=by omega
   have hgk:(Lib.fields u)[k]?=some ((Lib.fields u).getD k default):=by rw[List.getD_eq_getElem?_getD,List.getElem?_eq_getElem hlt];rfl
   obtain⟨pr,rest2,hpk,hall2,rfl⟩:=allO_drop hgk hall
   have hpl:=fieldsGo_len u [] _ (List.mem_of_getElem? hgk)
   simp only[List.length_nil,Nat.zero_add]at hpl
   unfold pairF at hpk
   cases hlt2:lettersF ((Lib.fields u).getD k default)with
   |false=>rw[hlt2]at hpk;cases hpk
   |true=>
   rw[hlt2]at hpk
   simp only at hpk
   have gp:=points_c ((Lib.fields u).getD k default) 0 hlt2 (by omega) (by decide) (by decide)
   split at hpk
   rotate_left
   ·cases hpk
   rename_i x y r hpts
   cases hpk
   rw[hpts]at gp
   have hxl:((x::y::r).length:Int)=r.length+2:=by simp;omega
   repeat(first|refine wDB ?_|refine awp_seq_k fun K hK=>?_|refine wN fun bx=>?_|refine qpc rfl rfl rfl (gp) ?_|refine qpo rfl rfl rfl rfl rfl rfl (fun _=>gp) ?_|(refine wH ?_;clear hK))
   refine qarr2 tyok ?_
   repeat(first|refine wDB ?_|refine awp_seq_k fun K hK=>?_|refine wN fun bx=>?_|(refine wH ?_;clear hK))
   refine qapp tyok pairE acc (x,y) (SubL.refl _) ?_ fun ad cp=>?_
   ·simp only
    simp only[List.length_cons]at hal
    omega
   repeat(first|refine wDB ?_|refine awp_seq_k fun K hK=>?_|refine wN fun bx=>?_|(refine wH ?_;clear hK))
   refine⟨⟨(k+1,acc++[(x,y)],rest2,ad,cp),hlt,hall2,by simpa using hacc⟩,wk,⟨0,rfl⟩,?_⟩
   simp only
   omega
  ·have hge:¬(k:Int)<(Lib.fields u).length:=by omega
   obtain rfl:k=(Lib.fields u).length:=by omega
   rw[List.drop_length]at hall
   simp only[allO,Option.some.injEq]at hall
   subst hall
   rw[List.append_nil]at hacc
   subst hacc
   unfold builtF at hbt
   cases hc:Lib.cut bt [32]with
   |mk cw q2=>
   obtain⟨cl,ok⟩:=q2
   rw[hc]at hbt g5 lc
   simp only at hbt g5 lc
   cases ok with
   |false=>
    simp only[Option.some.injEq,Prod.mk.injEq]at hbt
    obtain⟨rfl,rfl⟩:=hbt
    repeat(first|refine wDB ?_|refine awp_seq_k fun K hK=>?_|refine wN fun bx=>?_|refine qpc rfl rfl rfl (g5) ?_|refine qpo rfl rfl rfl rfl rfl rfl (fun _=>g5) ?_|(refine wH ?_;clear hK))
    refine fnQ_ret 3 rfl (.cell rfl rfl (List.Mem.tail _ (List.Mem.tail _ (List.Mem.head _))) rfl trivial (.tmp rfl .nil)) ?_ ⟨rfl,rfl⟩
    rw[hP]
    exact Sub.tuple2 (subAgg (.cons (Sub.refl _) (.cons (Sub.refl _) (.cons (Sub.refl _) (.cons (Sub.view _ _ _ _) (.cons (Sub.refl _) (.cons (Sub.refl _) (.cons (Sub.nilsv _ _) .nil)))))))) (Sub.refl _)
   |true=>
    simp only at hbt
    cases hll:lettersF cl with
    |false=>rw[hll]at hbt;cases hbt
    |true=>
    rw[hll]at hbt
    simp only[Option.some.injEq,Prod.mk.injEq]at hbt
    obtain⟨rfl,rfl⟩:=hbt
    have gp2:=points_c cl 1 hll (by omega) (by decide) (by decide)
    repeat(first|refine wDB ?_|refine awp_seq_k fun K hK=>?_|refine wN fun bx=>?_|refine qpc rfl rfl rfl (g5) ?_|refine qpc rfl rfl rfl (gp2) ?_|refine qpo rfl rfl rfl rfl rfl rfl (fun _=>g5) ?_|refine qpo rfl rfl rfl rfl rfl rfl (fun _=>gp2) ?_|(refine wH ?_;clear hK))
    refine fnQ_ret 3 rfl (.cell rfl rfl (List.Mem.tail _ (List.Mem.tail _ (List.Mem.head _))) rfl trivial (.tmp rfl .nil)) ?_ ⟨rfl,rfl⟩
    rw[hP]
    exact Sub.tuple2 (subAgg (.cons (Sub.refl _) (.cons (Sub.refl _) (.cons (Sub.refl _) (.cons (Sub.view _ _ _ _) (.cons (Sub.refl _) (.cons (Sub.refl _) (.cons (Sub.refl _) .nil)))))))) (Sub.refl _)
end Go.Proofs.YtcbdfmmiigpddaaDoor
namespace Go.Proofs.YtcbdfmmiigpddaaDoor
open Go.Ab
def footF:FigR:=⟨[102,111,111,116],3,0,[(1,2)],[[⟨1,0,[⟨3,2,0,2,3⟩]⟩],[⟨1,0,[⟨4,1,0,2,3⟩]⟩]],[117,110,108,105,107,101],[2,3]⟩
def collF:FigR:=⟨[99,111,108,108,105,110,101,97,114],3,0,[],[[⟨1,0,[⟨3,0,1,0,2⟩]⟩]],[],[]⟩
theorem foot_eq:conF [102,111,111,116]=some footF:=by decide +kernel
theorem coll_eq:preF [99,111,108,108,105,110,101,97,114]=some collF:=by decide +kernel
theorem cbKn21:Callable Tryd.prog 4:=fun _ _=>by kernel_rfl
set_option maxHeartbeats 3200000 in
set_option maxRecDepth 100000 in
theorem known21_c:PCalls Tryd.prog 4 [] (.bool true):=by
 refine pcalls_of_awp tyok cbKn21 Tryd.func4 rfl rfl ?_
 have g1:=construction_c [102,111,111,116]
 have g2:=predicate_c [99,111,108,108,105,110,101,97,114]
 rw[foot_eq]at g1
 rw[coll_eq]at g2
 simp only[figV]at g1 g2
 repeat(first|refine wD ?_|refine awp_seq_k fun K hK=>?_|refine wN fun bx=>?_|refine qpc rfl rfl rfl (g1) ?_|refine qpc rfl rfl rfl (g2) ?_|refine qpo rfl rfl rfl rfl rfl rfl (fun _=>g1) ?_|refine qpo rfl rfl rfl rfl rfl rfl (fun _=>g2) ?_|(refine wH ?_;clear hK))
 refine r1 ?_
 exact Sub.refl _
end Go.Proofs.YtcbdfmmiigpddaaDoor
