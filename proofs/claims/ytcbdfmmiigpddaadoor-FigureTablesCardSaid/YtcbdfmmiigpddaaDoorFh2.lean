/-
  The document's figures (porismref21): what is built in, a figure of a row, whether two are the same.
-/
import Derived.Test.YtcbdfmmiigpddaaDoorFh1
import Derived.Test.YtcbdfmmiigpddaaDoorUn
set_option maxRecDepth 100000
set_option maxHeartbeats 3200000
namespace Go.Proofs.YtcbdfmmiigpddaaDoor
open Go.Ab
def bltR:Bool→List UInt8→List UInt8×List Int
 |_,[]=>([],[])
 |lt,b::l=>if b=32 then bltR true l else if lt=true then((bltR true l).1,numG 1 b::(bltR true l).2) else(b::(bltR false l).1,(bltR false l).2)
theorem bltR_at {s:List UInt8} {k:Nat} (lt:Bool) (h:k<s.length):bltR lt (s.drop k)=if s.getD k 0=32 then bltR true (s.drop (k+1)) else if lt=true then((bltR true (s.drop (k+1))).1,numG 1 (s.getD k 0)::(bltR true (s.drop (k+1))).2) else(s.getD k 0::(bltR false (s.drop (k+1))).1,(bltR false (s.drop (k+1))).2):=by
 have e:s.getD k 0=s[k]:=by simp[List.getD,h]
 rw[List.drop_eq_getElem_cons h,e]
 rfl
theorem bltR_len:∀(lt:Bool) (s:List UInt8),(bltR lt s).1.length≤s.length∧(bltR lt s).2.length≤s.length
 |_,[]=>⟨Nat.le_refl _,Nat.le_refl _⟩
 |lt,b::l=>by
  have h1:=bltR_len true l
  have h2:=bltR_len false l
  unfold bltR
  split
  ·simp only[List.length_cons];omega
  split
  ·simp only[List.length_cons];omega
  ·simp only[List.length_cons];omega
structure BlS where
 k:Nat
 lt:Bool
 w:List UInt8
 ps:List Int
 a:Option Addr
 cap:Nat
theorem cbBlt21:Callable Tryd.prog 23:=fun _ _=>by kernel_rfl
theorem blt21_c (s:List UInt8) (hs:s.length≤1000000):PCalls Tryd.prog 23 [.str s] (.agg [.str (bltR false s).1,sl numE 1 (bltR false s).2 .view]):=by
 refine pcalls_of_awp tyok cbBlt21 Tryd.func23 rfl rfl ?_
 have hnum:=numG_c 1 (by decide) (by decide)
 have hlen:=bltR_len false s
 ((repeat(first|refine wD ?_|refine awp_seq_k fun K hK=>?_|(refine wH ?_;clear hK)));refine wN fun b2=>?_;(repeat(first|refine wD ?_|refine awp_seq_k fun K hK=>?_|(refine wH ?_;clear hK)));refine wN fun b3=>?_;(repeat(first|refine wD ?_|refine awp_seq_k fun K hK=>?_|refine wN fun bx=>?_|(refine wH ?_;clear hK))))
 refine awp_boxSub [] (v':=.agg [.str [],sl numE 1 [] (.own none 0)]) (subAgg (.cons (Sub.refl _) (.cons (Sub.sl_nil numE 1) .nil))) ?_
 refine awp_tok0 1 3 ?_
 refine awp_loopP (ι:={y:BlS//y.k≤s.length∧y.w++(bltR y.lt (s.drop y.k)).1=(bltR false s).1∧y.ps++(bltR y.lt (s.drop y.k)).2=(bltR false s).2})
  (fun y=>[(0,.str s),(2,.ptr b2 0),(3,.ptr b3 0),(4,.bool y.1.lt),(5,.int .i64 y.1.k)])
  (fun y=>[.tok y.1.a y.1.cap y.1.ps.length 1 3,.box b3 31 (.agg [.str y.1.w,sl numE 1 y.1.ps (.own y.1.a y.1.cap)]),.box b2 31 (.agg [.str [],.nils])]) (fun y=>s.length-y.1.k) ⟨⟨0,false,[],[],none,0⟩,Nat.zero_le _,rfl,rfl⟩ wk (by(repeat(first|exact pickNil|refine pickD (by(first|exact .here|exact .there (.here)|exact .there (.there (.here))|exact .there (.there (.there (.here)))|exact .there (.there (.there (.there (.here))))|exact .there (.there (.there (.there (.there (.here)))))|exact .there (.there (.there (.there (.there (.there (.here))))))|exact .there (.there (.there (.there (.there (.there (.there (.here)))))))|exact .there (.there (.there (.there (.there (.there (.there (.there (.here))))))))|exact .there (.there (.there (.there (.there (.there (.there (.there (.there (.here))))))))))) ?_))) ?_
 rintro⟨⟨k,lt,w,ps,a,cap⟩,hk,hw,hp⟩
 simp only at hk hw hp ⊢
 by_cases hlt:k<s.length
 rotate_left
 ·have hge:¬(k:Int)<s.length:=by omega
  have hd:s.drop k=[]:=List.drop_of_length_le (by omega)
  rw[hd]at hw hp
  simp only[bltR,List.append_nil]at hw hp
  subst hw
  subst hp
  repeat(first|refine wDB ?_|refine awp_seq_k fun K hK=>?_|refine wN fun bx=>?_|(refine wH ?_;clear hK))
  refine fnQ_ret 3 rfl (.cell rfl rfl (List.mem_of_getElem? (i:=2) rfl) rfl trivial .nil) (subAgg (.cons (Sub.refl _) (.cons (Sub.view _ _ _ _) .nil))) ⟨rfl,rfl⟩
 have hlt':(k:Int)<s.length:=by omega
 have hpl:ps.length≤s.length:=by
  have:=congrArg List.length hp
  rw[List.length_append]at this
  omega
 rw[bltR_at lt hlt]at hw hp
 have ne:∀c:UInt8,¬s.getD k 0=c→¬((s.getD ((k:Int)).toNat 0).toNat:Int)=(c.toNat:Int):=fun c h e=>h (UInt8.toNat_inj.1 (show(s.getD k 0).toNat=c.toNat by exact Int.ofNat_inj.1 e))
 have eq:∀c:UInt8,s.getD k 0=c→((s.getD ((k:Int)).toNat 0).toNat:Int)=(c.toNat:Int):=fun c h=>by
  show((s.getD k 0).toNat:Int)=_
  rw[h]
 by_cases h32:s.getD k 0=32
 ·have g32:((s.getD ((k:Int)).toNat 0).toNat:Int)=32:=eq 32 h32
  rw[if_pos h32]at hw hp
  repeat(first|refine wDB ?_|refine awp_seq_k fun K hK=>?_|refine wN fun bx=>?_|(refine wH ?_;clear hK))
  exact⟨⟨⟨k+1,true,w,ps,a,cap⟩,hlt,hw,hp⟩,wk,(by(repeat(first|exact pickNil|refine pickD (by(first|exact .here|exact .there (.here)|exact .there (.there (.here))|exact .there (.there (.there (.here)))|exact .there (.there (.there (.there (.here))))|exact .there (.there (.there (.there (.there (.here)))))|exact .there (.there (.there (.there (.there (.there (.here))))))|exact .there (.there (.there (.there (.there (.there (.there (.here)))))))|exact .there (.there (.there (.there (.there (.there (.there (.there (.here))))))))|exact .there (.there (.there (.there (.there (.there (.there (.there (.there (.here))))))))))) ?_))),by simp only;omega⟩
 have g32:¬((s.getD ((k:Int)).toNat 0).toNat:Int)=32:=ne 32 h32
 rw[if_neg h32]at hw hp
 cases lt with
 |true=>
  rw[if_pos rfl]at hw hp
  repeat(first|refine wKB ?_|refine awp_seq_k fun K hK=>?_|refine wN fun bx=>?_|(refine wH ?_;clear hK))
  refine areg_soft mixed tyok [5] [(5,[]),(6,[])] [0,1,2,3,4,5,6,7,8,9] (by decide +kernel) ?_
  repeat(first|refine wDB ?_|refine awp_seq_k fun K hK=>?_|refine wN fun bx=>?_|refine qpc rfl rfl rfl (hnum _) ?_|refine qpo rfl rfl rfl rfl rfl rfl (fun _=>hnum _) ?_|(refine wH ?_;clear hK))
  refine qapp tyok numE ps (numG 1 (s.getD k 0)) (SubL.refl _) ?_ fun ad cp=>?_
  ·simp only
   omega
  repeat(first|refine wDB ?_|refine awp_seq_k fun K hK=>?_|refine wN fun bx=>?_|(refine wH ?_;clear hK))
  exact⟨⟨⟨k+1,true,w,ps++[numG 1 (s.getD k 0)],ad,cp⟩,hlt,hw,by simpa using hp⟩,wk,(by(repeat(first|exact pickNil|refine pickD (by(first|exact .here|exact .there (.here)|exact .there (.there (.here))|exact .there (.there (.there (.here)))|exact .there (.there (.there (.there (.here))))|exact .there (.there (.there (.there (.there (.here)))))|exact .there (.there (.there (.there (.there (.there (.here))))))|exact .there (.there (.there (.there (.there (.there (.there (.here)))))))|exact .there (.there (.there (.there (.there (.there (.there (.there (.here))))))))|exact .there (.there (.there (.there (.there (.there (.there (.there (.there (.here))))))))))) ?_))),by simp only;omega⟩
 |false=>
  rw[if_neg (by decide)]at hw hp
  have hwl:w.length≤1000000:=by
   have:=congrArg List.length hw
   rw[List.length_append,List.length_cons]at this
   omega
  have e1:List.drop ((k:Int)).toNat (List.take ((k:Int)+1).toNat s)=[s.getD k 0]:=by
   have ek:((k:Int)+1).toNat=k+1:=by omega
   rw[ek,Int.toNat_natCast,List.take_succ_eq_append_getElem hlt,List.drop_left' (by simp;omega)]
   simp[List.getD,hlt]
  repeat(first|refine wDB ?_|refine awp_seq_k fun K hK=>?_|refine wN fun bx=>?_|(refine wH ?_;clear hK))
  rw[e1]
  refine TR.pure _ _ _ rfl rfl rfl rfl True.intro ?_ ?_
  ·simp
   omega
  repeat(first|refine wDB ?_|refine awp_seq_k fun K hK=>?_|refine wN fun bx=>?_|(refine wH ?_;clear hK))
  exact⟨⟨⟨k+1,false,w++[s.getD k 0],ps,a,cap⟩,hlt,by simpa using hw,hp⟩,wk,(by(repeat(first|exact pickNil|refine pickD (by(first|exact .here|exact .there (.here)|exact .there (.there (.here))|exact .there (.there (.there (.here)))|exact .there (.there (.there (.there (.here))))|exact .there (.there (.there (.there (.there (.here)))))|exact .there (.there (.there (.there (.there (.there (.here))))))|exact .there (.there (.there (.there (.there (.there (.there (.here)))))))|exact .there (.there (.there (.there (.there (.there (.there (.there (.here))))))))|exact .there (.there (.there (.there (.there (.there (.there (.there (.there (.here))))))))))) ?_))),by simp only;omega⟩
def figQ (r:RowR) (base:Int):Option FigR:=match eqsQ r.eqs base with
 |none=>none
 |some e=>some ⟨r.word,r.pts,r.nums,unlR r.unl,e,(bltR false r.blt).1,(bltR false r.blt).2⟩
theorem cbFig21:Callable Tryd.prog 11:=fun _ _=>by kernel_rfl
theorem fig21_c (r:RowR) (base:Int) (f:FigR) (h0:0≤base) (h1:base≤1) (hf:figQ r base=some f) (l1:r.eqs.length≤1000) (l2:r.unl.length≤1000) (l3:r.blt.length≤1000):PCalls Tryd.prog 11 [.agg (rowE r),.int .i64 base] (.agg (figE f)):=by
 refine pcalls_of_awp tyok cbFig21 Tryd.func11 rfl rfl ?_
 unfold figQ at hf
 cases he:eqsQ r.eqs base with
 |none=>rw[he]at hf;cases hf
 |some e=>
 rw[he]at hf
 cases hf
 have g1:=unl22_c r.unl (by omega)
 have g2:=eqsG_c r.eqs base h0 h1 e l1 he
 have g3:=blt21_c r.blt (by omega)
 ((repeat(first|refine wDB ?_|refine awp_seq_k fun K hK=>?_|(refine wH ?_;clear hK)));refine wN fun b2=>?_;(repeat(first|refine wDB ?_|refine awp_seq_k fun K hK=>?_|(refine wH ?_;clear hK)));refine wN fun b4=>?_)
 (((repeat(first|refine wT ?_|refine wN fun bx=>?_)));(try refine wP ?_);repeat(refine wH ?_;clear hK))
 refine awp_freeze [_] (s:=2) rfl rfl ?_
 repeat(first|refine wKB ?_|refine awp_seq_k fun K hK=>?_|refine wN fun bx=>?_|(refine wH ?_;clear hK))
 refine areg_soft mixed tyok [8,12,15] [] [0,1,2,3,4,5,6,7,8,9,10,11,12,13,14,15,16,17] (by decide +kernel) ?_
 repeat(first|refine wDB ?_|refine awp_seq_k fun K hK=>?_|refine wN fun bx=>?_|refine qpc rfl rfl rfl (g1) ?_|refine qpc rfl rfl rfl (g2) ?_|refine qpc rfl rfl rfl (g3) ?_|refine qpo rfl rfl rfl rfl rfl rfl (fun _=>g1) ?_|refine qpo rfl rfl rfl rfl rfl rfl (fun _=>g2) ?_|refine qpo rfl rfl rfl rfl rfl rfl (fun _=>g3) ?_|(refine wH ?_;clear hK))
 exact fnQ_ret 1 rfl (.cell rfl rfl (List.mem_of_getElem? (i:=0) rfl) rfl trivial .nil) (Sub.refl _) ⟨rfl,rfl⟩
end Go.Proofs.YtcbdfmmiigpddaaDoor
