/-
  strings.SplitSeq at one byte: what it gives, as an iterator.
-/
import Derived.Test.YtcbdfmmiigpddaaDoorLb
import Derived.Test.YtcbdfmmiigpddaaDoorSpl
namespace Go.Proofs.YtcbdfmmiigpddaaDoor
open Go.Ab
def seqBoxes (bs bsep bsave:Nat) (s sep:List UInt8):AHeap:=[.box bsave 3 (.int .i64 0),.box bsep 9 (.str sep),.box bs 9 (.str s)]
theorem cbSq1:Callable Tryd.prog 40:=fun _ _=>by kernel_rfl
theorem splitSeq1_c (s:List UInt8) (c:UInt8) (bs bsep bsave:Nat) (hs:s.length≤1000000000):
  SeqC Tryd.prog 40 [] [.ptr bsep 0,.ptr bs 0,.ptr bsave 0] (seqBoxes bs bsep bsave s [c]) ((splitC c s).map fun p=>[.str p]) (fun He=>∃s',He=seqBoxes bs bsep bsave s' [c]):=by
 intro yf y1 y2 I Z Hs h0 hy
 refine acalls_of_awp tyok cbSq1 Tryd.func40 rfl rfl ?_
 repeat(first|refine wD ?_|refine awp_seq_k fun K hK=>?_|refine wN fun bx=>?_|(refine wH ?_;clear hK))
 refine awp_loop0 (ι:={x:Nat×List UInt8×AHeap//x.2.1.length≤s.length∧(splitC c s).drop x.1=splitC c x.2.1∧I x.1 x.2.2})
  (fun _=>[(0,.func yf y1 y2),(1,.ptr bsep 0),(2,.ptr bs 0),(3,.ptr bsave 0)]) (fun x=>seqBoxes bs bsep bsave x.1.2.1 [c]++x.1.2.2) (fun x=>x.1.2.1.length) ⟨(0,s,Hs),Nat.le_refl _,rfl,h0⟩ ?_ dp ?_
 ·exact wk
 rintro⟨⟨k,r,Hk⟩,hl,hd,hI⟩
 simp only at hl hd hI ⊢
 repeat(first|refine wD ?_|refine awp_seq_k fun K hK=>?_|refine wN fun bx=>?_|refine qpc rfl rfl rfl (index1_c _ _) ?_|refine qpo rfl rfl rfl rfl rfl rfl (fun _=>index1_c _ _) ?_|(refine wH ?_;clear hK))
 have hat:∀p ps,splitC c r=p::ps→((splitC c s).map fun p=>[AV.str p])[k]?=some [.str p]∧(splitC c s).drop (k+1)=ps:=by
  intro p ps h
  rw[h]at hd
  have h1:(splitC c s)[k]?=some p:=by
   have:=congrArg (fun l=>l[0]?) hd
   simpa using this
  refine⟨by simp[h1],?_⟩
  have:=congrArg (List.drop 1) hd
  simpa [Nat.add_comm]using this
 refine awp_cond rfl (fun hb=>?_) (fun hb=>?_)
 ·have hneg:Lib.indexByte r c<0:=by simpa using hb
  obtain⟨hx,hdn⟩:=hat _ _ (splitC_none c r hneg)
  have hlen:k+1=((splitC c s).map fun p=>[AV.str p]).length:=by
   have h1:=congrArg List.length hdn
   have h2:=(List.getElem?_eq_some_iff.1 hx).1
   simp at h1 h2 ⊢
   omega
  repeat(first|refine wD ?_|refine awp_seq_k fun K hK=>?_|refine wN fun bx=>?_|(refine wH ?_;clear hK))
  refine TR.ycall (seqBoxes bs bsep bsave r [c]) (hy k Hk [.str r] hx hI) rfl (fun v H' hK=>?_) (fun v H' hK=>?_)
  ·repeat(first|refine wD ?_|refine awp_seq_k fun K hK=>?_|refine wN fun bx=>?_|(refine wH ?_;clear hK))
   refine⟨0,[],.tuple [],.nil,Sub.refl _,rfl,_,H',rfl,⟨_,rfl⟩,?_⟩
   rw[←hlen]
   rcases hK with⟨_,h⟩|⟨_,h⟩
   ·exact .inl h
   ·exact .inr h
  ·rcases hK with⟨e,_⟩|⟨e,_⟩<;>cases e
 ·have hge:0≤Lib.indexByte r c:=by simpa using hb
  obtain⟨i,e1,e2,e3,e4⟩:=splitC_some c r hge
  obtain⟨hx,hdn⟩:=hat _ _ e4
  have hlen1:(([c]:List UInt8).length:Int)=1:=rfl
  repeat(first|refine wD ?_|refine awp_seq_k fun K hK=>?_|refine wN fun bx=>?_|(refine wH ?_;clear hK))
  have ei:(Lib.indexByte r c+0).toNat=i:=by rw[e1];simp
  refine TR.ycall (vs:=[.str (r.take (Lib.indexByte r c+0).toNat)]) (seqBoxes bs bsep bsave r [c]) (hy k Hk _ (by rw[ei];exact hx) hI) rfl (fun v H' hK=>?_) (fun v H' hK=>?_)
  ·rcases hK with⟨e,hI'⟩|⟨e,hZ⟩
   ·cases e
    repeat(first|refine wD ?_|refine awp_seq_k fun K hK=>?_|refine wN fun bx=>?_|(refine wH ?_;clear hK))
    have ej:(Lib.indexByte r c+(([c]:List UInt8).length:Int)).toNat=i+1:=by rw[e1];simp
    refine⟨⟨(k+1,r.drop (Lib.indexByte r c+(([c]:List UInt8).length:Int)).toNat,H'),?_,?_,hI'⟩,?_,dp,?_⟩
    ·simp only[List.length_drop];omega
    ·rw[ej];exact hdn
    ·exact wk
    ·simp only[List.length_drop];omega
   ·cases e
    repeat(first|refine wD ?_|refine awp_seq_k fun K hK=>?_|refine wN fun bx=>?_|(refine wH ?_;clear hK))
    exact⟨0,[],.tuple [],.nil,Sub.refl _,rfl,seqBoxes bs bsep bsave r [c],H',rfl,⟨_,rfl⟩,.inr hZ⟩
  ·rcases hK with⟨e,_⟩|⟨e,_⟩<;>cases e
theorem cbSq:Callable Tryd.prog 34:=fun _ _=>by kernel_rfl
theorem splitSeq_c (s sep:List UInt8):ACalls Tryd.prog 34 [.str s,.str sep,.int .i64 0] [] (fun r H=>∃bs bsep bsave,r=.ret (.func (.func 40) [] [.ptr bsep 0,.ptr bs 0,.ptr bsave 0])∧H=seqBoxes bs bsep bsave s sep):=by
 refine acalls_of_awp tyok cbSq Tryd.func34 rfl rfl ?_
 repeat(first|refine wD ?_|refine awp_seq_k fun K hK=>?_|refine wN fun bx=>?_|(refine wH ?_;clear hK))
 exact fnQ_ret 0 rfl (.tmp rfl .nil) (Sub.refl _) ⟨_,_,_,rfl,rfl⟩
theorem cbSqq:Callable Tryd.prog 25:=fun _ _=>by kernel_rfl
theorem SplitSeq_c (s sep:List UInt8):ACalls Tryd.prog 25 [.str s,.str sep] [] (fun r H=>∃bs bsep bsave,r=.ret (.func (.func 40) [] [.ptr bsep 0,.ptr bs 0,.ptr bsave 0])∧H=seqBoxes bs bsep bsave s sep):=by
 refine acalls_of_awp tyok cbSqq Tryd.func25 rfl rfl ?_
 repeat(first|refine wD ?_|refine awp_seq_k fun K hK=>?_|refine wN fun bx=>?_|(refine wH ?_;clear hK))
 refine TR.hcall rfl rfl rfl True.intro rfl rfl (List.Perm.refl _) (splitSeq_c _ _) (fun v H' hK=>?_) (fun v H' hK=>?_)
 ·obtain⟨bs,bsep,bsave,e,rfl⟩:=hK
  cases e
  repeat(first|refine wD ?_|refine awp_seq_k fun K hK=>?_|refine wN fun bx=>?_|(refine wH ?_;clear hK))
  exact fnQ_ret 0 rfl (.tmp rfl .nil) (Sub.refl _) ⟨_,_,_,rfl,rfl⟩
 ·obtain⟨bs,bsep,bsave,e,_⟩:=hK
  cases e
end Go.Proofs.YtcbdfmmiigpddaaDoor
