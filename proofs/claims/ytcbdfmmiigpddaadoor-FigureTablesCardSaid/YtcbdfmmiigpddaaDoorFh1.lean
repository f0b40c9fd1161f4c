/-
  The equations that the document reads out of a row (porismref21.Equations), told exactly.
-/
import Derived.Test.YtcbdfmmiigpddaaDoorTc
import Derived.Test.YtcbdfmmiigpddaaDoorAb31
set_option maxRecDepth 100000
set_option maxHeartbeats 6400000
namespace Go.Proofs.YtcbdfmmiigpddaaDoor
open Go.Ab
def numG (base:Int) (c:UInt8):Int:=if c=80 then 0 else(c.toNat:Int)-65+base
def kndG (c:UInt8):Int×Int:=if c=120 then(1,2) else if c=121 then(2,2) else if c=99 then(3,6) else(4,4)
theorem cbNumG:Callable Tryd.prog 32:=fun _ _=>by kernel_rfl
theorem numG_c (base:Int) (hb0:0≤base) (hb1:base≤1) (c:UInt8):PCalls Tryd.prog 32 [.int .u8 c.toNat,.int .i64 base] (.int .i64 (numG base c)):=by
 refine pcalls_of_awp tyok cbNumG Tryd.func32 rfl rfl ?_
 have hc:c.toNat<256:=c.toNat_lt
 unfold numG
 by_cases h:c=80
 ·subst h
  repeat(first|refine wDB ?_|refine awp_seq_k fun K hK=>?_|refine wN fun bx=>?_|(refine wH ?_;clear hK))
  refine r1 ?_
  exact Sub.refl _
 ·have h':¬(c.toNat:Int)=80:=fun e=>h (UInt8.toNat_inj.1 (by simpa using (by omega:c.toNat=80)))
  have e2:IntKind.i64.wrap (c.toNat:Int)=c.toNat:=wrap_inK (by simp only[inK];omega)
  rw[if_neg h]
  repeat(first|refine wDB ?_|refine awp_seq_k fun K hK=>?_|refine wN fun bx=>?_|(refine wH ?_;clear hK))
  rw[e2]
  repeat(first|refine wDB ?_|refine awp_seq_k fun K hK=>?_|refine wN fun bx=>?_|(refine wH ?_;clear hK))
  refine r1 ?_
  exact Sub.refl _
theorem cbKndG:Callable Tryd.prog 33:=fun _ _=>by kernel_rfl
theorem kindG_c (s:List UInt8) (k:Nat) (hs:s.length≤1000) (hk:k<s.length):PCalls Tryd.prog 33 [.str s,.int .i64 k] (.tuple [.int .u8 (kndG (s.getD k 0)).1,.int .i64 (k+(kndG (s.getD k 0)).2)]):=by
 refine pcalls_of_awp tyok cbKndG Tryd.func33 rfl rfl ?_
 have hk':(k:Int)<s.length:=by omega
 unfold kndG
 have ne:∀c:UInt8,¬s.getD k 0=c→¬((s.getD ((k:Int)).toNat 0).toNat:Int)=(c.toNat:Int):=fun c h e=>h (UInt8.toNat_inj.1 (show(s.getD k 0).toNat=c.toNat by exact Int.ofNat_inj.1 e))
 have eq:∀c:UInt8,s.getD k 0=c→((s.getD ((k:Int)).toNat 0).toNat:Int)=(c.toNat:Int):=fun c h=>by
  show((s.getD k 0).toNat:Int)=_
  rw[h]
 by_cases h1:s.getD k 0=120
 ·have e1:((s.getD ((k:Int)).toNat 0).toNat:Int)=120:=eq 120 h1
  rw[if_pos h1]
  repeat(first|refine wDB ?_|refine awp_seq_k fun K hK=>?_|refine wN fun bx=>?_|(refine wH ?_;clear hK))
  refine r2 ?_ ?_
  all_goals exact Sub.refl _
 have f1:¬((s.getD ((k:Int)).toNat 0).toNat:Int)=120:=ne 120 h1
 by_cases h2:s.getD k 0=121
 ·have e2:((s.getD ((k:Int)).toNat 0).toNat:Int)=121:=eq 121 h2
  rw[if_neg h1,if_pos h2]
  repeat(first|refine wDB ?_|refine awp_seq_k fun K hK=>?_|refine wN fun bx=>?_|(refine wH ?_;clear hK))
  refine r2 ?_ ?_
  all_goals exact Sub.refl _
 have f2:¬((s.getD ((k:Int)).toNat 0).toNat:Int)=121:=ne 121 h2
 by_cases h3:s.getD k 0=99
 ·have e3:((s.getD ((k:Int)).toNat 0).toNat:Int)=99:=eq 99 h3
  rw[if_neg h1,if_neg h2,if_pos h3]
  repeat(first|refine wDB ?_|refine awp_seq_k fun K hK=>?_|refine wN fun bx=>?_|(refine wH ?_;clear hK))
  refine r2 ?_ ?_
  all_goals exact Sub.refl _
 have f3:¬((s.getD ((k:Int)).toNat 0).toNat:Int)=99:=ne 99 h3
 rw[if_neg h1,if_neg h2,if_neg h3]
 repeat(first|refine wDB ?_|refine awp_seq_k fun K hK=>?_|refine wN fun bx=>?_|(refine wH ?_;clear hK))
 refine r2 ?_ ?_
 all_goals exact Sub.refl _
structure EqQ where
 k:Nat
 outs:List (List PieceR)
 sum:List PieceR
 fs:List FormR
 N:Int
 By:Int
def sumQ (y:EqQ):List PieceR:=if y.fs=[] then y.sum else y.sum++[⟨y.N,y.By,y.fs⟩]
def nextQ (s:List UInt8) (base:Int) (y:EqQ):Option EqQ:=
 if y.k=s.length then some ⟨y.k+1,y.outs++[sumQ y],[],[],1,0⟩
 else if s.getD y.k 0=59 then some ⟨y.k+1,y.outs++[sumQ y],[],[],1,0⟩
 else if s.getD y.k 0=43 then some ⟨y.k+1,y.outs,sumQ y,[],1,0⟩
 else if s.getD y.k 0=45 then some ⟨y.k+1,y.outs,sumQ y,[],-1,0⟩
 else if s.getD y.k 0=32 then some ⟨y.k+1,y.outs,y.sum,y.fs,y.N,y.By⟩
 else if s.getD y.k 0=42 then some ⟨y.k+1,y.outs,y.sum,y.fs,y.N,y.By⟩
 else if s.getD y.k 0=50 then some ⟨y.k+1,y.outs,y.sum,y.fs,2*y.N,y.By⟩
 else if s.getD y.k 0=109 then some ⟨y.k+1,y.outs,y.sum,y.fs,y.N,1⟩
 else if s.getD y.k 0=110 then some ⟨y.k+1,y.outs,y.sum,y.fs,y.N,2⟩
 else if 2<(kndG (s.getD y.k 0)).1 then(if y.k+(kndG (s.getD y.k 0)).2.toNat+4<s.length then
  some ⟨y.k+(kndG (s.getD y.k 0)).2.toNat+6,y.outs,y.sum,y.fs++[⟨(kndG (s.getD y.k 0)).1,numG base (s.getD (y.k+(kndG (s.getD y.k 0)).2.toNat) 0),numG base (s.getD (y.k+(kndG (s.getD y.k 0)).2.toNat+1) 0),numG base (s.getD (y.k+(kndG (s.getD y.k 0)).2.toNat+3) 0),numG base (s.getD (y.k+(kndG (s.getD y.k 0)).2.toNat+4) 0)⟩],y.N,y.By⟩ else none)
 else(if y.k+(kndG (s.getD y.k 0)).2.toNat+1<s.length then
  some ⟨y.k+(kndG (s.getD y.k 0)).2.toNat+3,y.outs,y.sum,y.fs++[⟨(kndG (s.getD y.k 0)).1,numG base (s.getD (y.k+(kndG (s.getD y.k 0)).2.toNat) 0),numG base (s.getD (y.k+(kndG (s.getD y.k 0)).2.toNat+1) 0),0,0⟩],y.N,y.By⟩ else none)
def runQ (s:List UInt8) (base:Int):Nat→EqQ→Option (List (List PieceR))
 |0,_=>none
 |n+1,y=>if s.length<y.k then some y.outs else match nextQ s base y with
  |none=>none
  |some y'=>runQ s base n y'
def eqsQ (s:List UInt8) (base:Int):Option (List (List PieceR)):=runQ s base 60 ⟨0,[],[],[],1,0⟩
structure EqT where
 n:Nat
 q:EqQ
 a1:Option Addr
 c1:Nat
 a2:Option Addr
 c2:Nat
 a3:Option Addr
 c3:Nat
 fv:AV
def eqtT (s:List UInt8) (base:Int) (b:Nat) (y:EqT):Tmps:=[(0,.str s),(1,.int .i64 base),(5,sl eqE 1 y.q.outs (.own y.a1 y.c1)),(6,sl pieceE 3 y.q.sum (.own y.a2 y.c2)),(7,.ptr b 0),(8,.int .i64 y.q.k)]
def eqtH (b:Nat) (y:EqT):AHeap:=[.box b 44 (.agg [.int .i64 y.q.N,.int .i64 y.q.By,y.fv]),.tok y.a3 y.c3 y.q.fs.length 5 41,.tok y.a2 y.c2 y.q.sum.length 3 44,.tok y.a1 y.c1 y.q.outs.length 1 45]
structure EqJ (s:List UInt8) (base:Int) (r:List (List PieceR)) (y:EqT):Prop where
 run:runQ s base y.n y.q=some r
 n60:y.n≤60
 m60:y.q.sum.length+y.n≤60
 f60:y.q.fs.length+y.n≤60
 j60:y.q.outs.length+y.n≤60
 lo: -1152921504606846976≤y.q.N*2^y.n
 hi:y.q.N*2^y.n≤1152921504606846976
 k1:y.q.k≤s.length+1
 fs:Sub y.fv (sl formE 5 y.q.fs (.own y.a3 y.c3))
theorem pow_posJ (n:Nat):(1:Int)≤2^n:=by
 induction n with
 |zero=>decide
 |succ n ih=>rw[Int.pow_succ];omega
theorem EqJ.bound {s:List UInt8} {base:Int} {r:List (List PieceR)} {y:EqT} (h:EqJ s base r y): -1152921504606846976≤y.q.N∧y.q.N≤1152921504606846976:=by
 have h1:=pow_posJ y.n
 have h2:=h.lo
 have h3:=h.hi
 generalize (2:Int)^y.n=P at h1 h2 h3
 constructor
 ·rcases Int.lt_or_le y.q.N 0 with x|x
  ·have:y.q.N*P≤y.q.N*1:=Int.mul_le_mul_of_nonpos_left (by omega) h1
   omega
  ·omega
 ·rcases Int.lt_or_le y.q.N 0 with x|x
  ·omega
  ·have:y.q.N*1≤y.q.N*P:=Int.mul_le_mul_of_nonneg_left h1 x
   omega
theorem two60J (n:Nat) (h:n≤60):(2:Int)^n≤1152921504606846976:=by
 have:(2:Nat)^n≤2^60:=Nat.pow_le_pow_right (by decide) h
 have h2:((2^n:Nat):Int)≤((2^60:Nat):Int):=by omega
 rw[Int.natCast_pow]at h2
 exact h2
theorem EqJ.step {s:List UInt8} {base:Int} {r:List (List PieceR)} {y:EqT} (h:EqJ s base r y) (hk:y.q.k≤s.length):∃n q',y.n=n+1∧nextQ s base y.q=some q'∧runQ s base n q'=some r:=by
 have h1:=h.run
 cases hn:y.n with
 |zero=>rw[hn]at h1;cases h1
 |succ n=>
  rw[hn]at h1
  rw[runQ,if_neg (by omega)]at h1
  cases hx:nextQ s base y.q with
  |none=>rw[hx]at h1;cases h1
  |some q'=>
   rw[hx]at h1
   exact⟨n,q',rfl,rfl,h1⟩
theorem EqJ.mk' {s:List UInt8} {base:Int} {r:List (List PieceR)} {n:Nat} {y:EqT} {q':EqQ} (h:EqJ s base r y) (hn:y.n=n+1) {a1:Option Addr} {c1:Nat} {a2:Option Addr} {c2:Nat} {a3:Option Addr} {c3:Nat} {fv:AV}
  (hc:runQ s base n q'=some r) (hj:q'.outs.length≤y.q.outs.length+1) (hm:q'.sum.length≤y.q.sum.length+1) (hf:q'.fs.length≤y.q.fs.length+1) (hN:q'.N=y.q.N∨q'.N=2*y.q.N∨q'.N=1∨q'.N= -1) (hk:q'.k≤s.length+1)
  (hs:Sub fv (sl formE 5 q'.fs (.own a3 c3))):EqJ s base r ⟨n,q',a1,c1,a2,c2,a3,c3,fv⟩:=by
 have h1:=h.lo
 have h2:=h.hi
 have h60:=h.n60
 have t60:=two60J n (by omega)
 have p1:=pow_posJ n
 rw[hn,Int.pow_succ]at h1 h2
 refine⟨hc,by simp only;omega,?_,?_,?_,?_,?_,hk,hs⟩
 ·have:=h.m60;simp only;omega
 ·have:=h.f60;simp only;omega
 ·have:=h.j60;simp only;omega
 all_goals
  simp only
  generalize (2:Int)^n=P at*
  have e:y.q.N*(P*2)=2*(y.q.N*P):=by rw[←Int.mul_assoc,Int.mul_comm]
  rw[e]at h1 h2
  rcases hN with e'|e'|e'|e'
  ·rw[e'];omega
  ·rw[e',Int.mul_assoc];omega
  ·rw[e'];omega
  ·rw[e'];omega
theorem cbEqsG:Callable Tryd.prog 22:=fun _ _=>by kernel_rfl
theorem eqsG_c (s:List UInt8) (base:Int) (hb0:0≤base) (hb1:base≤1) (r:List (List PieceR)) (hs:s.length≤1000) (hc:eqsQ s base=some r):PCalls Tryd.prog 22 [.str s,.int .i64 base] (sl eqE 1 r .view):=by
 refine pcalls_of_awp tyok cbEqsG Tryd.func22 rfl rfl ?_
 have hnum:=numG_c base hb0 hb1
 ((repeat(first|refine wD ?_|refine awp_seq_k fun K hK=>?_|(refine wH ?_;clear hK)));refine wN fun b7=>?_;(repeat(first|refine wD ?_|refine awp_seq_k fun K hK=>?_|refine wN fun bx=>?_|(refine wH ?_;clear hK))))
 refine awp_tok0 5 41 ?_
 refine awp_tok0 3 44 ?_
 refine awp_tok0 1 45 ?_
 refine awp_loopP (ι:={y:EqT//EqJ s base r y}) (fun y=>eqtT s base b7 y.1) (fun y=>eqtH b7 y.1) (fun y=>y.1.n) ⟨⟨60,⟨0,[],[],[],1,0⟩,none,0,none,0,none,0,.nils⟩,⟨hc,Nat.le_refl _,Nat.le_refl _,Nat.le_refl _,Nat.le_refl _,by decide,by decide,Nat.zero_le _,Sub.sl_nil formE 5⟩⟩ (by unfold eqtT;(repeat(first|exact True.intro|refine⟨⟨_,rfl,Sub.refl _⟩,?_⟩|refine⟨⟨_,rfl,Sub.nilso _ _⟩,?_⟩|refine⟨⟨_,rfl,sl_tail _ _ _ _ _⟩,?_⟩|refine⟨⟨_,rfl,Sub.of_eq (by first|rfl|(congr 1;first|omega|(simp only;omega))|(simp;done)|(simp;omega))⟩,?_⟩|refine⟨⟨_,rfl,Sub.view _ _ _ _⟩,?_⟩))) (by unfold eqtH;(repeat(first|exact pickNil|refine pickD (by(first|exact .here|exact .there (.here)|exact .there (.there (.here))|exact .there (.there (.there (.here)))|exact .there (.there (.there (.there (.here))))|exact .there (.there (.there (.there (.there (.here)))))|exact .there (.there (.there (.there (.there (.there (.here))))))|exact .there (.there (.there (.there (.there (.there (.there (.here)))))))|exact .there (.there (.there (.there (.there (.there (.there (.there (.here))))))))|exact .there (.there (.there (.there (.there (.there (.there (.there (.there (.here))))))))))) ?_))) ?_
 rintro⟨y,hy⟩
 have hb:=hy.bound
 have hk1:=hy.k1
 simp only
 by_cases hle:y.q.k≤s.length
 rotate_left
 ·have hgt:¬(y.q.k:Int)≤s.length:=by omega
  have hjc:y.q.outs=r:=by
   have h1:=hy.run
   cases hn:y.n with
   |zero=>rw[hn]at h1;cases h1
   |succ n=>
    rw[hn,runQ,if_pos (by omega)]at h1
    exact Option.some.inj h1
  subst hjc
  unfold eqtT eqtH
  repeat(first|refine wDB ?_|refine awp_seq_k fun K hK=>?_|refine wN fun bx=>?_|(refine wH ?_;clear hK))
  refine r1 ?_
  exact Sub.view _ _ _ _
 have hle':(y.q.k:Int)≤s.length:=by omega
 obtain⟨n,q',hn,hnx,hcn⟩:=hy.step hle
 have m60:=hy.m60
 have f60:=hy.f60
 have j60:=hy.j60
 have fs0:=hy.fs
 have hmk:=fun {a1 c1 a2 c2 a3 c3 fv}=>EqJ.mk' (s:=s) (base:=base) (r:=r) (n:=n) (y:=y) (q':=q') hy hn (a1:=a1) (c1:=c1) (a2:=a2) (c2:=c2) (a3:=a3) (c3:=c3) (fv:=fv) hcn
 obtain⟨y1,⟨k,outs,sum,fs,N,By⟩,a1,c1,a2,c2,a3,c3,fv⟩:=y
 simp only at*
 subst hn
 unfold eqtT eqtH
 dsimp only
 refine awp_boxSub [] (v':=.agg [.int .i64 N,.int .i64 By,sl formE 5 fs (.own a3 c3)]) (subAgg (.cons (Sub.refl _) (.cons (Sub.refl _) (.cons fs0 .nil)))) ?_
 refine awp_tok0 5 41 ?_
 refine awp_tok0 3 44 ?_
 have elP:SubL [AV.int .i64 N,.int .i64 By,sl formE 5 fs (.own a3 c3)] (pieceE ⟨N,By,fs⟩):=.cons (Sub.refl _) (.cons (Sub.refl _) (.cons (Sub.view _ _ _ _) .nil))
 have hf2:¬fs=[]→(fs.length:Int)>0:=fun h=>by
  have:=List.length_pos_iff.2 h
  omega
 have hf3:fs=[]→¬(fs.length:Int)>0:=fun h=>by
  rw[h]
  exact fun h=>absurd h (by decide)
 have q1:¬fs=[]→sumQ ⟨k,outs,sum,fs,N,By⟩=sum++[⟨N,By,fs⟩]:=fun h=>if_neg h
 have q0:fs=[]→sumQ ⟨k,outs,sum,fs,N,By⟩=sum:=fun h=>if_pos h
 have ne:∀c:UInt8,¬s.getD k 0=c→¬((s.getD ((k:Int)).toNat 0).toNat:Int)=(c.toNat:Int):=fun c h e=>h (UInt8.toNat_inj.1 (show(s.getD k 0).toNat=c.toNat by exact Int.ofNat_inj.1 e))
 have eq:∀c:UInt8,s.getD k 0=c→((s.getD ((k:Int)).toNat 0).toNat:Int)=(c.toNat:Int):=fun c h=>by
  show((s.getD k 0).toNat:Int)=_
  rw[h]
 unfold nextQ at hnx
 simp only at hnx
 by_cases he:k=s.length
 ·rw[if_pos he]at hnx
  have he':(k:Int)=s.length:=by omega
  by_cases hf:fs=[]
  ·have hf':=hf3 hf
   rw[q0 hf]at hnx
   cases hnx
   repeat(first|refine wDB ?_|refine awp_seq_k fun K hK=>?_|refine wN fun bx=>?_|(refine wH ?_;clear hK))
   refine qapp tyok eqE outs sum (.cons (Sub.view _ _ _ _) .nil) ?_ fun ad2 cp2=>?_
   ·simp only
    omega
   repeat(first|refine wDB ?_|refine awp_seq_k fun K hK=>?_|refine wN fun bx=>?_|(refine wH ?_;clear hK))
   exact⟨⟨⟨n,_,ad2,cp2,none,0,none,0,.nils⟩,hmk (by simp) (by simp) (by simp) (.inr (.inr (.inl rfl))) (by simp only;omega) (Sub.sl_nil formE 5)⟩,wk,(by(repeat(first|exact pickNil|refine pickD (by(first|exact .here|exact .there (.here)|exact .there (.there (.here))|exact .there (.there (.there (.here)))|exact .there (.there (.there (.there (.here))))|exact .there (.there (.there (.there (.there (.here)))))|exact .there (.there (.there (.there (.there (.there (.here))))))|exact .there (.there (.there (.there (.there (.there (.there (.here)))))))|exact .there (.there (.there (.there (.there (.there (.there (.there (.here))))))))|exact .there (.there (.there (.there (.there (.there (.there (.there (.there (.here))))))))))) ?_))),Nat.lt_succ_self _⟩
  ·have hf':=hf2 hf
   rw[q1 hf]at hnx
   cases hnx
   repeat(first|refine wDB ?_|refine awp_seq_k fun K hK=>?_|refine wN fun bx=>?_|(refine wH ?_;clear hK))
   refine qapp tyok pieceE sum ⟨N,By,fs⟩ elP ?_ fun ad cp=>?_
   ·simp only
    omega
   repeat(first|refine wDB ?_|refine awp_seq_k fun K hK=>?_|refine wN fun bx=>?_|(refine wH ?_;clear hK))
   refine qapp tyok eqE outs (sum++[⟨N,By,fs⟩]) (.cons (Sub.view _ _ _ _) .nil) ?_ fun ad2 cp2=>?_
   ·simp only
    omega
   repeat(first|refine wDB ?_|refine awp_seq_k fun K hK=>?_|refine wN fun bx=>?_|(refine wH ?_;clear hK))
   exact⟨⟨⟨n,_,ad2,cp2,none,0,none,0,.nils⟩,hmk (by simp) (by simp) (by simp) (.inr (.inr (.inl rfl))) (by simp only;omega) (Sub.sl_nil formE 5)⟩,wk,(by(repeat(first|exact pickNil|refine pickD (by(first|exact .here|exact .there (.here)|exact .there (.there (.here))|exact .there (.there (.there (.here)))|exact .there (.there (.there (.there (.here))))|exact .there (.there (.there (.there (.there (.here)))))|exact .there (.there (.there (.there (.there (.there (.here))))))|exact .there (.there (.there (.there (.there (.there (.there (.here)))))))|exact .there (.there (.there (.there (.there (.there (.there (.there (.here))))))))|exact .there (.there (.there (.there (.there (.there (.there (.there (.there (.here))))))))))) ?_))),Nat.lt_succ_self _⟩
 have hlt:k<s.length:=by omega
 have hlt':(k:Int)<s.length:=by omega
 have he':¬(k:Int)=s.length:=by omega
 rw[if_neg he]at hnx
 by_cases h59:s.getD k 0=59
 ·have g59:((s.getD ((k:Int)).toNat 0).toNat:Int)=59:=eq 59 h59
  rw[if_pos h59]at hnx
  by_cases hf:fs=[]
  ·have hf':=hf3 hf
   rw[q0 hf]at hnx
   cases hnx
   repeat(first|refine wDB ?_|refine awp_seq_k fun K hK=>?_|refine wN fun bx=>?_|(refine wH ?_;clear hK))
   refine qapp tyok eqE outs sum (.cons (Sub.view _ _ _ _) .nil) ?_ fun ad2 cp2=>?_
   ·simp only
    omega
   repeat(first|refine wDB ?_|refine awp_seq_k fun K hK=>?_|refine wN fun bx=>?_|(refine wH ?_;clear hK))
   exact⟨⟨⟨n,_,ad2,cp2,none,0,none,0,.nils⟩,hmk (by simp) (by simp) (by simp) (.inr (.inr (.inl rfl))) (by simp only;omega) (Sub.sl_nil formE 5)⟩,wk,(by(repeat(first|exact pickNil|refine pickD (by(first|exact .here|exact .there (.here)|exact .there (.there (.here))|exact .there (.there (.there (.here)))|exact .there (.there (.there (.there (.here))))|exact .there (.there (.there (.there (.there (.here)))))|exact .there (.there (.there (.there (.there (.there (.here))))))|exact .there (.there (.there (.there (.there (.there (.there (.here)))))))|exact .there (.there (.there (.there (.there (.there (.there (.there (.here))))))))|exact .there (.there (.there (.there (.there (.there (.there (.there (.there (.here))))))))))) ?_))),Nat.lt_succ_self _⟩
  ·have hf':=hf2 hf
   rw[q1 hf]at hnx
   cases hnx
   repeat(first|refine wDB ?_|refine awp_seq_k fun K hK=>?_|refine wN fun bx=>?_|(refine wH ?_;clear hK))
   refine qapp tyok pieceE sum ⟨N,By,fs⟩ elP ?_ fun ad cp=>?_
   ·simp only
    omega
   repeat(first|refine wDB ?_|refine awp_seq_k fun K hK=>?_|refine wN fun bx=>?_|(refine wH ?_;clear hK))
   refine qapp tyok eqE outs (sum++[⟨N,By,fs⟩]) (.cons (Sub.view _ _ _ _) .nil) ?_ fun ad2 cp2=>?_
   ·simp only
    omega
   repeat(first|refine wDB ?_|refine awp_seq_k fun K hK=>?_|refine wN fun bx=>?_|(refine wH ?_;clear hK))
   exact⟨⟨⟨n,_,ad2,cp2,none,0,none,0,.nils⟩,hmk (by simp) (by simp) (by simp) (.inr (.inr (.inl rfl))) (by simp only;omega) (Sub.sl_nil formE 5)⟩,wk,(by(repeat(first|exact pickNil|refine pickD (by(first|exact .here|exact .there (.here)|exact .there (.there (.here))|exact .there (.there (.there (.here)))|exact .there (.there (.there (.there (.here))))|exact .there (.there (.there (.there (.there (.here)))))|exact .there (.there (.there (.there (.there (.there (.here))))))|exact .there (.there (.there (.there (.there (.there (.there (.here)))))))|exact .there (.there (.there (.there (.there (.there (.there (.there (.here))))))))|exact .there (.there (.there (.there (.there (.there (.there (.there (.there (.here))))))))))) ?_))),Nat.lt_succ_self _⟩
 have g59:¬((s.getD ((k:Int)).toNat 0).toNat:Int)=59:=ne 59 h59
 rw[if_neg h59]at hnx
 by_cases h43:s.getD k 0=43
 ·have g43:((s.getD ((k:Int)).toNat 0).toNat:Int)=43:=eq 43 h43
  rw[if_pos h43]at hnx
  by_cases hf:fs=[]
  ·have hf':=hf3 hf
   rw[q0 hf]at hnx
   cases hnx
   repeat(first|refine wDB ?_|refine awp_seq_k fun K hK=>?_|refine wN fun bx=>?_|(refine wH ?_;clear hK))
   exact⟨⟨⟨n,_,a1,c1,a2,c2,none,0,.nils⟩,hmk (by simp) (by simp) (by simp) (.inr (.inr (.inl rfl))) (by simp only;omega) (Sub.sl_nil formE 5)⟩,wk,(by(repeat(first|exact pickNil|refine pickD (by(first|exact .here|exact .there (.here)|exact .there (.there (.here))|exact .there (.there (.there (.here)))|exact .there (.there (.there (.there (.here))))|exact .there (.there (.there (.there (.there (.here)))))|exact .there (.there (.there (.there (.there (.there (.here))))))|exact .there (.there (.there (.there (.there (.there (.there (.here)))))))|exact .there (.there (.there (.there (.there (.there (.there (.there (.here))))))))|exact .there (.there (.there (.there (.there (.there (.there (.there (.there (.here))))))))))) ?_))),Nat.lt_succ_self _⟩
  ·have hf':=hf2 hf
   rw[q1 hf]at hnx
   cases hnx
   repeat(first|refine wDB ?_|refine awp_seq_k fun K hK=>?_|refine wN fun bx=>?_|(refine wH ?_;clear hK))
   refine qapp tyok pieceE sum ⟨N,By,fs⟩ elP ?_ fun ad cp=>?_
   ·simp only
    omega
   repeat(first|refine wDB ?_|refine awp_seq_k fun K hK=>?_|refine wN fun bx=>?_|(refine wH ?_;clear hK))
   exact⟨⟨⟨n,_,a1,c1,ad,cp,none,0,.nils⟩,hmk (by simp) (by simp) (by simp) (.inr (.inr (.inl rfl))) (by simp only;omega) (Sub.sl_nil formE 5)⟩,wk,(by(repeat(first|exact pickNil|refine pickD (by(first|exact .here|exact .there (.here)|exact .there (.there (.here))|exact .there (.there (.there (.here)))|exact .there (.there (.there (.there (.here))))|exact .there (.there (.there (.there (.there (.here)))))|exact .there (.there (.there (.there (.there (.there (.here))))))|exact .there (.there (.there (.there (.there (.there (.there (.here)))))))|exact .there (.there (.there (.there (.there (.there (.there (.there (.here))))))))|exact .there (.there (.there (.there (.there (.there (.there (.there (.there (.here))))))))))) ?_))),Nat.lt_succ_self _⟩
 have g43:¬((s.getD ((k:Int)).toNat 0).toNat:Int)=43:=ne 43 h43
 rw[if_neg h43]at hnx
 by_cases h45:s.getD k 0=45
 ·have g45:((s.getD ((k:Int)).toNat 0).toNat:Int)=45:=eq 45 h45
  rw[if_pos h45]at hnx
  by_cases hf:fs=[]
  ·have hf':=hf3 hf
   rw[q0 hf]at hnx
   cases hnx
   repeat(first|refine wDB ?_|refine awp_seq_k fun K hK=>?_|refine wN fun bx=>?_|(refine wH ?_;clear hK))
   exact⟨⟨⟨n,_,a1,c1,a2,c2,none,0,.nils⟩,hmk (by simp) (by simp) (by simp) (.inr (.inr (.inr rfl))) (by simp only;omega) (Sub.sl_nil formE 5)⟩,wk,(by(repeat(first|exact pickNil|refine pickD (by(first|exact .here|exact .there (.here)|exact .there (.there (.here))|exact .there (.there (.there (.here)))|exact .there (.there (.there (.there (.here))))|exact .there (.there (.there (.there (.there (.here)))))|exact .there (.there (.there (.there (.there (.there (.here))))))|exact .there (.there (.there (.there (.there (.there (.there (.here)))))))|exact .there (.there (.there (.there (.there (.there (.there (.there (.here))))))))|exact .there (.there (.there (.there (.there (.there (.there (.there (.there (.here))))))))))) ?_))),Nat.lt_succ_self _⟩
  ·have hf':=hf2 hf
   rw[q1 hf]at hnx
   cases hnx
   repeat(first|refine wDB ?_|refine awp_seq_k fun K hK=>?_|refine wN fun bx=>?_|(refine wH ?_;clear hK))
   refine qapp tyok pieceE sum ⟨N,By,fs⟩ elP ?_ fun ad cp=>?_
   ·simp only
    omega
   repeat(first|refine wDB ?_|refine awp_seq_k fun K hK=>?_|refine wN fun bx=>?_|(refine wH ?_;clear hK))
   exact⟨⟨⟨n,_,a1,c1,ad,cp,none,0,.nils⟩,hmk (by simp) (by simp) (by simp) (.inr (.inr (.inr rfl))) (by simp only;omega) (Sub.sl_nil formE 5)⟩,wk,(by(repeat(first|exact pickNil|refine pickD (by(first|exact .here|exact .there (.here)|exact .there (.there (.here))|exact .there (.there (.there (.here)))|exact .there (.there (.there (.there (.here))))|exact .there (.there (.there (.there (.there (.here)))))|exact .there (.there (.there (.there (.there (.there (.here))))))|exact .there (.there (.there (.there (.there (.there (.there (.here)))))))|exact .there (.there (.there (.there (.there (.there (.there (.there (.here))))))))|exact .there (.there (.there (.there (.there (.there (.there (.there (.there (.here))))))))))) ?_))),Nat.lt_succ_self _⟩
 have g45:¬((s.getD ((k:Int)).toNat 0).toNat:Int)=45:=ne 45 h45
 rw[if_neg h45]at hnx
 by_cases h32:s.getD k 0=32
 ·have g32:((s.getD ((k:Int)).toNat 0).toNat:Int)=32:=eq 32 h32
  rw[if_pos h32]at hnx
  cases hnx
  repeat(first|refine wDB ?_|refine awp_seq_k fun K hK=>?_|refine wN fun bx=>?_|(refine wH ?_;clear hK))
  exact⟨⟨⟨n,_,a1,c1,a2,c2,a3,c3,sl formE 5 fs (.own a3 c3)⟩,hmk (by simp) (by simp) (by simp) (.inl rfl) (by simp only;omega) (Sub.refl _)⟩,wk,(by(repeat(first|exact pickNil|refine pickD (by(first|exact .here|exact .there (.here)|exact .there (.there (.here))|exact .there (.there (.there (.here)))|exact .there (.there (.there (.there (.here))))|exact .there (.there (.there (.there (.there (.here)))))|exact .there (.there (.there (.there (.there (.there (.here))))))|exact .there (.there (.there (.there (.there (.there (.there (.here)))))))|exact .there (.there (.there (.there (.there (.there (.there (.there (.here))))))))|exact .there (.there (.there (.there (.there (.there (.there (.there (.there (.here))))))))))) ?_))),Nat.lt_succ_self _⟩
 have g32:¬((s.getD ((k:Int)).toNat 0).toNat:Int)=32:=ne 32 h32
 rw[if_neg h32]at hnx
 by_cases h42:s.getD k 0=42
 ·have g42:((s.getD ((k:Int)).toNat 0).toNat:Int)=42:=eq 42 h42
  rw[if_pos h42]at hnx
  cases hnx
  repeat(first|refine wDB ?_|refine awp_seq_k fun K hK=>?_|refine wN fun bx=>?_|(refine wH ?_;clear hK))
  exact⟨⟨⟨n,_,a1,c1,a2,c2,a3,c3,sl formE 5 fs (.own a3 c3)⟩,hmk (by simp) (by simp) (by simp) (.inl rfl) (by simp only;omega) (Sub.refl _)⟩,wk,(by(repeat(first|exact pickNil|refine pickD (by(first|exact .here|exact .there (.here)|exact .there (.there (.here))|exact .there (.there (.there (.here)))|exact .there (.there (.there (.there (.here))))|exact .there (.there (.there (.there (.there (.here)))))|exact .there (.there (.there (.there (.there (.there (.here))))))|exact .there (.there (.there (.there (.there (.there (.there (.here)))))))|exact .there (.there (.there (.there (.there (.there (.there (.there (.here))))))))|exact .there (.there (.there (.there (.there (.there (.there (.there (.there (.here))))))))))) ?_))),Nat.lt_succ_self _⟩
 have g42:¬((s.getD ((k:Int)).toNat 0).toNat:Int)=42:=ne 42 h42
 rw[if_neg h42]at hnx
 by_cases h50:s.getD k 0=50
 ·have g50:((s.getD ((k:Int)).toNat 0).toNat:Int)=50:=eq 50 h50
  rw[if_pos h50]at hnx
  cases hnx
  repeat(first|refine wDB ?_|refine awp_seq_k fun K hK=>?_|refine wN fun bx=>?_|(refine wH ?_;clear hK))
  exact⟨⟨⟨n,_,a1,c1,a2,c2,a3,c3,sl formE 5 fs (.own a3 c3)⟩,hmk (by simp) (by simp) (by simp) (.inr (.inl rfl)) (by simp only;omega) (Sub.refl _)⟩,wk,(by(repeat(first|exact pickNil|refine pickD (by(first|exact .here|exact .there (.here)|exact .there (.there (.here))|exact .there (.there (.there (.here)))|exact .there (.there (.there (.there (.here))))|exact .there (.there (.there (.there (.there (.here)))))|exact .there (.there (.there (.there (.there (.there (.here))))))|exact .there (.there (.there (.there (.there (.there (.there (.here)))))))|exact .there (.there (.there (.there (.there (.there (.there (.there (.here))))))))|exact .there (.there (.there (.there (.there (.there (.there (.there (.there (.here))))))))))) ?_))),Nat.lt_succ_self _⟩
 have g50:¬((s.getD ((k:Int)).toNat 0).toNat:Int)=50:=ne 50 h50
 rw[if_neg h50]at hnx
 by_cases h109:s.getD k 0=109
 ·have g109:((s.getD ((k:Int)).toNat 0).toNat:Int)=109:=eq 109 h109
  rw[if_pos h109]at hnx
  cases hnx
  repeat(first|refine wDB ?_|refine awp_seq_k fun K hK=>?_|refine wN fun bx=>?_|(refine wH ?_;clear hK))
  exact⟨⟨⟨n,_,a1,c1,a2,c2,a3,c3,sl formE 5 fs (.own a3 c3)⟩,hmk (by simp) (by simp) (by simp) (.inl rfl) (by simp only;omega) (Sub.refl _)⟩,wk,(by(repeat(first|exact pickNil|refine pickD (by(first|exact .here|exact .there (.here)|exact .there (.there (.here))|exact .there (.there (.there (.here)))|exact .there (.there (.there (.there (.here))))|exact .there (.there (.there (.there (.there (.here)))))|exact .there (.there (.there (.there (.there (.there (.here))))))|exact .there (.there (.there (.there (.there (.there (.there (.here)))))))|exact .there (.there (.there (.there (.there (.there (.there (.there (.here))))))))|exact .there (.there (.there (.there (.there (.there (.there (.there (.there (.here))))))))))) ?_))),Nat.lt_succ_self _⟩
 have g109:¬((s.getD ((k:Int)).toNat 0).toNat:Int)=109:=ne 109 h109
 rw[if_neg h109]at hnx
 by_cases h110:s.getD k 0=110
 ·have g110:((s.getD ((k:Int)).toNat 0).toNat:Int)=110:=eq 110 h110
  rw[if_pos h110]at hnx
  cases hnx
  repeat(first|refine wDB ?_|refine awp_seq_k fun K hK=>?_|refine wN fun bx=>?_|(refine wH ?_;clear hK))
  exact⟨⟨⟨n,_,a1,c1,a2,c2,a3,c3,sl formE 5 fs (.own a3 c3)⟩,hmk (by simp) (by simp) (by simp) (.inl rfl) (by simp only;omega) (Sub.refl _)⟩,wk,(by(repeat(first|exact pickNil|refine pickD (by(first|exact .here|exact .there (.here)|exact .there (.there (.here))|exact .there (.there (.there (.here)))|exact .there (.there (.there (.there (.here))))|exact .there (.there (.there (.there (.there (.here)))))|exact .there (.there (.there (.there (.there (.there (.here))))))|exact .there (.there (.there (.there (.there (.there (.there (.here)))))))|exact .there (.there (.there (.there (.there (.there (.there (.there (.here))))))))|exact .there (.there (.there (.there (.there (.there (.there (.there (.there (.here))))))))))) ?_))),Nat.lt_succ_self _⟩
 have g110:¬((s.getD ((k:Int)).toNat 0).toNat:Int)=110:=ne 110 h110
 rw[if_neg h110]at hnx
 have hg:=kindG_c s k hs hlt
 have hq:∃(q:Int) (o:Nat),kndG (s.getD k 0)=(q,(o:Int))∧2≤o∧o≤6:=by
  unfold kndG
  split
  ·exact⟨1,2,rfl,by omega,by omega⟩
  split
  ·exact⟨2,2,rfl,by omega,by omega⟩
  split
  ·exact⟨3,6,rfl,by omega,by omega⟩
  ·exact⟨4,4,rfl,by omega,by omega⟩
 obtain⟨q,o,hqo,o1,o2⟩:=hq
 rw[hqo]at hg hnx
 simp only[Int.toNat_natCast]at hg hnx
 have z0:((k:Int)+(o:Int)).toNat=k+o:=by omega
 have z1:((k:Int)+(o:Int)+1).toNat=k+o+1:=by omega
 have z3:((k:Int)+(o:Int)+3).toNat=k+o+3:=by omega
 have z4:((k:Int)+(o:Int)+4).toNat=k+o+4:=by omega
 by_cases h2:2<q
 ·rw[if_pos h2]at hnx
  have h2':q>2:=h2
  by_cases hi:k+o+4<s.length
  rotate_left
  ·rw[if_neg hi]at hnx
   cases hnx
  rw[if_pos hi]at hnx
  cases hnx
  repeat(first|refine wKB ?_|refine awp_seq_k fun K hK=>?_|refine wN fun bx=>?_|refine qpc rfl rfl rfl (hg) ?_|refine qpo rfl rfl rfl rfl rfl rfl (fun _=>hg) ?_|(refine wH ?_;clear hK))
  refine areg_soft mixed tyok [5,11] [] [0,1,2,3,4,5,6,7,8,9,10,11,12,13,14] (by decide +kernel) ?_
  ((repeat(first|refine wDB ?_|refine awp_seq_k fun K hK=>?_|refine qpc rfl rfl rfl (hnum _) ?_|refine qpo rfl rfl rfl rfl rfl rfl (fun _=>hnum _) ?_|(refine wH ?_;clear hK)));refine wN fun b12=>?_)
  (((repeat(first|refine wT ?_|refine wN fun bx=>?_)));(try refine wP ?_);repeat(refine wH ?_;clear hK))
  refine awp_boxSub [] (v':=.agg [.int .u8 q,.int .i64 (numG base (s.getD ((k:Int)+(o:Int)).toNat 0)),.int .i64 (numG base (s.getD ((k:Int)+(o:Int)+1).toNat 0)),.int .i64 0,.int .i64 0]) (Sub.of_eq rfl) ?_
  repeat(first|refine wKB ?_|refine awp_seq_k fun K hK=>?_|refine wN fun bx=>?_|(refine wH ?_;clear hK))
  refine areg_soft mixed tyok [5,11] [] [0,1,2,3,4,5,6,7,8,9,10,11,12,13,14,15] (by decide +kernel) ?_
  repeat(first|refine wDB ?_|refine awp_seq_k fun K hK=>?_|refine wN fun bx=>?_|refine qpc rfl rfl rfl (hnum _) ?_|refine qpo rfl rfl rfl rfl rfl rfl (fun _=>hnum _) ?_|(refine wH ?_;clear hK))
  refine qapp tyok formE fs ⟨q,numG base (s.getD (k+o) 0),numG base (s.getD (k+o+1) 0),numG base (s.getD (k+o+3) 0),numG base (s.getD (k+o+4) 0)⟩ ?_ ?_ fun ad cp=>?_
  ·rw[z1,z3,z4,z0]
   exact SubL.refl _
  ·simp only
   omega
  repeat(first|refine wDB ?_|refine awp_seq_k fun K hK=>?_|refine wN fun bx=>?_|(refine wH ?_;clear hK))
  exact⟨⟨⟨n,_,a1,c1,a2,c2,ad,cp,sl formE 5 (fs++[_]) (.own ad cp)⟩,hmk (by simp) (by simp) (by simp) (.inl rfl) (by simp only;omega) (Sub.refl _)⟩,wk,(by(repeat(first|exact pickNil|refine pickD (by(first|exact .here|exact .there (.here)|exact .there (.there (.here))|exact .there (.there (.there (.here)))|exact .there (.there (.there (.there (.here))))|exact .there (.there (.there (.there (.there (.here)))))|exact .there (.there (.there (.there (.there (.there (.here))))))|exact .there (.there (.there (.there (.there (.there (.there (.here)))))))|exact .there (.there (.there (.there (.there (.there (.there (.there (.here))))))))|exact .there (.there (.there (.there (.there (.there (.there (.there (.there (.here))))))))))) ?_))),Nat.lt_succ_self _⟩
 ·rw[if_neg h2]at hnx
  have h2':¬q>2:=h2
  by_cases hi:k+o+1<s.length
  rotate_left
  ·rw[if_neg hi]at hnx
   cases hnx
  rw[if_pos hi]at hnx
  cases hnx
  repeat(first|refine wKB ?_|refine awp_seq_k fun K hK=>?_|refine wN fun bx=>?_|refine qpc rfl rfl rfl (hg) ?_|refine qpo rfl rfl rfl rfl rfl rfl (fun _=>hg) ?_|(refine wH ?_;clear hK))
  refine areg_soft mixed tyok [5,11] [] [0,1,2,3,4,5,6,7,8,9,10,11,12,13,14] (by decide +kernel) ?_
  ((repeat(first|refine wDB ?_|refine awp_seq_k fun K hK=>?_|refine qpc rfl rfl rfl (hnum _) ?_|refine qpo rfl rfl rfl rfl rfl rfl (fun _=>hnum _) ?_|(refine wH ?_;clear hK)));refine wN fun b12=>?_)
  (((repeat(first|refine wT ?_|refine wN fun bx=>?_)));(try refine wP ?_);repeat(refine wH ?_;clear hK))
  refine awp_boxSub [] (v':=.agg [.int .u8 q,.int .i64 (numG base (s.getD ((k:Int)+(o:Int)).toNat 0)),.int .i64 (numG base (s.getD ((k:Int)+(o:Int)+1).toNat 0)),.int .i64 0,.int .i64 0]) (Sub.of_eq rfl) ?_
  repeat(first|refine wDB ?_|refine awp_seq_k fun K hK=>?_|refine wN fun bx=>?_|(refine wH ?_;clear hK))
  refine qapp tyok formE fs ⟨q,numG base (s.getD (k+o) 0),numG base (s.getD (k+o+1) 0),0,0⟩ ?_ ?_ fun ad cp=>?_
  ·rw[z1,z0]
   exact SubL.refl _
  ·simp only
   omega
  repeat(first|refine wDB ?_|refine awp_seq_k fun K hK=>?_|refine wN fun bx=>?_|(refine wH ?_;clear hK))
  exact⟨⟨⟨n,_,a1,c1,a2,c2,ad,cp,sl formE 5 (fs++[_]) (.own ad cp)⟩,hmk (by simp) (by simp) (by simp) (.inl rfl) (by simp only;omega) (Sub.refl _)⟩,wk,(by(repeat(first|exact pickNil|refine pickD (by(first|exact .here|exact .there (.here)|exact .there (.there (.here))|exact .there (.there (.there (.here)))|exact .there (.there (.there (.there (.here))))|exact .there (.there (.there (.there (.there (.here)))))|exact .there (.there (.there (.there (.there (.there (.here))))))|exact .there (.there (.there (.there (.there (.there (.there (.here)))))))|exact .there (.there (.there (.there (.there (.there (.there (.there (.here))))))))|exact .there (.there (.there (.there (.there (.there (.there (.there (.there (.here))))))))))) ?_))),Nat.lt_succ_self _⟩
end Go.Proofs.YtcbdfmmiigpddaaDoor
