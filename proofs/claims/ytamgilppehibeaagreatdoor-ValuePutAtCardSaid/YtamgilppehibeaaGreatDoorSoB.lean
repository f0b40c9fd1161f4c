/-
  The stable sort of the library at terms: ranges change places; insertion.
-/
import Derived.Test.YtamgilppehibeaaGreatDoorAbE
import Derived.Test.YtamgilppehibeaaGreatDoorTy
import Derived.Test.YtamgilppehibeaaGreatDoorSoA
set_option maxRecDepth 100000
set_option maxHeartbeats 51200000
namespace Go.Proofs.YtamgilppehibeaaGreatDoor
open Go.Ab
structure Enc3 {α:Type} (f:α→List AV):Prop where
 len:∀x,(f x).length=3
 one:∀x,(f x).all AV.one=true
noncomputable abbrev rowT {α:Type} (f:α→List AV) (g cap:Nat) (xs:List α):Ent:=rowS g 70 f 3 cap xs
def CmpC {α:Type} (f:α→List AV) (F:FuncId) (c:α→α→Int):Prop:=∀x y,PCalls Tryz.prog F [.agg (f x),.agg (f y)] (.int .i64 (c x y))
theorem cbSwr:Callable Tryz.prog 230:=fun _ _=>by kernel_rfl
theorem swapRange_c {α:Type} [Inhabited α] {f:α→List AV} (hf:Enc3 f) (g cap:Nat) (xs:List α) (a b n:Nat) (cmp:AV) (hc:xs.length≤cap) (h1:a+n≤b) (h2:b+n≤xs.length) (hl:xs.length≤1000000000000):
  ACalls Tryz.prog 230 [.mslice g 0 xs.length cap,.int .i64 a,.int .i64 b,.int .i64 n,cmp] [rowT f g cap xs] (fun r H'=>r=.ret (.tuple [])∧H'=[rowT f g cap (swapN xs a b n)]):=by
 refine acalls_of_awp tyok cbSwr Tryz.func230 rfl rfl ?_
 repeat(first|refine wD ?_|refine awp_seq_k fun K hK=>?_|refine wN fun bx=>?_|(refine wH ?_;clear hK))
 refine awp_loop0 (ι:={i:Nat//i≤n}) (fun i=>[(0,.mslice g 0 xs.length cap),(1,.int .i64 a),(2,.int .i64 b),(3,.int .i64 n),(10,.int .i64 i.1)]) (fun i=>[rowT f g cap (swapN xs a b i.1)]) (fun i=>n-i.1) ⟨0,Nat.zero_le _⟩ wk ⟨0,rfl⟩ ?_
 rintro⟨i,hi⟩
 simp only at hi ⊢
 by_cases hlt:i<n
 ·have hlt':(i:Int)<n:=by omega
  have hsl:=swapN_len xs a b i
  have ea:((a:Int)+i).toNat=a+i:=by omega
  have eb:((b:Int)+i).toNat=b+i:=by omega
  generalize hys:swapN xs a b i=ys at hsl ⊢
  repeat(first|refine wDB ?_|refine awp_seq_k fun K hK=>?_|refine wN fun bx=>?_|(refine wH ?_;clear hK))
  refine qiaM tyok ?_
  repeat(first|refine wDB ?_|refine awp_seq_k fun K hK=>?_|refine wN fun bx=>?_|(refine wH ?_;clear hK))
  refine qldS (cap:=cap) (sz:=3) f ys (b+i) ?_ ?_ (by omega) (by omega) (hf.len _)
  ·rw[eb];exact Nat.zero_add _
  repeat(first|refine wDB ?_|refine awp_seq_k fun K hK=>?_|refine wN fun bx=>?_|(refine wH ?_;clear hK))
  refine qiaM tyok ?_
  repeat(first|refine wDB ?_|refine awp_seq_k fun K hK=>?_|refine wN fun bx=>?_|(refine wH ?_;clear hK))
  refine qldS (cap:=cap) (sz:=3) f ys (a+i) ?_ ?_ (by omega) (by omega) (hf.len _)
  ·rw[ea];exact Nat.zero_add _
  repeat(first|refine wDB ?_|refine awp_seq_k fun K hK=>?_|refine wN fun bx=>?_|(refine wH ?_;clear hK))
  refine qiaM tyok ?_
  repeat(first|refine wDB ?_|refine awp_seq_k fun K hK=>?_|refine wN fun bx=>?_|(refine wH ?_;clear hK))
  refine qstS (cap:=cap) (sz:=3) tyok f ys (a+i) (ys.getD (b+i) default) ?_ ?_ (by omega) (by omega) (hf.len _) (by decide) (hf.one _)
  ·rw[ea];exact Nat.zero_add _
  repeat(first|refine wDB ?_|refine awp_seq_k fun K hK=>?_|refine wN fun bx=>?_|(refine wH ?_;clear hK))
  refine qiaM tyok ?_
  repeat(first|refine wDB ?_|refine awp_seq_k fun K hK=>?_|refine wN fun bx=>?_|(refine wH ?_;clear hK))
  refine qstS (cap:=cap) (sz:=3) tyok f (ys.set (a+i) (ys.getD (b+i) default)) (b+i) (ys.getD (a+i) default) ?_ ?_ (by rw[List.length_set];omega) (by rw[List.length_set];omega) (hf.len _) (by decide) (hf.one _)
  ·rw[eb];exact Nat.zero_add _
  repeat(first|refine wDB ?_|refine awp_seq_k fun K hK=>?_|refine wN fun bx=>?_|(refine wH ?_;clear hK))
  subst hys
  exact⟨⟨i+1,hlt⟩,wk,⟨0,rfl⟩,by simp only;omega⟩
 ·have hge:¬(i:Int)<n:=by omega
  obtain rfl:i=n:=by omega
  repeat(first|refine wDB ?_|refine awp_seq_k fun K hK=>?_|refine wN fun bx=>?_|(refine wH ?_;clear hK))
  exact fnQ_ret 0 rfl .nil (Sub.refl _) ⟨rfl,rfl⟩
theorem cbIns:Callable Tryz.prog 191:=fun _ _=>by kernel_rfl
theorem insertion_c {α:Type} [Inhabited α] {f:α→List AV} (hf:Enc3 f) {F:FuncId} {c:α→α→Int} (hF:CmpC f F c) (sw:SW fun x y=>decide (c x y<0)) (g cap:Nat) (xs:List α) (a b:Nat) (hc:xs.length≤cap) (h1:a≤b) (h2:b≤xs.length) (hl:xs.length≤1000000000000):
  ACalls Tryz.prog 191 [.mslice g 0 xs.length cap,.int .i64 a,.int .i64 b,.func (.func F) [] []] [rowT f g cap xs]
   (fun r H'=>r=.ret (.tuple [])∧∃ys:{ys:List α//Same xs ys a b∧Srt (fun x y=>decide (c x y<0)) ys a b},H'=[rowT f g cap ys.1]):=by
 refine acalls_of_awp tyok cbIns Tryz.func191 rfl rfl ?_
 repeat(first|refine wDB ?_|refine awp_seq_k fun K hK=>?_|refine wN fun bx=>?_|(refine wH ?_;clear hK))
 refine awp_loop0 (ι:={y:Nat×List α//a+1≤y.1∧(y.1≤b∨y.1=a+1)∧Same xs y.2 a b∧Srt (fun x y=>decide (c x y<0)) y.2 a y.1})
  (fun y=>[(0,.mslice g 0 xs.length cap),(1,.int .i64 a),(2,.int .i64 b),(3,.func (.func F) [] []),(8,.int .i64 y.1.1)]) (fun y=>[rowT f g cap y.1.2]) (fun y=>b+1-y.1.1)
  ⟨(a+1,xs),Nat.le_refl _,.inr rfl,Same.refl _ _ _,fun i j q1 q2 q3=>by omega⟩ ⟨⟨_,rfl,Sub.refl _⟩,⟨_,rfl,Sub.refl _⟩,⟨_,rfl,Sub.refl _⟩,⟨_,rfl,Sub.refl _⟩,⟨_,rfl,Sub.of_eq rfl⟩,True.intro⟩ ⟨0,rfl⟩ ?_
 rintro⟨⟨i,ys⟩,hi1,hi2,hsm,hsr⟩
 simp only at hi1 hi2 hsm hsr ⊢
 by_cases hlt:i<b
 ·have hlt':(i:Int)<b:=by omega
  have hyl:=hsm.len
  repeat(first|refine wDB ?_|refine awp_seq_k fun K hK=>?_|refine wN fun bx=>?_|(refine wH ?_;clear hK))
  refine awp_loop0 (ι:={z:Nat×List α//a≤z.1∧z.1≤i∧Same xs z.2 a b∧Hole (fun x y=>decide (c x y<0)) z.2 a i z.1})
   (fun z=>[(0,.mslice g 0 xs.length cap),(1,.int .i64 a),(2,.int .i64 b),(3,.func (.func F) [] []),(8,.int .i64 i),(9,.int .i64 z.1.1)]) (fun z=>[rowT f g cap z.1.2]) (fun z=>z.1.1)
   ⟨(i,ys),by omega,Nat.le_refl _,hsm,hole_start hsr⟩ wk ⟨0,rfl⟩ ?_
  rintro⟨⟨j,zs⟩,hj1,hj2,hsz,hh⟩
  simp only at hj1 hj2 hsz hh ⊢
  have hzl:=hsz.len
  by_cases hja:j=a
  ·have hno:¬(j:Int)>a:=by omega
   repeat(first|refine wDB ?_|refine awp_seq_k fun K hK=>?_|refine wN fun bx=>?_|(refine wH ?_;clear hK))
   exact⟨⟨(i+1,zs),by omega,.inl (by omega),hsz,hole_done sw hh hj2 (.inl hja)⟩,wk,⟨0,rfl⟩,by simp only;omega⟩
  have hgt:(j:Int)>a:=by omega
  have ej:((j:Int)).toNat=j:=rfl
  have ej1:((j:Int)-1).toNat=j-1:=by omega
  have gc:PCalls Tryz.prog F ([]++[.agg (f (zs.getD j default)),.agg (f (zs.getD (j-1) default))]++[]) (.int .i64 (c (zs.getD j default) (zs.getD (j-1) default))):=hF _ _
  repeat(first|refine wDB ?_|refine awp_seq_k fun K hK=>?_|refine wN fun bx=>?_|(refine wH ?_;clear hK))
  refine qiaM tyok ?_
  repeat(first|refine wDB ?_|refine awp_seq_k fun K hK=>?_|refine wN fun bx=>?_|(refine wH ?_;clear hK))
  refine qldS (cap:=cap) (sz:=3) f zs j ?_ ?_ (by omega) (by omega) (hf.len _)
  ·exact Nat.zero_add _
  repeat(first|refine wDB ?_|refine awp_seq_k fun K hK=>?_|refine wN fun bx=>?_|(refine wH ?_;clear hK))
  refine qiaM tyok ?_
  repeat(first|refine wDB ?_|refine awp_seq_k fun K hK=>?_|refine wN fun bx=>?_|(refine wH ?_;clear hK))
  refine qldS (cap:=cap) (sz:=3) f zs (j-1) ?_ ?_ (by omega) (by omega) (hf.len _)
  ·rw[ej1];exact Nat.zero_add _
  by_cases hcmp:c (zs.getD j default) (zs.getD (j-1) default)<0
  ·repeat(first|refine wDB ?_|refine awp_seq_k fun K hK=>?_|refine wN fun bx=>?_|refine wC gc ?_|(refine wH ?_;clear hK))
   refine qiaM tyok ?_
   repeat(first|refine wDB ?_|refine awp_seq_k fun K hK=>?_|refine wN fun bx=>?_|(refine wH ?_;clear hK))
   refine qldS (cap:=cap) (sz:=3) f zs (j-1) ?_ ?_ (by omega) (by omega) (hf.len _)
   ·rw[ej1];exact Nat.zero_add _
   repeat(first|refine wDB ?_|refine awp_seq_k fun K hK=>?_|refine wN fun bx=>?_|(refine wH ?_;clear hK))
   refine qiaM tyok ?_
   repeat(first|refine wDB ?_|refine awp_seq_k fun K hK=>?_|refine wN fun bx=>?_|(refine wH ?_;clear hK))
   refine qldS (cap:=cap) (sz:=3) f zs j ?_ ?_ (by omega) (by omega) (hf.len _)
   ·exact Nat.zero_add _
   repeat(first|refine wDB ?_|refine awp_seq_k fun K hK=>?_|refine wN fun bx=>?_|(refine wH ?_;clear hK))
   refine qiaM tyok ?_
   repeat(first|refine wDB ?_|refine awp_seq_k fun K hK=>?_|refine wN fun bx=>?_|(refine wH ?_;clear hK))
   refine qstS (cap:=cap) (sz:=3) tyok f zs j (zs.getD (j-1) default) ?_ ?_ (by omega) (by omega) (hf.len _) (by decide) (hf.one _)
   ·exact Nat.zero_add _
   repeat(first|refine wDB ?_|refine awp_seq_k fun K hK=>?_|refine wN fun bx=>?_|(refine wH ?_;clear hK))
   refine qiaM tyok ?_
   repeat(first|refine wDB ?_|refine awp_seq_k fun K hK=>?_|refine wN fun bx=>?_|(refine wH ?_;clear hK))
   refine qstS (cap:=cap) (sz:=3) tyok f (zs.set j (zs.getD (j-1) default)) (j-1) (zs.getD j default) ?_ ?_ (by rw[List.length_set];omega) (by rw[List.length_set];omega) (hf.len _) (by decide) (hf.one _)
   ·rw[ej1];exact Nat.zero_add _
   repeat(first|refine wDB ?_|refine awp_seq_k fun K hK=>?_|refine wN fun bx=>?_|(refine wH ?_;clear hK))
   have hst:=hole_step sw hh hj2 (by omega) (by omega) (decide_eq_true hcmp)
   exact⟨⟨(j-1,swapL zs j (j-1)),by omega,by omega,hsz.trans (swapL_same ⟨by omega,by omega⟩ ⟨by omega,by omega⟩ (by omega)),hst⟩,wk,⟨0,rfl⟩,by simp only;omega⟩
  ·repeat(first|refine wDB ?_|refine awp_seq_k fun K hK=>?_|refine wN fun bx=>?_|refine wC gc ?_|(refine wH ?_;clear hK))
   exact⟨⟨(i+1,zs),by omega,.inl (by omega),hsz,hole_done sw hh hj2 (.inr ⟨by omega,decide_eq_false hcmp⟩)⟩,wk,⟨0,rfl⟩,by simp only;omega⟩
 ·have hge:¬(i:Int)<b:=by omega
  repeat(first|refine wDB ?_|refine awp_seq_k fun K hK=>?_|refine wN fun bx=>?_|(refine wH ?_;clear hK))
  exact fnQ_ret 0 rfl .nil (Sub.refl _) ⟨rfl,⟨ys,hsm,fun p q q1 q2 q3=>hsr p q q1 q2 (by omega)⟩,rfl⟩
end Go.Proofs.YtamgilppehibeaaGreatDoor
namespace Go.Proofs.YtamgilppehibeaaGreatDoor
open Go.Ab
theorem cbRot:Callable Tryz.prog 214:=fun _ _=>by kernel_rfl
theorem rotate_c {α:Type} [Inhabited α] {f:α→List AV} (hf:Enc3 f) (g cap:Nat) (xs:List α) (a m b:Nat) (F:FuncId) (hc:xs.length≤cap) (h1:a<m) (h2:m<b) (h3:b≤xs.length) (hl:xs.length≤1000000000000):
  ACalls Tryz.prog 214 [.mslice g 0 xs.length cap,.int .i64 a,.int .i64 m,.int .i64 b,.func (.func F) [] []] [rowT f g cap xs] (fun r H'=>r=.ret (.tuple [])∧H'=[rowT f g cap (rotL xs a m b)]):=by
 refine acalls_of_awp tyok cbRot Tryz.func214 rfl rfl ?_
 repeat(first|refine wDB ?_|refine awp_seq_k fun K hK=>?_|refine wN fun bx=>?_|(refine wH ?_;clear hK))
 refine awp_loop0 (ι:={y:(Nat×Nat)×List α//0<y.1.1∧0<y.1.2∧y.2.length=xs.length∧RotI (rotL xs a m b) y.2 m y.1.1 y.1.2})
  (fun y=>[(0,.mslice g 0 xs.length cap),(1,.int .i64 a),(2,.int .i64 m),(3,.int .i64 b),(4,.func (.func F) [] []),(10,.int .i64 y.1.1.1),(11,.int .i64 y.1.1.2)]) (fun y=>[rowT f g cap y.1.2]) (fun y=>y.1.1.1+y.1.1.2)
  ⟨((m-a,b-m),xs),Nat.sub_pos_of_lt h1,Nat.sub_pos_of_lt h2,rfl,rotL_start (by omega) (by omega) h3⟩ ⟨⟨_,rfl,Sub.refl _⟩,⟨_,rfl,Sub.refl _⟩,⟨_,rfl,Sub.refl _⟩,⟨_,rfl,Sub.refl _⟩,⟨_,rfl,Sub.refl _⟩,⟨_,rfl,Sub.of_eq (congrArg (AV.int .i64) (Int.ofNat_sub (Nat.le_of_lt h1)).symm)⟩,⟨_,rfl,Sub.of_eq (congrArg (AV.int .i64) (Int.ofNat_sub (Nat.le_of_lt h2)).symm)⟩,True.intro⟩ ⟨0,rfl⟩ ?_
 rintro⟨⟨⟨i,j⟩,ys⟩,hi,hj,hyl,hr⟩
 simp only at hi hj hyl hr ⊢
 obtain⟨b1,b2,b3⟩:=hr.bound
 by_cases hne:i=j
 ·subst hne
  have c1:=swapRange_c hf g cap ys (m-i) m i (.func (.func F) [] []) (by omega) (by omega) (by omega) (by omega)
  rw[show((m-i:Nat):Int)=(m:Int)-i by omega,hyl,rot_last hr]at c1
  have hno:¬(i:Int)≠i:=fun h=>h rfl
  repeat(first|refine wDB ?_|refine awp_seq_k fun K hK=>?_|refine wN fun bx=>?_|(refine wH ?_;clear hK))
  refine qcallH (G:=[]) c1 ?_
  repeat(first|refine wDB ?_|refine awp_seq_k fun K hK=>?_|refine wN fun bx=>?_|(refine wH ?_;clear hK))
  exact fnQ_ret 0 rfl .nil (Sub.refl _) ⟨rfl,rfl⟩
 ·have hne':(i:Int)≠j:=by omega
  by_cases hgt:j<i
  ·have hgt':(i:Int)>j:=by omega
   have c1:=swapRange_c hf g cap ys (m-i) m j (.func (.func F) [] []) (by omega) (by omega) (by omega) (by omega)
   rw[show((m-i:Nat):Int)=(m:Int)-i by omega,hyl]at c1
   repeat(first|refine wDB ?_|refine awp_seq_k fun K hK=>?_|refine wN fun bx=>?_|(refine wH ?_;clear hK))
   refine qcallH (G:=[]) c1 ?_
   repeat(first|refine wDB ?_|refine awp_seq_k fun K hK=>?_|refine wN fun bx=>?_|(refine wH ?_;clear hK))
   exact⟨⟨((i-j,j),swapN ys (m-i) m j),Nat.sub_pos_of_lt hgt,hj,by rw[swapN_len];exact hyl,rot_more hr hgt⟩,⟨⟨_,rfl,Sub.refl _⟩,⟨_,rfl,Sub.refl _⟩,⟨_,rfl,Sub.refl _⟩,⟨_,rfl,Sub.refl _⟩,⟨_,rfl,Sub.refl _⟩,⟨_,rfl,Sub.of_eq (congrArg (AV.int .i64) (by simp only;omega))⟩,⟨_,rfl,Sub.refl _⟩,True.intro⟩,⟨0,rfl⟩,by simp only;omega⟩
  ·have hgt':¬(i:Int)>j:=by omega
   have c1:=swapRange_c hf g cap ys (m-i) (m+j-i) i (.func (.func F) [] []) (by omega) (by omega) (by omega) (by omega)
   rw[show((m-i:Nat):Int)=(m:Int)-i by omega,show((m+j-i:Nat):Int)=(m:Int)+j-i by omega,hyl]at c1
   repeat(first|refine wDB ?_|refine awp_seq_k fun K hK=>?_|refine wN fun bx=>?_|(refine wH ?_;clear hK))
   refine qcallH (G:=[]) c1 ?_
   repeat(first|refine wDB ?_|refine awp_seq_k fun K hK=>?_|refine wN fun bx=>?_|(refine wH ?_;clear hK))
   exact⟨⟨((i,j-i),swapN ys (m-i) (m+j-i) i),hi,Nat.sub_pos_of_lt (show i<j by omega),by rw[swapN_len];exact hyl,rot_less hr (by omega)⟩,⟨⟨_,rfl,Sub.refl _⟩,⟨_,rfl,Sub.refl _⟩,⟨_,rfl,Sub.refl _⟩,⟨_,rfl,Sub.refl _⟩,⟨_,rfl,Sub.refl _⟩,⟨_,rfl,Sub.refl _⟩,⟨_,rfl,Sub.of_eq (congrArg (AV.int .i64) (by simp only;omega))⟩,True.intro⟩,⟨0,rfl⟩,by simp only;omega⟩
end Go.Proofs.YtamgilppehibeaaGreatDoor
namespace Go.Proofs.YtamgilppehibeaaGreatDoor
open Go.Ab
theorem half {x y h:Nat} (e:h=(x+y)/2) (hx:x≤1000000000000) (hy:y≤1000000000000):IntKind.i64.wrap ((IntKind.u64.wrap ((x:Int)+y)).fdiv (2^min (Int.toNat 1) IntKind.u64.bits))=(h:Int):=by
 have e0:(2:Int)^min (Int.toNat 1) IntKind.u64.bits=2:=by decide
 have e1:IntKind.u64.wrap ((x:Int)+y)=(x:Int)+y:=by
  have:IntKind.u64.wrap ((x:Int)+y)=((x:Int)+y)%18446744073709551616:=by simp[IntKind.wrap,IntKind.bits,IntKind.signed]
  rw[this]
  omega
 rw[e0,e1,Int.fdiv_eq_ediv_of_nonneg _ (by decide),show((x:Int)+y)/2=h by omega]
 have hb:h≤1000000000000:=by omega
 have hm:(h:Int)%2^64=h:=by omega
 simp only[IntKind.wrap,IntKind.bits,IntKind.signed,hm]
 rw[if_neg (by simp;omega)]
theorem rotL_none {α:Type} {xs:List α} {s m e:Nat} (h1:s≤m) (h2:m≤e) (h:s=m∨e=m):rotL xs s m e=xs:=by
 conv=>rhs;rw[rotL_cut (xs:=xs) h1 h2]
 unfold rotL
 rcases h with rfl|rfl
 ·rw[Nat.sub_self,List.take_zero,List.nil_append,List.nil_append]
 ·rw[Nat.sub_self,List.take_zero,List.nil_append,List.nil_append]
theorem merged {α:Type} [Inhabited α] {lt:α→α→Bool} {xs ys zs ws:List α} {a c b:Nat} (hac:a≤c) (hcb:c≤b) (hy:Same xs ys a b) (h:∀i j,a≤i→i<c→c≤j→j<b→leB lt (ys.getD i default) (ys.getD j default))
  (z1:Same ys zs a c) (z2:Srt lt zs a c) (w1:Same zs ws c b) (w2:Srt lt ws c b):Same xs ws a b∧Srt lt ws a b:=by
 refine⟨hy.trans ((z1.wide (Nat.le_refl _) hcb).trans (w1.wide hac (Nat.le_refl _))),halves_done (c:=c) h (z2.congr fun k _ k2=>w1.out k (.inl k2)) w2 (fun i i1 i2=>?_) fun i i1 i2=>?_⟩
 ·obtain⟨j,j1,j2,e⟩:=z1.mem i i1 i2
  exact⟨j,j1,j2,(w1.out i (.inl i2)).trans e⟩
 ·obtain⟨j,j1,j2,e⟩:=w1.mem i i1 i2
  exact⟨j,j1,j2,e.trans (z1.out j (.inr j1))⟩
theorem cbSym:Callable Tryz.prog 192:=fun _ _=>by kernel_rfl
theorem symMerge_c {α:Type} [Inhabited α] {f:α→List AV} (hf:Enc3 f) {F:FuncId} {c:α→α→Int} (hF:CmpC f F c) (sw:SW fun x y=>decide (c x y<0)) (g cap:Nat):∀(n:Nat) (xs:List α) (a m b:Nat),b≤a+n→xs.length≤cap→xs.length≤1000000000000→a<m→m<b→b≤xs.length→Srt (fun x y=>decide (c x y<0)) xs a m→Srt (fun x y=>decide (c x y<0)) xs m b→
  ACalls Tryz.prog 192 [.mslice g 0 xs.length cap,.int .i64 a,.int .i64 m,.int .i64 b,.func (.func F) [] []] [rowT f g cap xs]
   (fun r H'=>r=.ret (.tuple [])∧∃ys:{ys:List α//Same xs ys a b∧Srt (fun x y=>decide (c x y<0)) ys a b},H'=[rowT f g cap ys.1])
 |0,xs,a,m,b,hn,_,_,h1,h2,_,_,_=>by omega
 |n+1,xs,a,m,b,hn,hc,hl,h1,h2,h3,s1,s2=>by
  refine acalls_of_awp tyok cbSym Tryz.func192 rfl rfl ?_
  by_cases c1:m=a+1
  ·have c1':(m:Int)-a=1:=by omega
   repeat(first|refine wDB ?_|refine awp_seq_k fun K hK=>?_|refine wN fun bx=>?_|(refine wH ?_;clear hK))
   refine awp_loop0 (ι:={y:Nat×Nat//m≤y.1∧y.1≤y.2∧y.2≤b∧(y.1=m∨c (xs.getD (y.1-1) default) (xs.getD a default)<0)∧(y.2=b∨¬c (xs.getD y.2 default) (xs.getD a default)<0)})
    (fun y=>[(0,.mslice g 0 xs.length cap),(1,.int .i64 a),(2,.int .i64 m),(3,.int .i64 b),(4,.func (.func F) [] []),(10,.int .i64 y.1.1),(11,.int .i64 y.1.2)]) (fun _=>[rowT f g cap xs]) (fun y=>y.1.2-y.1.1)
    ⟨(m,b),Nat.le_refl _,Nat.le_of_lt h2,Nat.le_refl _,.inl rfl,.inl rfl⟩ wk ⟨0,rfl⟩ ?_
   rintro⟨⟨i,j⟩,i1,i2,i3,i4,i5⟩
   simp only at i1 i2 i3 i4 i5 ⊢
   by_cases hij:i<j
   ·have hij':(i:Int)<j:=by omega
    obtain⟨h,hh⟩:∃h,h=(i+j)/2:=⟨_,rfl⟩
    have gc:PCalls Tryz.prog F ([]++[.agg (f (xs.getD h default)),.agg (f (xs.getD a default))]++[]) (.int .i64 (c (xs.getD h default) (xs.getD a default))):=hF _ _
    repeat(first|refine wDB ?_|refine awp_seq_k fun K hK=>?_|refine wN fun bx=>?_|(refine wH ?_;clear hK))
    rw[half hh (by omega) (by omega)]
    refine qiaM tyok ?_
    repeat(first|refine wDB ?_|refine awp_seq_k fun K hK=>?_|refine wN fun bx=>?_|(refine wH ?_;clear hK))
    refine qldS (cap:=cap) (sz:=3) f xs h ?_ ?_ (by omega) (by omega) (hf.len _)
    ·exact Nat.zero_add _
    repeat(first|refine wDB ?_|refine awp_seq_k fun K hK=>?_|refine wN fun bx=>?_|(refine wH ?_;clear hK))
    refine qiaM tyok ?_
    repeat(first|refine wDB ?_|refine awp_seq_k fun K hK=>?_|refine wN fun bx=>?_|(refine wH ?_;clear hK))
    refine qldS (cap:=cap) (sz:=3) f xs a ?_ ?_ (by omega) (by omega) (hf.len _)
    ·exact Nat.zero_add _
    by_cases hcmp:c (xs.getD h default) (xs.getD a default)<0
    ·repeat(first|refine wDB ?_|refine awp_seq_k fun K hK=>?_|refine wN fun bx=>?_|refine wC gc ?_|(refine wH ?_;clear hK))
     exact⟨⟨(h+1,j),by omega,by omega,i3,.inr hcmp,i5⟩,wk,⟨0,rfl⟩,by simp only;omega⟩
    ·repeat(first|refine wDB ?_|refine awp_seq_k fun K hK=>?_|refine wN fun bx=>?_|refine wC gc ?_|(refine wH ?_;clear hK))
     exact⟨⟨(i,h),i1,by omega,by omega,i4,.inr hcmp⟩,wk,⟨0,rfl⟩,by simp only;omega⟩
   ·obtain rfl:i=j:=by omega
    have hij':¬(i:Int)<i:=by omega
    repeat(first|refine wDB ?_|refine awp_seq_k fun K hK=>?_|refine wN fun bx=>?_|(refine wH ?_;clear hK))
    refine awp_loop0 (ι:={y:Nat×List α//a≤y.1∧y.1≤i-1∧Up xs y.2 a y.1 b})
     (fun y=>[(0,.mslice g 0 xs.length cap),(1,.int .i64 a),(2,.int .i64 m),(3,.int .i64 b),(4,.func (.func F) [] []),(10,.int .i64 i),(13,.int .i64 y.1.1)]) (fun y=>[rowT f g cap y.1.2]) (fun y=>i-1-y.1.1)
     ⟨(a,xs),Nat.le_refl _,Nat.le_sub_one_of_lt (Nat.lt_of_lt_of_le h1 i1),up_start _ _ _⟩ wk ⟨0,rfl⟩ ?_
    rintro⟨⟨k,ys⟩,k1,k2,hu⟩
    simp only at k1 k2 hu ⊢
    have hyl:=hu.same.len
    by_cases hk:k<i-1
    ·have hk':(k:Int)<(i:Int)-1:=by omega
     have ek1:((k:Int)+1).toNat=k+1:=by omega
     repeat(first|refine wDB ?_|refine awp_seq_k fun K hK=>?_|refine wN fun bx=>?_|(refine wH ?_;clear hK))
     refine qiaM tyok ?_
     repeat(first|refine wDB ?_|refine awp_seq_k fun K hK=>?_|refine wN fun bx=>?_|(refine wH ?_;clear hK))
     refine qldS (cap:=cap) (sz:=3) f ys (k+1) ?_ ?_ (by omega) (by omega) (hf.len _)
     ·rw[ek1];exact Nat.zero_add _
     repeat(first|refine wDB ?_|refine awp_seq_k fun K hK=>?_|refine wN fun bx=>?_|(refine wH ?_;clear hK))
     refine qiaM tyok ?_
     repeat(first|refine wDB ?_|refine awp_seq_k fun K hK=>?_|refine wN fun bx=>?_|(refine wH ?_;clear hK))
     refine qldS (cap:=cap) (sz:=3) f ys k ?_ ?_ (by omega) (by omega) (hf.len _)
     ·exact Nat.zero_add _
     repeat(first|refine wDB ?_|refine awp_seq_k fun K hK=>?_|refine wN fun bx=>?_|(refine wH ?_;clear hK))
     refine qiaM tyok ?_
     repeat(first|refine wDB ?_|refine awp_seq_k fun K hK=>?_|refine wN fun bx=>?_|(refine wH ?_;clear hK))
     refine qstS (cap:=cap) (sz:=3) tyok f ys k (ys.getD (k+1) default) ?_ ?_ (by omega) (by omega) (hf.len _) (by decide) (hf.one _)
     ·exact Nat.zero_add _
     repeat(first|refine wDB ?_|refine awp_seq_k fun K hK=>?_|refine wN fun bx=>?_|(refine wH ?_;clear hK))
     refine qiaM tyok ?_
     repeat(first|refine wDB ?_|refine awp_seq_k fun K hK=>?_|refine wN fun bx=>?_|(refine wH ?_;clear hK))
     refine qstS (cap:=cap) (sz:=3) tyok f (ys.set k (ys.getD (k+1) default)) (k+1) (ys.getD k default) ?_ ?_ (by rw[List.length_set];omega) (by rw[List.length_set];omega) (hf.len _) (by decide) (hf.one _)
     ·rw[ek1];exact Nat.zero_add _
     repeat(first|refine wDB ?_|refine awp_seq_k fun K hK=>?_|refine wN fun bx=>?_|(refine wH ?_;clear hK))
     exact⟨⟨(k+1,swapL ys k (k+1)),by omega,by omega,up_step hu k1 (by omega) h3⟩,wk,⟨0,rfl⟩,by simp only;omega⟩
    ·obtain rfl:k=i-1:=by omega
     have hk':¬((i-1:Nat):Int)<(i:Int)-1:=by omega
     repeat(first|refine wDB ?_|refine awp_seq_k fun K hK=>?_|refine wN fun bx=>?_|(refine wH ?_;clear hK))
     refine fnQ_ret 0 rfl .nil (Sub.refl _) ⟨rfl,⟨ys,hu.same,merge_first sw (i:=i) (s2.sub (by omega) (Nat.le_refl _)) ⟨by omega,i3⟩ ?_ ?_ hu.lo hu.mid fun t t1 _=>hu.hi t (by omega)⟩,rfl⟩
     ·exact i4.imp (fun e=>e.trans c1) decide_eq_true
     ·exact i5.imp id decide_eq_false
  have c1':¬(m:Int)-a=1:=by omega
  by_cases c2:b=m+1
  ·have c2':(b:Int)-m=1:=by omega
   repeat(first|refine wDB ?_|refine awp_seq_k fun K hK=>?_|refine wN fun bx=>?_|(refine wH ?_;clear hK))
   refine awp_loop0 (ι:={y:Nat×Nat//a≤y.1∧y.1≤y.2∧y.2≤m∧(y.1=a∨¬c (xs.getD m default) (xs.getD (y.1-1) default)<0)∧(y.2=m∨c (xs.getD m default) (xs.getD y.2 default)<0)})
    (fun y=>[(0,.mslice g 0 xs.length cap),(1,.int .i64 a),(2,.int .i64 m),(3,.int .i64 b),(4,.func (.func F) [] []),(14,.int .i64 y.1.1),(15,.int .i64 y.1.2)]) (fun _=>[rowT f g cap xs]) (fun y=>y.1.2-y.1.1)
    ⟨(a,m),Nat.le_refl _,Nat.le_of_lt h1,Nat.le_refl _,.inl rfl,.inl rfl⟩ wk ⟨0,rfl⟩ ?_
   rintro⟨⟨i,j⟩,i1,i2,i3,i4,i5⟩
   simp only at i1 i2 i3 i4 i5 ⊢
   by_cases hij:i<j
   ·have hij':(i:Int)<j:=by omega
    obtain⟨h,hh⟩:∃h,h=(i+j)/2:=⟨_,rfl⟩
    have gc:PCalls Tryz.prog F ([]++[.agg (f (xs.getD m default)),.agg (f (xs.getD h default))]++[]) (.int .i64 (c (xs.getD m default) (xs.getD h default))):=hF _ _
    repeat(first|refine wDB ?_|refine awp_seq_k fun K hK=>?_|refine wN fun bx=>?_|(refine wH ?_;clear hK))
    refine qiaM tyok ?_
    repeat(first|refine wDB ?_|refine awp_seq_k fun K hK=>?_|refine wN fun bx=>?_|(refine wH ?_;clear hK))
    refine qldS (cap:=cap) (sz:=3) f xs m ?_ ?_ (by omega) (by omega) (hf.len _)
    ·exact Nat.zero_add _
    repeat(first|refine wDB ?_|refine awp_seq_k fun K hK=>?_|refine wN fun bx=>?_|(refine wH ?_;clear hK))
    rw[half hh (by omega) (by omega)]
    refine qiaM tyok ?_
    repeat(first|refine wDB ?_|refine awp_seq_k fun K hK=>?_|refine wN fun bx=>?_|(refine wH ?_;clear hK))
    refine qldS (cap:=cap) (sz:=3) f xs h ?_ ?_ (by omega) (by omega) (hf.len _)
    ·exact Nat.zero_add _
    by_cases hcmp:c (xs.getD m default) (xs.getD h default)<0
    ·repeat(first|refine wDB ?_|refine awp_seq_k fun K hK=>?_|refine wN fun bx=>?_|refine wC gc ?_|(refine wH ?_;clear hK))
     exact⟨⟨(i,h),i1,by omega,by omega,i4,.inr hcmp⟩,wk,⟨0,rfl⟩,by simp only;omega⟩
    ·repeat(first|refine wDB ?_|refine awp_seq_k fun K hK=>?_|refine wN fun bx=>?_|refine wC gc ?_|(refine wH ?_;clear hK))
     exact⟨⟨(h+1,j),by omega,by omega,i3,.inr hcmp,i5⟩,wk,⟨0,rfl⟩,by simp only;omega⟩
   ·obtain rfl:i=j:=by omega
    have hij':¬(i:Int)<i:=by omega
    repeat(first|refine wDB ?_|refine awp_seq_k fun K hK=>?_|refine wN fun bx=>?_|(refine wH ?_;clear hK))
    refine awp_loop0 (ι:={y:Nat×List α//i≤y.1∧y.1≤m∧Dn xs y.2 a m y.1 b})
     (fun y=>[(0,.mslice g 0 xs.length cap),(1,.int .i64 a),(2,.int .i64 m),(3,.int .i64 b),(4,.func (.func F) [] []),(14,.int .i64 i),(17,.int .i64 y.1.1)]) (fun y=>[rowT f g cap y.1.2]) (fun y=>y.1.1)
     ⟨(m,xs),i3,Nat.le_refl _,dn_start _ _ _ _⟩ wk ⟨0,rfl⟩ ?_
    rintro⟨⟨k,ys⟩,k1,k2,hu⟩
    simp only at k1 k2 hu ⊢
    have hyl:=hu.same.len
    by_cases hk:i<k
    ·have hk':(k:Int)>i:=by omega
     have ek1:((k:Int)-1).toNat=k-1:=by omega
     repeat(first|refine wDB ?_|refine awp_seq_k fun K hK=>?_|refine wN fun bx=>?_|(refine wH ?_;clear hK))
     refine qiaM tyok ?_
     repeat(first|refine wDB ?_|refine awp_seq_k fun K hK=>?_|refine wN fun bx=>?_|(refine wH ?_;clear hK))
     refine qldS (cap:=cap) (sz:=3) f ys (k-1) ?_ ?_ (by omega) (by omega) (hf.len _)
     ·rw[ek1];exact Nat.zero_add _
     repeat(first|refine wDB ?_|refine awp_seq_k fun K hK=>?_|refine wN fun bx=>?_|(refine wH ?_;clear hK))
     refine qiaM tyok ?_
     repeat(first|refine wDB ?_|refine awp_seq_k fun K hK=>?_|refine wN fun bx=>?_|(refine wH ?_;clear hK))
     refine qldS (cap:=cap) (sz:=3) f ys k ?_ ?_ (by omega) (by omega) (hf.len _)
     ·exact Nat.zero_add _
     repeat(first|refine wDB ?_|refine awp_seq_k fun K hK=>?_|refine wN fun bx=>?_|(refine wH ?_;clear hK))
     refine qiaM tyok ?_
     repeat(first|refine wDB ?_|refine awp_seq_k fun K hK=>?_|refine wN fun bx=>?_|(refine wH ?_;clear hK))
     refine qstS (cap:=cap) (sz:=3) tyok f ys k (ys.getD (k-1) default) ?_ ?_ (by omega) (by omega) (hf.len _) (by decide) (hf.one _)
     ·exact Nat.zero_add _
     repeat(first|refine wDB ?_|refine awp_seq_k fun K hK=>?_|refine wN fun bx=>?_|(refine wH ?_;clear hK))
     refine qiaM tyok ?_
     repeat(first|refine wDB ?_|refine awp_seq_k fun K hK=>?_|refine wN fun bx=>?_|(refine wH ?_;clear hK))
     refine qstS (cap:=cap) (sz:=3) tyok f (ys.set k (ys.getD (k-1) default)) (k-1) (ys.getD k default) ?_ ?_ (by rw[List.length_set];omega) (by rw[List.length_set];omega) (hf.len _) (by decide) (hf.one _)
     ·rw[ek1];exact Nat.zero_add _
     repeat(first|refine wDB ?_|refine awp_seq_k fun K hK=>?_|refine wN fun bx=>?_|(refine wH ?_;clear hK))
     exact⟨⟨(k-1,swapL ys k (k-1)),by omega,by omega,dn_step hu (by omega) k2 h2 h3⟩,wk,⟨0,rfl⟩,by simp only;omega⟩
    ·obtain rfl:k=i:=by omega
     have hk':¬(k:Int)>k:=by omega
     repeat(first|refine wDB ?_|refine awp_seq_k fun K hK=>?_|refine wN fun bx=>?_|(refine wH ?_;clear hK))
     subst c2
     refine fnQ_ret 0 rfl .nil (Sub.refl _) ⟨rfl,⟨ys,hu.same,merge_last sw (i:=k) s1 ⟨i1,k2⟩ ?_ ?_ (fun t t1 t2=>hu.hi t t1 (by omega)) hu.mid fun t _ t1=>hu.lo t t1⟩,rfl⟩
     ·exact i4.imp id decide_eq_false
     ·exact i5.imp id decide_eq_true
  have c2':¬(b:Int)-m=1:=by omega
  obtain⟨mid,hmid⟩:∃mid,mid=(a+b)/2:=⟨_,rfl⟩
  obtain⟨S,R,hSR⟩:∃S R,(mid<m∧S=mid+m-b∧R=mid)∨(¬mid<m∧S=a∧R=m):=by
   by_cases e:mid<m
   ·exact⟨_,_,.inl ⟨e,rfl,rfl⟩⟩
   ·exact⟨_,_,.inr ⟨e,rfl,rfl⟩⟩
  have eS:(if m>(a+b)/2 then(a+b)/2+m-b else a)=S:=by split<;>omega
  have eR:(if m>(a+b)/2 then(a+b)/2 else m)=R:=by split<;>omega
  have hSR2:S≤R∧a≤S∧R≤m∧R≤mid∧mid+m≤b+S:=by omega
  repeat(first|refine wDB ?_|refine awp_seq_k fun K hK=>?_|refine wN fun bx=>?_|(refine wH ?_;clear hK))
  rw[half hmid (by omega) (by omega)]
  rcases hSR with⟨c3,hS,hR⟩|⟨c3,hS,hR⟩
  case' inl=>have c3':(m:Int)>mid:=by omega
  case' inr=>have c3':¬(m:Int)>mid:=by omega
  case' inl=>have qS:(mid:Int)+m-b=S:=by omega
  case' inr=>have qS:(a:Int)=S:=by omega
  case' inl=>have qR:(mid:Int)=R:=by omega
  case' inr=>have qR:(m:Int)=R:=by omega
  all_goals
   repeat(first|refine wDB ?_|refine awp_seq_k fun K hK=>?_|refine wN fun bx=>?_|(refine wH ?_;clear hK))
   refine awp_loop0 (ι:={y:Nat×Nat//S≤y.1∧y.1≤y.2∧y.2≤R∧(y.1=S∨¬c (xs.getD (mid+m-y.1) default) (xs.getD (y.1-1) default)<0)∧(y.2=R∨c (xs.getD (mid+m-1-y.2) default) (xs.getD y.2 default)<0)})
    (fun y=>[(0,.mslice g 0 xs.length cap),(1,.int .i64 a),(2,.int .i64 m),(3,.int .i64 b),(4,.func (.func F) [] []),(18,.int .i64 mid),(19,.int .i64 ((mid:Int)+m)),(20,.int .i64 y.1.1),(21,.int .i64 y.1.2),(22,.int .i64 ((mid:Int)+m-1))]) (fun _=>[rowT f g cap xs]) (fun y=>y.1.2-y.1.1)
    ⟨(S,R),Nat.le_refl _,hSR2.1,Nat.le_refl _,.inl rfl,.inl rfl⟩ ⟨⟨_,rfl,Sub.refl _⟩,⟨_,rfl,Sub.refl _⟩,⟨_,rfl,Sub.refl _⟩,⟨_,rfl,Sub.refl _⟩,⟨_,rfl,Sub.refl _⟩,⟨_,rfl,Sub.refl _⟩,⟨_,rfl,Sub.refl _⟩,⟨_,rfl,Sub.of_eq (congrArg (AV.int .i64) qS)⟩,⟨_,rfl,Sub.of_eq (congrArg (AV.int .i64) qR)⟩,⟨_,rfl,Sub.refl _⟩,True.intro⟩ ⟨0,rfl⟩ ?_
   rintro⟨⟨s,r⟩,i1,i2,i3,i4,i5⟩
   simp only at i1 i2 i3 i4 i5 ⊢
   by_cases hij:s<r
   ·have hij':(s:Int)<r:=by omega
    obtain⟨h,hh⟩:∃h,h=(s+r)/2:=⟨_,rfl⟩
    have gc:PCalls Tryz.prog F ([]++[.agg (f (xs.getD (mid+m-1-h) default)),.agg (f (xs.getD h default))]++[]) (.int .i64 (c (xs.getD (mid+m-1-h) default) (xs.getD h default))):=hF _ _
    have ep:((mid:Int)+m-1-h).toNat=mid+m-1-h:=by omega
    repeat(first|refine wDB ?_|refine awp_seq_k fun K hK=>?_|refine wN fun bx=>?_|(refine wH ?_;clear hK))
    rw[half hh (by omega) (by omega)]
    repeat(first|refine wDB ?_|refine awp_seq_k fun K hK=>?_|refine wN fun bx=>?_|(refine wH ?_;clear hK))
    refine qiaM tyok ?_
    repeat(first|refine wDB ?_|refine awp_seq_k fun K hK=>?_|refine wN fun bx=>?_|(refine wH ?_;clear hK))
    refine qldS (cap:=cap) (sz:=3) f xs (mid+m-1-h) ?_ ?_ (by omega) (by omega) (hf.len _)
    ·rw[ep];exact Nat.zero_add _
    repeat(first|refine wDB ?_|refine awp_seq_k fun K hK=>?_|refine wN fun bx=>?_|(refine wH ?_;clear hK))
    refine qiaM tyok ?_
    repeat(first|refine wDB ?_|refine awp_seq_k fun K hK=>?_|refine wN fun bx=>?_|(refine wH ?_;clear hK))
    refine qldS (cap:=cap) (sz:=3) f xs h ?_ ?_ (by omega) (by omega) (hf.len _)
    ·exact Nat.zero_add _
    by_cases hcmp:c (xs.getD (mid+m-1-h) default) (xs.getD h default)<0
    ·repeat(first|refine wDB ?_|refine awp_seq_k fun K hK=>?_|refine wN fun bx=>?_|refine wC gc ?_|(refine wH ?_;clear hK))
     exact⟨⟨(s,h),i1,by omega,by omega,i4,.inr hcmp⟩,wk,⟨0,rfl⟩,by simp only;omega⟩
    ·repeat(first|refine wDB ?_|refine awp_seq_k fun K hK=>?_|refine wN fun bx=>?_|refine wC gc ?_|(refine wH ?_;clear hK))
     refine⟨⟨(h+1,r),by omega,by omega,i3,.inr ?_,i5⟩,wk,⟨0,rfl⟩,by simp only;omega⟩
     simp only[Nat.add_sub_cancel]
     rw[show mid+m-(h+1)=mid+m-1-h by omega]
     exact hcmp
   obtain rfl:s=r:=by omega
   have hij':¬(s:Int)<s:=by omega
   have ee:((mid+m-s:Nat):Int)=(mid:Int)+m-s:=by omega
   have hT:Turned xs (rotL xs s m (mid+m-s)) a m b s:=by
    rw[hmid]
    exact turned_rot ⟨h1,h2⟩ h3 (by omega) (by omega)
   have hX:Same xs (rotL xs s m (mid+m-s)) a b:=(rotL_same (by omega) (by omega) (by omega)).wide (by omega) (by omega)
   obtain⟨t1,t2,t3,t4,t5⟩:=turned_halves sw ⟨h1,h2⟩ s1 s2 (by rw[eS,eR];exact⟨i1,i3⟩) (by rw[eS,←hmid];exact i4.imp id decide_eq_false) (by rw[eR,←hmid];exact i5.imp id decide_eq_true) hT
   rw[←hmid]at t2 t3 t4 t5
   rcases(show(s<m∧s<mid)∨(s<m∧¬s<mid)∨¬s<m by omega)with⟨d1,d2⟩|⟨d1,d2⟩|d1
   ·first
    |exfalso
     omega
    |have d1':(s:Int)<m:=by omega
     have d2':(m:Int)<(mid:Int)+m-s:=by omega
     have cr:=rotate_c hf g cap xs s m (mid+m-s) F hc d1 (by omega) (by omega) hl
     rw[ee]at cr
     repeat(first|refine wDB ?_|refine awp_seq_k fun K hK=>?_|refine wN fun bx=>?_|(refine wH ?_;clear hK))
     refine qcallH (G:=[]) cr ?_
     clear cr
     generalize rotL xs s m (mid+m-s)=ys at hT hX t1 t2 t3 t4 t5 ⊢
     have hyl:=hX.len
     rcases(show(a<s∧s<mid)∨(a<s∧¬s<mid)∨¬a<s by omega)with⟨u1,u2⟩|⟨u1,u2⟩|u1
     ·first
      |exfalso
       omega
      |have u1':(a:Int)<s:=by omega
       have u2':(s:Int)<mid:=by omega
       have cs:=symMerge_c hf hF sw g cap n ys a s mid (by omega) (by omega) (by omega) u1 u2 (by omega) t1 t2
       rw[hyl]at cs
       repeat(first|refine wDB ?_|refine awp_seq_k fun K hK=>?_|refine wN fun bx=>?_|(refine wH ?_;clear hK))
       refine qcallX (G:=[]) (H2:=fun z=>[rowT f g cap z.1]) cs ?_
       rintro⟨zs,z1,z2⟩
       have hzl:zs.length=xs.length:=(z1:Same ys zs a mid).len.trans hyl
       have t3':=t3.congr (ys:=zs) fun k k1 _=>z1.out k (.inr k1)
       have t4':=t4.congr (ys:=zs) fun k k1 _=>z1.out k (.inr (by omega))
       rcases(show(mid<mid+m-s∧mid+m-s<b)∨(mid<mid+m-s∧¬mid+m-s<b)∨¬mid<mid+m-s by omega)with⟨v1,v2⟩|⟨v1,v2⟩|v1
       ·first
        |exfalso
         omega
        |have v1':(mid:Int)<(mid:Int)+m-s:=by omega
         have v2':(mid:Int)+m-s<b:=by omega
         have cs:=symMerge_c hf hF sw g cap n zs mid (mid+m-s) b (by omega) (by omega) (by omega) v1 v2 (by omega) t3' t4'
         rw[ee,hzl]at cs
         repeat(first|refine wDB ?_|refine awp_seq_k fun K hK=>?_|refine wN fun bx=>?_|(refine wH ?_;clear hK))
         refine qcallX (G:=[]) (H2:=fun w=>[rowT f g cap w.1]) cs ?_
         rintro⟨ws,w1,w2⟩
         repeat(first|refine wDB ?_|refine awp_seq_k fun K hK=>?_|refine wN fun bx=>?_|(refine wH ?_;clear hK))
         exact fnQ_ret 0 rfl .nil (Sub.refl _) ⟨rfl,⟨ws,merged (by omega) (by omega) hX t5 z1 z2 w1 w2⟩,rfl⟩
       ·first
        |exfalso
         omega
        |have v1':(mid:Int)<(mid:Int)+m-s:=by omega
         have v2':¬(mid:Int)+m-s<b:=by omega
         repeat(first|refine wDB ?_|refine awp_seq_k fun K hK=>?_|refine wN fun bx=>?_|(refine wH ?_;clear hK))
         exact fnQ_ret 0 rfl .nil (Sub.refl _) ⟨rfl,⟨zs,merged (by omega) (by omega) hX t5 z1 z2 (Same.refl _ _ _) (t3'.sub (Nat.le_refl _) (by omega))⟩,rfl⟩
       ·first
        |exfalso
         omega
        |have v1':¬(mid:Int)<(mid:Int)+m-s:=by omega
         repeat(first|refine wDB ?_|refine awp_seq_k fun K hK=>?_|refine wN fun bx=>?_|(refine wH ?_;clear hK))
         exact fnQ_ret 0 rfl .nil (Sub.refl _) ⟨rfl,⟨zs,merged (by omega) (by omega) hX t5 z1 z2 (Same.refl _ _ _) (t4'.sub (by omega) (Nat.le_refl _))⟩,rfl⟩
     ·first
      |exfalso
       omega
      |have u1':(a:Int)<s:=by omega
       have u2':¬(s:Int)<mid:=by omega
       obtain⟨zs,z1,z2,ez⟩:∃zs,Same ys zs a mid∧Srt (fun x y=>decide (c x y<0)) zs a mid∧[rowT f g cap ys]=[rowT f g cap zs]:=⟨ys,Same.refl _ _ _,t1.sub (Nat.le_refl _) (by omega),rfl⟩
       rw[ez]
       have hzl:zs.length=xs.length:=(z1:Same ys zs a mid).len.trans hyl
       have t3':=t3.congr (ys:=zs) fun k k1 _=>z1.out k (.inr k1)
       have t4':=t4.congr (ys:=zs) fun k k1 _=>z1.out k (.inr (by omega))
       rcases(show(mid<mid+m-s∧mid+m-s<b)∨(mid<mid+m-s∧¬mid+m-s<b)∨¬mid<mid+m-s by omega)with⟨v1,v2⟩|⟨v1,v2⟩|v1
       ·first
        |exfalso
         omega
        |have v1':(mid:Int)<(mid:Int)+m-s:=by omega
         have v2':(mid:Int)+m-s<b:=by omega
         have cs:=symMerge_c hf hF sw g cap n zs mid (mid+m-s) b (by omega) (by omega) (by omega) v1 v2 (by omega) t3' t4'
         rw[ee,hzl]at cs
         repeat(first|refine wDB ?_|refine awp_seq_k fun K hK=>?_|refine wN fun bx=>?_|(refine wH ?_;clear hK))
         refine qcallX (G:=[]) (H2:=fun w=>[rowT f g cap w.1]) cs ?_
         rintro⟨ws,w1,w2⟩
         repeat(first|refine wDB ?_|refine awp_seq_k fun K hK=>?_|refine wN fun bx=>?_|(refine wH ?_;clear hK))
         exact fnQ_ret 0 rfl .nil (Sub.refl _) ⟨rfl,⟨ws,merged (by omega) (by omega) hX t5 z1 z2 w1 w2⟩,rfl⟩
       ·first
        |exfalso
         omega
        |have v1':(mid:Int)<(mid:Int)+m-s:=by omega
         have v2':¬(mid:Int)+m-s<b:=by omega
         repeat(first|refine wDB ?_|refine awp_seq_k fun K hK=>?_|refine wN fun bx=>?_|(refine wH ?_;clear hK))
         exact fnQ_ret 0 rfl .nil (Sub.refl _) ⟨rfl,⟨zs,merged (by omega) (by omega) hX t5 z1 z2 (Same.refl _ _ _) (t3'.sub (Nat.le_refl _) (by omega))⟩,rfl⟩
       ·first
        |exfalso
         omega
        |have v1':¬(mid:Int)<(mid:Int)+m-s:=by omega
         repeat(first|refine wDB ?_|refine awp_seq_k fun K hK=>?_|refine wN fun bx=>?_|(refine wH ?_;clear hK))
         exact fnQ_ret 0 rfl .nil (Sub.refl _) ⟨rfl,⟨zs,merged (by omega) (by omega) hX t5 z1 z2 (Same.refl _ _ _) (t4'.sub (by omega) (Nat.le_refl _))⟩,rfl⟩
     ·first
      |exfalso
       omega
      |have u1':¬(a:Int)<s:=by omega
       obtain⟨zs,z1,z2,ez⟩:∃zs,Same ys zs a mid∧Srt (fun x y=>decide (c x y<0)) zs a mid∧[rowT f g cap ys]=[rowT f g cap zs]:=⟨ys,Same.refl _ _ _,t2.sub (by omega) (Nat.le_refl _),rfl⟩
       rw[ez]
       have hzl:zs.length=xs.length:=(z1:Same ys zs a mid).len.trans hyl
       have t3':=t3.congr (ys:=zs) fun k k1 _=>z1.out k (.inr k1)
       have t4':=t4.congr (ys:=zs) fun k k1 _=>z1.out k (.inr (by omega))
       rcases(show(mid<mid+m-s∧mid+m-s<b)∨(mid<mid+m-s∧¬mid+m-s<b)∨¬mid<mid+m-s by omega)with⟨v1,v2⟩|⟨v1,v2⟩|v1
       ·first
        |exfalso
         omega
        |have v1':(mid:Int)<(mid:Int)+m-s:=by omega
         have v2':(mid:Int)+m-s<b:=by omega
         have cs:=symMerge_c hf hF sw g cap n zs mid (mid+m-s) b (by omega) (by omega) (by omega) v1 v2 (by omega) t3' t4'
         rw[ee,hzl]at cs
         repeat(first|refine wDB ?_|refine awp_seq_k fun K hK=>?_|refine wN fun bx=>?_|(refine wH ?_;clear hK))
         refine qcallX (G:=[]) (H2:=fun w=>[rowT f g cap w.1]) cs ?_
         rintro⟨ws,w1,w2⟩
         repeat(first|refine wDB ?_|refine awp_seq_k fun K hK=>?_|refine wN fun bx=>?_|(refine wH ?_;clear hK))
         exact fnQ_ret 0 rfl .nil (Sub.refl _) ⟨rfl,⟨ws,merged (by omega) (by omega) hX t5 z1 z2 w1 w2⟩,rfl⟩
       ·first
        |exfalso
         omega
        |have v1':(mid:Int)<(mid:Int)+m-s:=by omega
         have v2':¬(mid:Int)+m-s<b:=by omega
         repeat(first|refine wDB ?_|refine awp_seq_k fun K hK=>?_|refine wN fun bx=>?_|(refine wH ?_;clear hK))
         exact fnQ_ret 0 rfl .nil (Sub.refl _) ⟨rfl,⟨zs,merged (by omega) (by omega) hX t5 z1 z2 (Same.refl _ _ _) (t3'.sub (Nat.le_refl _) (by omega))⟩,rfl⟩
       ·first
        |exfalso
         omega
        |have v1':¬(mid:Int)<(mid:Int)+m-s:=by omega
         repeat(first|refine wDB ?_|refine awp_seq_k fun K hK=>?_|refine wN fun bx=>?_|(refine wH ?_;clear hK))
         exact fnQ_ret 0 rfl .nil (Sub.refl _) ⟨rfl,⟨zs,merged (by omega) (by omega) hX t5 z1 z2 (Same.refl _ _ _) (t4'.sub (by omega) (Nat.le_refl _))⟩,rfl⟩
   ·first
    |exfalso
     omega
    |have d1':(s:Int)<m:=by omega
     have d2':¬(m:Int)<(mid:Int)+m-s:=by omega
     have eX:rotL xs s m (mid+m-s)=xs:=rotL_none (by omega) (by omega) (by omega)
     have eH:[rowT f g cap xs]=[rowT f g cap (rotL xs s m (mid+m-s))]:=by rw[eX]
     rw[eH]
     clear eH eX
     generalize rotL xs s m (mid+m-s)=ys at hT hX t1 t2 t3 t4 t5 ⊢
     have hyl:=hX.len
     rcases(show(a<s∧s<mid)∨(a<s∧¬s<mid)∨¬a<s by omega)with⟨u1,u2⟩|⟨u1,u2⟩|u1
     ·first
      |exfalso
       omega
      |have u1':(a:Int)<s:=by omega
       have u2':(s:Int)<mid:=by omega
       have cs:=symMerge_c hf hF sw g cap n ys a s mid (by omega) (by omega) (by omega) u1 u2 (by omega) t1 t2
       rw[hyl]at cs
       repeat(first|refine wDB ?_|refine awp_seq_k fun K hK=>?_|refine wN fun bx=>?_|(refine wH ?_;clear hK))
       refine qcallX (G:=[]) (H2:=fun z=>[rowT f g cap z.1]) cs ?_
       rintro⟨zs,z1,z2⟩
       have hzl:zs.length=xs.length:=(z1:Same ys zs a mid).len.trans hyl
       have t3':=t3.congr (ys:=zs) fun k k1 _=>z1.out k (.inr k1)
       have t4':=t4.congr (ys:=zs) fun k k1 _=>z1.out k (.inr (by omega))
       rcases(show(mid<mid+m-s∧mid+m-s<b)∨(mid<mid+m-s∧¬mid+m-s<b)∨¬mid<mid+m-s by omega)with⟨v1,v2⟩|⟨v1,v2⟩|v1
       ·first
        |exfalso
         omega
        |have v1':(mid:Int)<(mid:Int)+m-s:=by omega
         have v2':(mid:Int)+m-s<b:=by omega
         have cs:=symMerge_c hf hF sw g cap n zs mid (mid+m-s) b (by omega) (by omega) (by omega) v1 v2 (by omega) t3' t4'
         rw[ee,hzl]at cs
         repeat(first|refine wDB ?_|refine awp_seq_k fun K hK=>?_|refine wN fun bx=>?_|(refine wH ?_;clear hK))
         refine qcallX (G:=[]) (H2:=fun w=>[rowT f g cap w.1]) cs ?_
         rintro⟨ws,w1,w2⟩
         repeat(first|refine wDB ?_|refine awp_seq_k fun K hK=>?_|refine wN fun bx=>?_|(refine wH ?_;clear hK))
         exact fnQ_ret 0 rfl .nil (Sub.refl _) ⟨rfl,⟨ws,merged (by omega) (by omega) hX t5 z1 z2 w1 w2⟩,rfl⟩
       ·first
        |exfalso
         omega
        |have v1':(mid:Int)<(mid:Int)+m-s:=by omega
         have v2':¬(mid:Int)+m-s<b:=by omega
         repeat(first|refine wDB ?_|refine awp_seq_k fun K hK=>?_|refine wN fun bx=>?_|(refine wH ?_;clear hK))
         exact fnQ_ret 0 rfl .nil (Sub.refl _) ⟨rfl,⟨zs,merged (by omega) (by omega) hX t5 z1 z2 (Same.refl _ _ _) (t3'.sub (Nat.le_refl _) (by omega))⟩,rfl⟩
       ·first
        |exfalso
         omega
        |have v1':¬(mid:Int)<(mid:Int)+m-s:=by omega
         repeat(first|refine wDB ?_|refine awp_seq_k fun K hK=>?_|refine wN fun bx=>?_|(refine wH ?_;clear hK))
         exact fnQ_ret 0 rfl .nil (Sub.refl _) ⟨rfl,⟨zs,merged (by omega) (by omega) hX t5 z1 z2 (Same.refl _ _ _) (t4'.sub (by omega) (Nat.le_refl _))⟩,rfl⟩
     ·first
      |exfalso
       omega
      |have u1':(a:Int)<s:=by omega
       have u2':¬(s:Int)<mid:=by omega
       obtain⟨zs,z1,z2,ez⟩:∃zs,Same ys zs a mid∧Srt (fun x y=>decide (c x y<0)) zs a mid∧[rowT f g cap ys]=[rowT f g cap zs]:=⟨ys,Same.refl _ _ _,t1.sub (Nat.le_refl _) (by omega),rfl⟩
       rw[ez]
       have hzl:zs.length=xs.length:=(z1:Same ys zs a mid).len.trans hyl
       have t3':=t3.congr (ys:=zs) fun k k1 _=>z1.out k (.inr k1)
       have t4':=t4.congr (ys:=zs) fun k k1 _=>z1.out k (.inr (by omega))
       rcases(show(mid<mid+m-s∧mid+m-s<b)∨(mid<mid+m-s∧¬mid+m-s<b)∨¬mid<mid+m-s by omega)with⟨v1,v2⟩|⟨v1,v2⟩|v1
       ·first
        |exfalso
         omega
        |have v1':(mid:Int)<(mid:Int)+m-s:=by omega
         have v2':(mid:Int)+m-s<b:=by omega
         have cs:=symMerge_c hf hF sw g cap n zs mid (mid+m-s) b (by omega) (by omega) (by omega) v1 v2 (by omega) t3' t4'
         rw[ee,hzl]at cs
         repeat(first|refine wDB ?_|refine awp_seq_k fun K hK=>?_|refine wN fun bx=>?_|(refine wH ?_;clear hK))
         refine qcallX (G:=[]) (H2:=fun w=>[rowT f g cap w.1]) cs ?_
         rintro⟨ws,w1,w2⟩
         repeat(first|refine wDB ?_|refine awp_seq_k fun K hK=>?_|refine wN fun bx=>?_|(refine wH ?_;clear hK))
         exact fnQ_ret 0 rfl .nil (Sub.refl _) ⟨rfl,⟨ws,merged (by omega) (by omega) hX t5 z1 z2 w1 w2⟩,rfl⟩
       ·first
        |exfalso
         omega
        |have v1':(mid:Int)<(mid:Int)+m-s:=by omega
         have v2':¬(mid:Int)+m-s<b:=by omega
         repeat(first|refine wDB ?_|refine awp_seq_k fun K hK=>?_|refine wN fun bx=>?_|(refine wH ?_;clear hK))
         exact fnQ_ret 0 rfl .nil (Sub.refl _) ⟨rfl,⟨zs,merged (by omega) (by omega) hX t5 z1 z2 (Same.refl _ _ _) (t3'.sub (Nat.le_refl _) (by omega))⟩,rfl⟩
       ·first
        |exfalso
         omega
        |have v1':¬(mid:Int)<(mid:Int)+m-s:=by omega
         repeat(first|refine wDB ?_|refine awp_seq_k fun K hK=>?_|refine wN fun bx=>?_|(refine wH ?_;clear hK))
         exact fnQ_ret 0 rfl .nil (Sub.refl _) ⟨rfl,⟨zs,merged (by omega) (by omega) hX t5 z1 z2 (Same.refl _ _ _) (t4'.sub (by omega) (Nat.le_refl _))⟩,rfl⟩
     ·first
      |exfalso
       omega
      |have u1':¬(a:Int)<s:=by omega
       obtain⟨zs,z1,z2,ez⟩:∃zs,Same ys zs a mid∧Srt (fun x y=>decide (c x y<0)) zs a mid∧[rowT f g cap ys]=[rowT f g cap zs]:=⟨ys,Same.refl _ _ _,t2.sub (by omega) (Nat.le_refl _),rfl⟩
       rw[ez]
       have hzl:zs.length=xs.length:=(z1:Same ys zs a mid).len.trans hyl
       have t3':=t3.congr (ys:=zs) fun k k1 _=>z1.out k (.inr k1)
       have t4':=t4.congr (ys:=zs) fun k k1 _=>z1.out k (.inr (by omega))
       rcases(show(mid<mid+m-s∧mid+m-s<b)∨(mid<mid+m-s∧¬mid+m-s<b)∨¬mid<mid+m-s by omega)with⟨v1,v2⟩|⟨v1,v2⟩|v1
       ·first
        |exfalso
         omega
        |have v1':(mid:Int)<(mid:Int)+m-s:=by omega
         have v2':(mid:Int)+m-s<b:=by omega
         have cs:=symMerge_c hf hF sw g cap n zs mid (mid+m-s) b (by omega) (by omega) (by omega) v1 v2 (by omega) t3' t4'
         rw[ee,hzl]at cs
         repeat(first|refine wDB ?_|refine awp_seq_k fun K hK=>?_|refine wN fun bx=>?_|(refine wH ?_;clear hK))
         refine qcallX (G:=[]) (H2:=fun w=>[rowT f g cap w.1]) cs ?_
         rintro⟨ws,w1,w2⟩
         repeat(first|refine wDB ?_|refine awp_seq_k fun K hK=>?_|refine wN fun bx=>?_|(refine wH ?_;clear hK))
         exact fnQ_ret 0 rfl .nil (Sub.refl _) ⟨rfl,⟨ws,merged (by omega) (by omega) hX t5 z1 z2 w1 w2⟩,rfl⟩
       ·first
        |exfalso
         omega
        |have v1':(mid:Int)<(mid:Int)+m-s:=by omega
         have v2':¬(mid:Int)+m-s<b:=by omega
         repeat(first|refine wDB ?_|refine awp_seq_k fun K hK=>?_|refine wN fun bx=>?_|(refine wH ?_;clear hK))
         exact fnQ_ret 0 rfl .nil (Sub.refl _) ⟨rfl,⟨zs,merged (by omega) (by omega) hX t5 z1 z2 (Same.refl _ _ _) (t3'.sub (Nat.le_refl _) (by omega))⟩,rfl⟩
       ·first
        |exfalso
         omega
        |have v1':¬(mid:Int)<(mid:Int)+m-s:=by omega
         repeat(first|refine wDB ?_|refine awp_seq_k fun K hK=>?_|refine wN fun bx=>?_|(refine wH ?_;clear hK))
         exact fnQ_ret 0 rfl .nil (Sub.refl _) ⟨rfl,⟨zs,merged (by omega) (by omega) hX t5 z1 z2 (Same.refl _ _ _) (t4'.sub (by omega) (Nat.le_refl _))⟩,rfl⟩
   ·first
    |exfalso
     omega
    |have d1':¬(s:Int)<m:=by omega
     have eX:rotL xs s m (mid+m-s)=xs:=rotL_none (by omega) (by omega) (by omega)
     have eH:[rowT f g cap xs]=[rowT f g cap (rotL xs s m (mid+m-s))]:=by rw[eX]
     rw[eH]
     clear eH eX
     generalize rotL xs s m (mid+m-s)=ys at hT hX t1 t2 t3 t4 t5 ⊢
     have hyl:=hX.len
     rcases(show(a<s∧s<mid)∨(a<s∧¬s<mid)∨¬a<s by omega)with⟨u1,u2⟩|⟨u1,u2⟩|u1
     ·first
      |exfalso
       omega
      |have u1':(a:Int)<s:=by omega
       have u2':(s:Int)<mid:=by omega
       have cs:=symMerge_c hf hF sw g cap n ys a s mid (by omega) (by omega) (by omega) u1 u2 (by omega) t1 t2
       rw[hyl]at cs
       repeat(first|refine wDB ?_|refine awp_seq_k fun K hK=>?_|refine wN fun bx=>?_|(refine wH ?_;clear hK))
       refine qcallX (G:=[]) (H2:=fun z=>[rowT f g cap z.1]) cs ?_
       rintro⟨zs,z1,z2⟩
       have hzl:zs.length=xs.length:=(z1:Same ys zs a mid).len.trans hyl
       have t3':=t3.congr (ys:=zs) fun k k1 _=>z1.out k (.inr k1)
       have t4':=t4.congr (ys:=zs) fun k k1 _=>z1.out k (.inr (by omega))
       rcases(show(mid<mid+m-s∧mid+m-s<b)∨(mid<mid+m-s∧¬mid+m-s<b)∨¬mid<mid+m-s by omega)with⟨v1,v2⟩|⟨v1,v2⟩|v1
       ·first
        |exfalso
         omega
        |have v1':(mid:Int)<(mid:Int)+m-s:=by omega
         have v2':(mid:Int)+m-s<b:=by omega
         have cs:=symMerge_c hf hF sw g cap n zs mid (mid+m-s) b (by omega) (by omega) (by omega) v1 v2 (by omega) t3' t4'
         rw[ee,hzl]at cs
         repeat(first|refine wDB ?_|refine awp_seq_k fun K hK=>?_|refine wN fun bx=>?_|(refine wH ?_;clear hK))
         refine qcallX (G:=[]) (H2:=fun w=>[rowT f g cap w.1]) cs ?_
         rintro⟨ws,w1,w2⟩
         repeat(first|refine wDB ?_|refine awp_seq_k fun K hK=>?_|refine wN fun bx=>?_|(refine wH ?_;clear hK))
         exact fnQ_ret 0 rfl .nil (Sub.refl _) ⟨rfl,⟨ws,merged (by omega) (by omega) hX t5 z1 z2 w1 w2⟩,rfl⟩
       ·first
        |exfalso
         omega
        |have v1':(mid:Int)<(mid:Int)+m-s:=by omega
         have v2':¬(mid:Int)+m-s<b:=by omega
         repeat(first|refine wDB ?_|refine awp_seq_k fun K hK=>?_|refine wN fun bx=>?_|(refine wH ?_;clear hK))
         exact fnQ_ret 0 rfl .nil (Sub.refl _) ⟨rfl,⟨zs,merged (by omega) (by omega) hX t5 z1 z2 (Same.refl _ _ _) (t3'.sub (Nat.le_refl _) (by omega))⟩,rfl⟩
       ·first
        |exfalso
         omega
        |have v1':¬(mid:Int)<(mid:Int)+m-s:=by omega
         repeat(first|refine wDB ?_|refine awp_seq_k fun K hK=>?_|refine wN fun bx=>?_|(refine wH ?_;clear hK))
         exact fnQ_ret 0 rfl .nil (Sub.refl _) ⟨rfl,⟨zs,merged (by omega) (by omega) hX t5 z1 z2 (Same.refl _ _ _) (t4'.sub (by omega) (Nat.le_refl _))⟩,rfl⟩
     ·first
      |exfalso
       omega
      |have u1':(a:Int)<s:=by omega
       have u2':¬(s:Int)<mid:=by omega
       obtain⟨zs,z1,z2,ez⟩:∃zs,Same ys zs a mid∧Srt (fun x y=>decide (c x y<0)) zs a mid∧[rowT f g cap ys]=[rowT f g cap zs]:=⟨ys,Same.refl _ _ _,t1.sub (Nat.le_refl _) (by omega),rfl⟩
       rw[ez]
       have hzl:zs.length=xs.length:=(z1:Same ys zs a mid).len.trans hyl
       have t3':=t3.congr (ys:=zs) fun k k1 _=>z1.out k (.inr k1)
       have t4':=t4.congr (ys:=zs) fun k k1 _=>z1.out k (.inr (by omega))
       rcases(show(mid<mid+m-s∧mid+m-s<b)∨(mid<mid+m-s∧¬mid+m-s<b)∨¬mid<mid+m-s by omega)with⟨v1,v2⟩|⟨v1,v2⟩|v1
       ·first
        |exfalso
         omega
        |have v1':(mid:Int)<(mid:Int)+m-s:=by omega
         have v2':(mid:Int)+m-s<b:=by omega
         have cs:=symMerge_c hf hF sw g cap n zs mid (mid+m-s) b (by omega) (by omega) (by omega) v1 v2 (by omega) t3' t4'
         rw[ee,hzl]at cs
         repeat(first|refine wDB ?_|refine awp_seq_k fun K hK=>?_|refine wN fun bx=>?_|(refine wH ?_;clear hK))
         refine qcallX (G:=[]) (H2:=fun w=>[rowT f g cap w.1]) cs ?_
         rintro⟨ws,w1,w2⟩
         repeat(first|refine wDB ?_|refine awp_seq_k fun K hK=>?_|refine wN fun bx=>?_|(refine wH ?_;clear hK))
         exact fnQ_ret 0 rfl .nil (Sub.refl _) ⟨rfl,⟨ws,merged (by omega) (by omega) hX t5 z1 z2 w1 w2⟩,rfl⟩
       ·first
        |exfalso
         omega
        |have v1':(mid:Int)<(mid:Int)+m-s:=by omega
         have v2':¬(mid:Int)+m-s<b:=by omega
         repeat(first|refine wDB ?_|refine awp_seq_k fun K hK=>?_|refine wN fun bx=>?_|(refine wH ?_;clear hK))
         exact fnQ_ret 0 rfl .nil (Sub.refl _) ⟨rfl,⟨zs,merged (by omega) (by omega) hX t5 z1 z2 (Same.refl _ _ _) (t3'.sub (Nat.le_refl _) (by omega))⟩,rfl⟩
       ·first
        |exfalso
         omega
        |have v1':¬(mid:Int)<(mid:Int)+m-s:=by omega
         repeat(first|refine wDB ?_|refine awp_seq_k fun K hK=>?_|refine wN fun bx=>?_|(refine wH ?_;clear hK))
         exact fnQ_ret 0 rfl .nil (Sub.refl _) ⟨rfl,⟨zs,merged (by omega) (by omega) hX t5 z1 z2 (Same.refl _ _ _) (t4'.sub (by omega) (Nat.le_refl _))⟩,rfl⟩
     ·first
      |exfalso
       omega
      |have u1':¬(a:Int)<s:=by omega
       obtain⟨zs,z1,z2,ez⟩:∃zs,Same ys zs a mid∧Srt (fun x y=>decide (c x y<0)) zs a mid∧[rowT f g cap ys]=[rowT f g cap zs]:=⟨ys,Same.refl _ _ _,t2.sub (by omega) (Nat.le_refl _),rfl⟩
       rw[ez]
       have hzl:zs.length=xs.length:=(z1:Same ys zs a mid).len.trans hyl
       have t3':=t3.congr (ys:=zs) fun k k1 _=>z1.out k (.inr k1)
       have t4':=t4.congr (ys:=zs) fun k k1 _=>z1.out k (.inr (by omega))
       rcases(show(mid<mid+m-s∧mid+m-s<b)∨(mid<mid+m-s∧¬mid+m-s<b)∨¬mid<mid+m-s by omega)with⟨v1,v2⟩|⟨v1,v2⟩|v1
       ·first
        |exfalso
         omega
        |have v1':(mid:Int)<(mid:Int)+m-s:=by omega
         have v2':(mid:Int)+m-s<b:=by omega
         have cs:=symMerge_c hf hF sw g cap n zs mid (mid+m-s) b (by omega) (by omega) (by omega) v1 v2 (by omega) t3' t4'
         rw[ee,hzl]at cs
         repeat(first|refine wDB ?_|refine awp_seq_k fun K hK=>?_|refine wN fun bx=>?_|(refine wH ?_;clear hK))
         refine qcallX (G:=[]) (H2:=fun w=>[rowT f g cap w.1]) cs ?_
         rintro⟨ws,w1,w2⟩
         repeat(first|refine wDB ?_|refine awp_seq_k fun K hK=>?_|refine wN fun bx=>?_|(refine wH ?_;clear hK))
         exact fnQ_ret 0 rfl .nil (Sub.refl _) ⟨rfl,⟨ws,merged (by omega) (by omega) hX t5 z1 z2 w1 w2⟩,rfl⟩
       ·first
        |exfalso
         omega
        |have v1':(mid:Int)<(mid:Int)+m-s:=by omega
         have v2':¬(mid:Int)+m-s<b:=by omega
         repeat(first|refine wDB ?_|refine awp_seq_k fun K hK=>?_|refine wN fun bx=>?_|(refine wH ?_;clear hK))
         exact fnQ_ret 0 rfl .nil (Sub.refl _) ⟨rfl,⟨zs,merged (by omega) (by omega) hX t5 z1 z2 (Same.refl _ _ _) (t3'.sub (Nat.le_refl _) (by omega))⟩,rfl⟩
       ·first
        |exfalso
         omega
        |have v1':¬(mid:Int)<(mid:Int)+m-s:=by omega
         repeat(first|refine wDB ?_|refine awp_seq_k fun K hK=>?_|refine wN fun bx=>?_|(refine wH ?_;clear hK))
         exact fnQ_ret 0 rfl .nil (Sub.refl _) ⟨rfl,⟨zs,merged (by omega) (by omega) hX t5 z1 z2 (Same.refl _ _ _) (t4'.sub (by omega) (Nat.le_refl _))⟩,rfl⟩
end Go.Proofs.YtamgilppehibeaaGreatDoor
namespace Go.Proofs.YtamgilppehibeaaGreatDoor
open Go.Ab
theorem cbStb:Callable Tryz.prog 166:=fun _ _=>by kernel_rfl
theorem stable_c {α:Type} [Inhabited α] {f:α→List AV} (hf:Enc3 f) {F:FuncId} {c:α→α→Int} (hF:CmpC f F c) (sw:SW fun x y=>decide (c x y<0)) (g cap:Nat) (xs:List α) (hc:xs.length≤cap) (hl:xs.length≤1000000000000):
  ACalls Tryz.prog 166 [.mslice g 0 xs.length cap,.int .i64 xs.length,.func (.func F) [] []] [rowT f g cap xs]
   (fun r H'=>r=.ret (.tuple [])∧∃ys:{ys:List α//Same xs ys 0 xs.length∧Srt (fun x y=>decide (c x y<0)) ys 0 xs.length},H'=[rowT f g cap ys.1]):=by
 refine acalls_of_awp tyok cbStb Tryz.func166 rfl rfl ?_
 obtain⟨n,hn⟩:∃n,n=xs.length:=⟨_,rfl⟩
 rw[←hn]at hc hl ⊢
 repeat(first|refine wDB ?_|refine awp_seq_k fun K hK=>?_|refine wN fun bx=>?_|(refine wH ?_;clear hK))
 refine awp_loop0 (ι:={y:Nat×List α//20∣y.1∧y.1≤n∧Same xs y.2 0 n∧Blk (fun x y=>decide (c x y<0)) y.2 20 0 y.1 n})
  (fun y=>[(0,.mslice g 0 n cap),(1,.int .i64 n),(2,.func (.func F) [] []),(6,.int .i64 20),(7,.int .i64 y.1.1),(8,.int .i64 ((y.1.1:Int)+20))]) (fun y=>[rowT f g cap y.1.2]) (fun y=>n-y.1.1)
  ⟨(0,xs),Nat.dvd_zero _,Nat.zero_le _,Same.refl _ _ _,blk_none _ _ _ _ _⟩ wk ⟨0,rfl⟩ ?_
 rintro⟨⟨a,ys⟩,a1,a2,hs,hb⟩
 simp only at a1 a2 hs hb ⊢
 have hyl:=hs.len
 rw[←hn]at hyl
 by_cases hlt:a+20≤n
 ·have hlt':(a:Int)+20≤n:=by omega
  have cs:=insertion_c hf hF sw g cap ys a (a+20) (by omega) (by omega) (by omega) (by omega)
  rw[hyl,show((a+20:Nat):Int)=(a:Int)+20 by omega]at cs
  repeat(first|refine wDB ?_|refine awp_seq_k fun K hK=>?_|refine wN fun bx=>?_|(refine wH ?_;clear hK))
  refine qcallX (G:=[]) (H2:=fun z=>[rowT f g cap z.1]) cs ?_
  rintro⟨zs,z1,z2⟩
  repeat(first|refine wDB ?_|refine awp_seq_k fun K hK=>?_|refine wN fun bx=>?_|(refine wH ?_;clear hK))
  exact⟨⟨(a+20,zs),Nat.dvd_add a1 (Nat.dvd_refl _),hlt,hs.trans (z1.wide (Nat.zero_le _) hlt),blk_step a1 hb z1 (by rw[show min (a+20) n=a+20 by omega];exact z2)⟩,wk,⟨0,rfl⟩,by simp only;omega⟩
 have hge':¬(a:Int)+20≤n:=by omega
 have cs:=insertion_c hf hF sw g cap ys a n (by omega) a2 (by omega) (by omega)
 rw[hyl]at cs
 repeat(first|refine wDB ?_|refine awp_seq_k fun K hK=>?_|refine wN fun bx=>?_|(refine wH ?_;clear hK))
 refine qcallX (G:=[]) (H2:=fun z=>[rowT f g cap z.1]) cs ?_
 rintro⟨zs,z1,z2⟩
 have hb0:=(blk_step a1 hb z1 (by rw[show min (a+20) n=n by omega];exact z2)).sub (hi':=n) (by omega)
 have hs0:=hs.trans (z1.wide (Nat.zero_le _) (Nat.le_refl _))
 clear cs hge' hlt hb hyl
 repeat(first|refine wDB ?_|refine awp_seq_k fun K hK=>?_|refine wN fun bx=>?_|(refine wH ?_;clear hK))
 refine awp_loop0 (ι:={y:Nat×List α//0<y.1∧y.1≤2000000000000∧Same xs y.2 0 n∧Blk (fun x y=>decide (c x y<0)) y.2 y.1 0 n n})
  (fun y=>[(0,.mslice g 0 n cap),(1,.int .i64 n),(2,.func (.func F) [] []),(6,.int .i64 y.1.1)]) (fun y=>[rowT f g cap y.1.2]) (fun y=>n-y.1.1)
  ⟨(20,zs),(by decide:0<20),(by decide:20≤2000000000000),hs0,hb0⟩ wk ⟨0,rfl⟩ ?_
 clear hs0 hb0
 rintro⟨⟨B,ys⟩,b1,b2,hs,hb⟩
 simp only at b1 b2 hs hb ⊢
 by_cases hB:B<n
 ·have hB':(B:Int)<n:=by omega
  repeat(first|refine wDB ?_|refine awp_seq_k fun K hK=>?_|refine wN fun bx=>?_|(refine wH ?_;clear hK))
  refine awp_loop0 (ι:={y:Nat×List α//B+B∣y.1∧y.1≤n∧Same xs y.2 0 n∧Blk (fun x y=>decide (c x y<0)) y.2 (B+B) 0 y.1 n∧Blk (fun x y=>decide (c x y<0)) y.2 B y.1 n n})
   (fun y=>[(0,.mslice g 0 n cap),(1,.int .i64 n),(2,.func (.func F) [] []),(6,.int .i64 B),(7,.int .i64 y.1.1),(8,.int .i64 ((y.1.1:Int)+2*B))]) (fun y=>[rowT f g cap y.1.2]) (fun y=>n-y.1.1)
   ⟨(0,ys),Nat.dvd_zero _,Nat.zero_le _,hs,blk_none _ _ _ _ _,hb⟩ ⟨⟨_,rfl,Sub.refl _⟩,⟨_,rfl,Sub.refl _⟩,⟨_,rfl,Sub.refl _⟩,⟨_,rfl,Sub.refl _⟩,⟨_,rfl,Sub.refl _⟩,⟨_,rfl,Sub.of_eq (congrArg (AV.int .i64) (Int.zero_add _).symm)⟩,True.intro⟩ ⟨0,rfl⟩ ?_
  clear hb hs
  rintro⟨⟨a,ys⟩,a1,a2,hs,hw,hb⟩
  simp only at a1 a2 hs hw hb ⊢
  have hyl:=hs.len
  rw[←hn]at hyl
  have a3:B∣a:=Nat.dvd_trans ⟨2,by omega⟩ a1
  by_cases hlt:a+(B+B)≤n
  ·have hlt':(a:Int)+2*B≤n:=by omega
   have r1:=hb a a3 (Nat.le_refl _) (by omega)
   have r2:=hb (a+B) (Nat.dvd_add a3 (Nat.dvd_refl _)) (by omega) (by omega)
   rw[show min (a+B) n=a+B by omega]at r1
   rw[show min (a+B+B) n=a+(B+B) by omega]at r2
   have cs:=symMerge_c hf hF sw g cap n ys a (a+B) (a+(B+B)) (by omega) (by omega) (by omega) (by omega) (by omega) (by omega) r1 r2
   rw[hyl,show((a+(B+B):Nat):Int)=(a:Int)+2*B by omega,show((a+B:Nat):Int)=(a:Int)+B by omega]at cs
   repeat(first|refine wDB ?_|refine awp_seq_k fun K hK=>?_|refine wN fun bx=>?_|(refine wH ?_;clear hK))
   refine qcallX (G:=[]) (H2:=fun z=>[rowT f g cap z.1]) cs ?_
   rintro⟨zs,z1,z2⟩
   repeat(first|refine wDB ?_|refine awp_seq_k fun K hK=>?_|refine wN fun bx=>?_|(refine wH ?_;clear hK))
   exact⟨⟨(a+(B+B),zs),Nat.dvd_add a1 (Nat.dvd_refl _),hlt,hs.trans (z1.wide (Nat.zero_le _) hlt),blk_step a1 hw z1 (by rw[show min (a+(B+B)) n=a+(B+B) by omega];exact z2),hb.out z1 (Nat.le_refl _) (by omega)⟩,
    ⟨⟨_,rfl,Sub.refl _⟩,⟨_,rfl,Sub.refl _⟩,⟨_,rfl,Sub.refl _⟩,⟨_,rfl,Sub.refl _⟩,⟨_,rfl,Sub.of_eq (congrArg (AV.int .i64) (by simp only;omega))⟩,⟨_,rfl,Sub.of_eq (congrArg (AV.int .i64) (by simp only;omega))⟩,True.intro⟩,⟨0,rfl⟩,by simp only;omega⟩
  have hge':¬(a:Int)+2*B≤n:=by omega
  by_cases hm:a+B<n
  ·have hm':(a:Int)+B<n:=by omega
   have r1:=hb a a3 (Nat.le_refl _) (by omega)
   have r2:=hb (a+B) (Nat.dvd_add a3 (Nat.dvd_refl _)) (by omega) hm
   rw[show min (a+B) n=a+B by omega]at r1
   rw[show min (a+B+B) n=n by omega]at r2
   have cs:=symMerge_c hf hF sw g cap n ys a (a+B) n (by omega) (by omega) (by omega) (by omega) (by omega) (by omega) r1 r2
   rw[hyl,show((a+B:Nat):Int)=(a:Int)+B by omega]at cs
   repeat(first|refine wDB ?_|refine awp_seq_k fun K hK=>?_|refine wN fun bx=>?_|(refine wH ?_;clear hK))
   refine qcallX (G:=[]) (H2:=fun z=>[rowT f g cap z.1]) cs ?_
   rintro⟨zs,z1,z2⟩
   repeat(first|refine wDB ?_|refine awp_seq_k fun K hK=>?_|refine wN fun bx=>?_|(refine wH ?_;clear hK))
   exact⟨⟨(B+B,zs),by omega,by omega,hs.trans (z1.wide (Nat.zero_le _) (Nat.le_refl _)),(blk_step a1 hw z1 (by rw[show min (a+(B+B)) n=n by omega];exact z2)).sub (by omega)⟩,
    ⟨⟨_,rfl,Sub.refl _⟩,⟨_,rfl,Sub.refl _⟩,⟨_,rfl,Sub.refl _⟩,⟨_,rfl,Sub.of_eq (congrArg (AV.int .i64) (by simp only;omega))⟩,True.intro⟩,⟨0,rfl⟩,by simp only;omega⟩
  ·have hm':¬(a:Int)+B<n:=by omega
   have r1:Srt (fun x y=>decide (c x y<0)) ys a (min (a+(B+B)) n):=by
    by_cases e:a<n
    ·have:=hb a a3 (Nat.le_refl _) e
     rw[show min (a+B) n=n by omega]at this
     rw[show min (a+(B+B)) n=n by omega]
     exact this
    ·intro p q p1 p2 p3
     omega
   repeat(first|refine wDB ?_|refine awp_seq_k fun K hK=>?_|refine wN fun bx=>?_|(refine wH ?_;clear hK))
   exact⟨⟨(B+B,ys),by omega,by omega,hs,(blk_step (e:=n) a1 hw (Same.refl _ _ _) r1).sub (by omega)⟩,
    ⟨⟨_,rfl,Sub.refl _⟩,⟨_,rfl,Sub.refl _⟩,⟨_,rfl,Sub.refl _⟩,⟨_,rfl,Sub.of_eq (congrArg (AV.int .i64) (by simp only;omega))⟩,True.intro⟩,⟨0,rfl⟩,by simp only;omega⟩
 ·have hB':¬(B:Int)<n:=by omega
  repeat(first|refine wDB ?_|refine awp_seq_k fun K hK=>?_|refine wN fun bx=>?_|(refine wH ?_;clear hK))
  exact fnQ_ret 0 rfl .nil (Sub.refl _) ⟨rfl,⟨ys,hs,blk_all hb (by omega)⟩,rfl⟩
theorem cbSsf:Callable Tryz.prog 116:=fun _ _=>by kernel_rfl
theorem sortStable_c {α:Type} [Inhabited α] {f:α→List AV} (hf:Enc3 f) {F:FuncId} {c:α→α→Int} (hF:CmpC f F c) (sw:SW fun x y=>decide (c x y<0)) (g cap:Nat) (xs:List α) (hc:xs.length≤cap) (hl:xs.length≤1000000000000):
  ACalls Tryz.prog 116 [.mslice g 0 xs.length cap,.func (.func F) [] []] [rowT f g cap xs]
   (fun r H'=>r=.ret (.tuple [])∧∃ys:{ys:List α//Same xs ys 0 xs.length∧Srt (fun x y=>decide (c x y<0)) ys 0 xs.length},H'=[rowT f g cap ys.1]):=by
 refine acalls_of_awp tyok cbSsf Tryz.func116 rfl rfl ?_
 have cs:=stable_c hf hF sw g cap xs hc hl
 repeat(first|refine wDB ?_|refine awp_seq_k fun K hK=>?_|refine wN fun bx=>?_|(refine wH ?_;clear hK))
 refine qcallX (G:=[]) (H2:=fun z=>[rowT f g cap z.1]) cs ?_
 rintro⟨ys,y1,y2⟩
 repeat(first|refine wDB ?_|refine awp_seq_k fun K hK=>?_|refine wN fun bx=>?_|(refine wH ?_;clear hK))
 exact fnQ_ret 0 rfl .nil (Sub.refl _) ⟨rfl,⟨ys,y1,y2⟩,rfl⟩
end Go.Proofs.YtamgilppehibeaaGreatDoor
namespace Go.Proofs.YtamgilppehibeaaGreatDoor
open Go.Ab
theorem cbClo:Callable Tryz.prog 115:=fun _ _=>by kernel_rfl
theorem clone_c {α:Type} [Inhabited α] (f:α→List AV) (xs:List α) (h0:0<xs.length) (hl:xs.length≤1000000000):
  ACalls Tryz.prog 115 [sl f 3 xs .view] []
   (fun r H'=>∃i:{y:Nat×Nat//xs.length≤y.2},r=.ret (.mslice i.1.1 0 xs.length i.1.2)∧H'=[rowT f i.1.1 i.1.2 xs]):=by
 refine acalls_of_awp tyok cbClo Tryz.func115 rfl rfl ?_
 repeat(first|refine wDB ?_|refine awp_seq_k fun K hK=>?_|refine wN fun bx=>?_|(refine wH ?_;clear hK))
 refine qnnil tyok xs.length ?_ h0
 repeat(first|refine wDB ?_|refine awp_seq_k fun K hK=>?_|refine wN fun bx=>?_|(refine wH ?_;clear hK))
 refine qappO (sz:=3) tyok f xs (fun g cap g1 _=>?_) (fun _ _=>rfl) h0 ?_
 ·repeat(first|refine wDB ?_|refine awp_seq_k fun K hK=>?_|refine wN fun bx=>?_|(refine wH ?_;clear hK))
  exact fnQ_ret 0 rfl (.tmp rfl .nil) (Sub.refl _) ⟨⟨(g,cap),g1⟩,rfl,rfl⟩
 ·constructor
  ·have:xs.length*56≤1000000000*56:=Nat.mul_le_mul_right _ hl
   exact Nat.le_trans this (by decide)
  ·omega
end Go.Proofs.YtamgilppehibeaaGreatDoor
namespace Go.Proofs.YtamgilppehibeaaGreatDoor
open Go.Ab
section
variable {α:Type} [Inhabited α] (f:α→List AV) (F:FuncId)
theorem insertion_e:PCalls Tryz.prog 191 [sl f 3 [] .view,.int .i64 0,.int .i64 0,.func (.func F) [] []] (.tuple []):=by
 refine pcalls_of_awp tyok cbIns Tryz.func191 rfl rfl ?_
 repeat(first|refine wDB ?_|refine awp_seq_k fun K hK=>?_|refine wN fun bx=>?_|(refine wH ?_;clear hK))
 refine awp_loop0 (ι:=Unit) (fun _=>[(2,.int .i64 0),(8,.int .i64 1)]) (fun _=>[]) (fun _=>0) () wk ⟨0,rfl⟩ ?_
 rintro⟨⟩
 repeat(first|refine wDB ?_|refine awp_seq_k fun K hK=>?_|refine wN fun bx=>?_|(refine wH ?_;clear hK))
 exact fnQ_ret 0 rfl .nil (Sub.refl _) ⟨rfl,rfl⟩
theorem stable_e:PCalls Tryz.prog 166 [sl f 3 [] .view,.int .i64 0,.func (.func F) [] []] (.tuple []):=by
 refine pcalls_of_awp tyok cbStb Tryz.func166 rfl rfl ?_
 have g:=insertion_e f F
 repeat(first|refine wDB ?_|refine awp_seq_k fun K hK=>?_|refine wN fun bx=>?_|(refine wH ?_;clear hK))
 refine awp_loop0 (ι:=Unit) (fun _=>[(0,sl f 3 [] .view),(1,.int .i64 0),(2,.func (.func F) [] []),(6,.int .i64 20),(7,.int .i64 0),(8,.int .i64 20)]) (fun _=>[]) (fun _=>0) () wk ⟨0,rfl⟩ ?_
 rintro⟨⟩
 repeat(first|refine wDB ?_|refine awp_seq_k fun K hK=>?_|refine wN fun bx=>?_|refine wC g ?_|(refine wH ?_;clear hK))
 refine awp_loop0 (ι:=Unit) (fun _=>[(1,.int .i64 0),(6,.int .i64 20)]) (fun _=>[]) (fun _=>0) () wk ⟨0,rfl⟩ ?_
 rintro⟨⟩
 repeat(first|refine wDB ?_|refine awp_seq_k fun K hK=>?_|refine wN fun bx=>?_|(refine wH ?_;clear hK))
 exact fnQ_ret 0 rfl .nil (Sub.refl _) ⟨rfl,rfl⟩
theorem sortStable_e:PCalls Tryz.prog 116 [sl f 3 [] .view,.func (.func F) [] []] (.tuple []):=by
 refine pcalls_of_awp tyok cbSsf Tryz.func116 rfl rfl ?_
 have g:=stable_e f F
 have h0:(([]:List α).length:Int)=0:=rfl
 repeat(first|refine wDB ?_|refine awp_seq_k fun K hK=>?_|refine wN fun bx=>?_|refine wC g ?_|(refine wH ?_;clear hK))
 exact fnQ_ret 0 rfl .nil (Sub.refl _) ⟨rfl,rfl⟩
theorem clone_e:PCalls Tryz.prog 115 [sl f 3 [] .view] (sl f 3 [] .view):=by
 refine pcalls_of_awp tyok cbClo Tryz.func115 rfl rfl ?_
 repeat(first|refine wDB ?_|refine awp_seq_k fun K hK=>?_|refine wN fun bx=>?_|(refine wH ?_;clear hK))
 refine qnilU tyok (fun b hb=>?_)
 cases b
 ·repeat(first|refine wDB ?_|refine awp_seq_k fun K hK=>?_|refine wN fun bx=>?_|(refine wH ?_;clear hK))
  refine qappF tyok f [] (fun _ _=>SubL.refl _) ?_ (fun ad cp=>?_)
  ·exact⟨by rw[List.length_nil,Nat.zero_add,Nat.zero_mul];decide,by rw[List.length_nil];decide⟩
  repeat(first|refine wDB ?_|refine awp_seq_k fun K hK=>?_|refine wN fun bx=>?_|(refine wH ?_;clear hK))
  refine r1 ?_
  exact Sub.view _ _ _ _
 ·repeat(first|refine wDB ?_|refine awp_seq_k fun K hK=>?_|refine wN fun bx=>?_|(refine wH ?_;clear hK))
  refine r1 ?_
  exact Sub.nilsv _ _
end
end Go.Proofs.YtamgilppehibeaaGreatDoor
