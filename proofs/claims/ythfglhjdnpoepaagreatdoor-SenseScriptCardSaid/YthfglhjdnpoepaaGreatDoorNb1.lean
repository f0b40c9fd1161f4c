/-
  Layer 1 (nat): Bits tells how many bits a number has.
-/
import Derived.Test.YthfglhjdnpoepaaGreatDoorNaM
import Derived.Test.YthfglhjdnpoepaaGreatDoorNb0
import Derived.Test.YthfglhjdnpoepaaGreatDoorLb
set_option maxRecDepth 100000
set_option maxHeartbeats 1600000
namespace Go.Proofs.YthfglhjdnpoepaaGreatDoor
open Go.Ab Go.RowKit
theorem len32_c (x:Nat) (hx:x<B32):PCalls Tryz.prog 173 [.int .u32 x] (.int .i64 (Lib.bitLen x)):=
 pcalls_of_below (fun _ _=>by kernel_rfl) fun st w xs hx2 _=>by
  obtain⟨y,rfl,h1⟩:=repL1 hx2
  rw[h1.int_eq]
  refine(Tryz.bits_Len32 (x:Int) w (by omega) (by unfold B32 at hx;omega)).mono ?_
  rintro e w' ⟨rfl,rfl⟩
  exact⟨_,rfl,fun _ _=>.int _ _,Below.refl _ _⟩
theorem cbBits1:Callable Tryz.prog 146:=fun _ _=>by kernel_rfl
theorem bits_c (a:List Nat) (h:LimOk 100000000 a):PCalls Tryz.prog 146 [lims a] (.int .i64 (bitsD (digs B32 (valB B32 a)))):=by
 refine pcalls_of_awp tyok cbBits1 Tryz.func146 rfl rfl ?_
 have g:=short_c a (h.mono (by decide))
 have ok:=h.trim
 have ol:=ok.len
 have hlast:=fun hne=>digs_last (B:=B32) (n:=valB B32 a) B32_two hne
 generalize digs B32 (valB B32 a)=d at g ok ol hlast ⊢
 cases d with
 |nil=>
  have h0:((([]:List Nat).length:Nat):Int)=0:=rfl
  repeat(first|refine wDB ?_|refine awp_seq_k fun K hK=>?_|refine wN fun bx=>?_|refine qpc rfl rfl rfl (g) ?_|refine qpo rfl rfl rfl rfl rfl rfl (fun _=>g) ?_|(refine wH ?_;clear hK))
  refine r1 ?_
  exact Sub.refl _
 |cons x l=>
  have h0:¬(((x::l).length:Nat):Int)=0:=by rw[List.length_cons];omega
  have hi:((((x::l).length:Nat):Int)-1).toNat=(x::l).length-1:=by rw[List.length_cons];omega
  have hg:(x::l).getD ((((x::l).length:Nat):Int)-1).toNat default=(x::l).getD ((x::l).length-1) 0:=by rw[hi];rfl
  have hb:bitsD (x::l)=32*((x::l).length-1)+Lib.bitLen ((x::l).getD ((x::l).length-1) 0):=rfl
  have ht:=ok.getD ((x::l).length-1)
  have htn:(x::l).getD ((x::l).length-1) 0≠0:=by
   have:=hlast (by simp)
   rw[List.getLast_eq_getElem]at this
   rw[List.getD_eq_getElem?_getD,List.getElem?_eq_getElem (by rw[List.length_cons];omega)]
   exact this
  have g2:=len32_c ((x::l).getD ((x::l).length-1) 0) ht
  obtain⟨b1,b2,_,_⟩:=bl_spec htn ht
  rw[←hg]at g2 b1 b2 hb
  have hlen:1≤(x::l).length:=by rw[List.length_cons];omega
  generalize x::l=d at*
  repeat(first|refine wDB ?_|refine awp_seq_k fun K hK=>?_|refine wN fun bx=>?_|refine qpc rfl rfl rfl (g) ?_|refine qpc rfl rfl rfl (g2) ?_|refine qpo rfl rfl rfl rfl rfl rfl (fun _=>g) ?_|refine qpo rfl rfl rfl rfl rfl rfl (fun _=>g2) ?_|(refine wH ?_;clear hK))
  refine r1 ?_
  refine Sub.of_eq ?_
  rw[hb]
  congr 1
  omega
end Go.Proofs.YthfglhjdnpoepaaGreatDoor
