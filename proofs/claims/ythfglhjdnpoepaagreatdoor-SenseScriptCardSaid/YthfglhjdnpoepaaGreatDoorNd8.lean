/-
  Layer 3 (divide): DivMod, Exact.
-/
import Derived.Test.YthfglhjdnpoepaaGreatDoorNd7
set_option maxRecDepth 100000
set_option maxHeartbeats 1600000
namespace Go.Proofs.YthfglhjdnpoepaaGreatDoor
open Go.Ab
theorem dm_c (a b:List Nat) (h:LimOk 10000000 a) (k:LimOk 10000000 b) (hb:valB B32 b≠0):PCalls Tryz.prog 166 [lims a,lims b] (.tuple [lims (digs B32 (valB B32 a/valB B32 b)),lims (digs B32 (valB B32 a%valB B32 b)),.int .i64 0]):=by
 rcases Nat.lt_or_ge (valB B32 a) (valB B32 b)with z|z
 ·exact dm_less a b h k z
 ·have hl:(digs B32 (valB B32 b)).length≠0:=fun e=>hb ((digs_nil B32_two).1 (List.eq_nil_of_length_eq_zero e))
  rcases Nat.lt_or_ge 1 (digs B32 (valB B32 b)).length with y|y
  ·exact dm_big a b h k z y
  ·exact dm_one a b h k z (by omega)
theorem cbExact1:Callable Tryz.prog 167:=fun _ _=>by kernel_rfl
theorem exact1_c (a b:List Nat) (h:LimOk 10000000 a) (k:LimOk 10000000 b) (hb:valB B32 b≠0) (hd:valB B32 b∣valB B32 a):PCalls Tryz.prog 167 [lims a,lims b] (.tuple [lims (digs B32 (valB B32 a/valB B32 b)),.int .i64 0]):=by
 refine pcalls_of_awp tyok cbExact1 Tryz.func167 rfl rfl ?_
 have g:=dm_c a b h k hb
 rw[Nat.mod_eq_zero_of_dvd hd]at g
 have h0:¬((digs B32 0).length:Int)>0:=by rw[digs_zero];simp
 repeat(first|refine wDB ?_|refine awp_seq_k fun K hK=>?_|refine wN fun bx=>?_|refine qpc rfl rfl rfl (g) ?_|refine qpo rfl rfl rfl rfl rfl rfl (fun _=>g) ?_|(refine wH ?_;clear hK))
 refine r2 ?_ ?_
 ·exact Sub.refl _
 ·exact Sub.refl _
theorem exact1_no (a b:List Nat) (h:LimOk 10000000 a) (k:LimOk 10000000 b) (hb:valB B32 b≠0) (hd:¬valB B32 b∣valB B32 a):PCalls Tryz.prog 167 [lims a,lims b] (.tuple [lims [],.int .i64 2]):=by
 refine pcalls_of_awp tyok cbExact1 Tryz.func167 rfl rfl ?_
 have g:=dm_c a b h k hb
 have h0:((digs B32 (valB B32 a%valB B32 b)).length:Int)>0:=by
  have:(digs B32 (valB B32 a%valB B32 b)).length≠0:=fun e=>hd (Nat.dvd_of_mod_eq_zero ((digs_nil B32_two).1 (List.eq_nil_of_length_eq_zero e)))
  omega
 repeat(first|refine wDB ?_|refine awp_seq_k fun K hK=>?_|refine wN fun bx=>?_|refine qpc rfl rfl rfl (g) ?_|refine qpo rfl rfl rfl rfl rfl rfl (fun _=>g) ?_|(refine wH ?_;clear hK))
 refine r2 ?_ ?_
 ·exact Sub.nilsv _ _
 ·exact Sub.refl _
theorem exact1_zero (a b:List Nat) (h:LimOk 10000000 a) (k:LimOk 10000000 b) (hb:valB B32 b=0):PCalls Tryz.prog 167 [lims a,lims b] (.tuple [lims [],.int .i64 7]):=by
 refine pcalls_of_awp tyok cbExact1 Tryz.func167 rfl rfl ?_
 have g:=dm_zero a b h k hb
 repeat(first|refine wDB ?_|refine awp_seq_k fun K hK=>?_|refine wN fun bx=>?_|refine qpc rfl rfl rfl (g) ?_|refine qpo rfl rfl rfl rfl rfl rfl (fun _=>g) ?_|(refine wH ?_;clear hK))
 refine r2 ?_ ?_
 ·exact Sub.nilsv _ _
 ·exact Sub.refl _
end Go.Proofs.YthfglhjdnpoepaaGreatDoor
