/-
  The program's types, as a table (written by tytab.py).
-/
import Derived.Test.YtmjigepfjcokdaaAb9
import Derived.Test.YtmjigepfjcokdaaProg
import Derived.KernelRfl
namespace Go.Proofs.Ytmjigepfjcokdaa
open Go.Ab

def tys : List (Option TyI) := [
  none,
  some ⟨.func, 1, 8, .nilFunc⟩,
  some ⟨.int .i64, 1, 8, .int .i64 0⟩,
  some ⟨.int .i64, 1, 8, .int .i64 0⟩,
  some ⟨.bool, 1, 1, .bool false⟩,
  some ⟨.int .u8, 1, 1, .int .u8 0⟩,
  some ⟨.int .u8, 1, 1, .int .u8 0⟩,
  some ⟨.struct [(0, 2), (1, 3), (2, 4), (3, 6)], 4, 24, .agg [.int .i64 0, .int .i64 0, .bool false, .int .u8 0]⟩,
  some ⟨.struct [(0, 2), (1, 3), (2, 4), (3, 6)], 4, 24, .agg [.int .i64 0, .int .i64 0, .bool false, .int .u8 0]⟩,
  some ⟨.str, 1, 16, .str []⟩,
  some ⟨.str, 1, 16, .str []⟩,
  some ⟨.str, 1, 16, .str []⟩,
  some ⟨.int .u64, 1, 8, .int .u64 0⟩,
  some ⟨.struct [(0, 9), (1, 12)], 2, 24, .agg [.str [], .int .u64 0]⟩,
  some ⟨.struct [(0, 9), (1, 12)], 2, 24, .agg [.str [], .int .u64 0]⟩,
  some ⟨.ptr 56, 1, 8, .nilptr⟩,
  some ⟨.ptr 59, 1, 8, .nilptr⟩,
  some ⟨.ptr 69, 1, 8, .nilptr⟩,
  some ⟨.struct [(0, 17)], 1, 8, .agg [.nilptr]⟩,
  some ⟨.struct [(0, 17)], 1, 8, .agg [.nilptr]⟩,
  some ⟨.iface, 1, 16, .nilIface⟩,
  some ⟨.int .i32, 1, 4, .int .i32 0⟩,
  some ⟨.slice 48, 1, 24, .nils⟩,
  some ⟨.slice 48, 1, 24, .nils⟩,
  some ⟨.func, 1, 8, .nilFunc⟩,
  some ⟨.func, 1, 8, .nilFunc⟩,
  some ⟨.int .i64, 1, 8, .int .i64 0⟩,
  none,
  some ⟨.func, 1, 8, .nilFunc⟩,
  some ⟨.func, 1, 8, .nilFunc⟩,
  some ⟨.func, 1, 8, .nilFunc⟩,
  none,
  some ⟨.func, 1, 8, .nilFunc⟩,
  some ⟨.func, 1, 8, .nilFunc⟩,
  some ⟨.func, 1, 8, .nilFunc⟩,
  some ⟨.func, 1, 8, .nilFunc⟩,
  some ⟨.func, 1, 8, .nilFunc⟩,
  some ⟨.func, 1, 8, .nilFunc⟩,
  some ⟨.func, 1, 8, .nilFunc⟩,
  some ⟨.func, 1, 8, .nilFunc⟩,
  some ⟨.func, 1, 8, .nilFunc⟩,
  some ⟨.slice 23, 1, 24, .nils⟩,
  some ⟨.func, 1, 8, .nilFunc⟩,
  some ⟨.func, 1, 8, .nilFunc⟩,
  some ⟨.array 201 3, 201, 1608, .vec 201 (fun _ => .int .i64 0)⟩,
  some ⟨.func, 1, 8, .nilFunc⟩,
  some ⟨.func, 1, 8, .nilFunc⟩,
  some ⟨.struct [(0, 3), (1, 3)], 2, 16, .agg [.int .i64 0, .int .i64 0]⟩,
  some ⟨.struct [(0, 3), (1, 3)], 2, 16, .agg [.int .i64 0, .int .i64 0]⟩,
  some ⟨.func, 1, 8, .nilFunc⟩,
  some ⟨.func, 1, 8, .nilFunc⟩,
  some ⟨.func, 1, 8, .nilFunc⟩,
  some ⟨.slice 3, 1, 24, .nils⟩,
  some ⟨.func, 1, 8, .nilFunc⟩,
  some ⟨.func, 1, 8, .nilFunc⟩,
  some ⟨.struct [(0, 17), (1, 17), (2, 17), (3, 9)], 4, 40, .agg [.nilptr, .nilptr, .nilptr, .str []]⟩,
  some ⟨.struct [(0, 17), (1, 17), (2, 17), (3, 9)], 4, 40, .agg [.nilptr, .nilptr, .nilptr, .str []]⟩,
  some ⟨.array 0 16, 0, 0, .vec 0 (fun _ => .nilptr)⟩,
  some ⟨.struct [(0, 57)], 0, 0, .agg []⟩,
  some ⟨.struct [(0, 57)], 0, 0, .agg []⟩,
  some ⟨.func, 1, 8, .nilFunc⟩,
  some ⟨.int .u32, 1, 4, .int .u32 0⟩,
  some ⟨.int .u8, 1, 1, .int .u8 0⟩,
  some ⟨.int .u8, 1, 1, .int .u8 0⟩,
  some ⟨.func, 1, 8, .nilFunc⟩,
  some ⟨.ptr 5, 1, 8, .nilptr⟩,
  some ⟨.int .i32, 1, 4, .int .i32 0⟩,
  some ⟨.int .i32, 1, 4, .int .i32 0⟩,
  some ⟨.struct [(0, 12), (1, 12), (2, 61), (3, 62), (4, 5), (5, 5), (6, 63), (7, 64), (8, 65), (9, 66), (10, 67)], 11, 48, .agg [.int .u64 0, .int .u64 0, .int .u32 0, .int .u8 0, .int .u8 0, .int .u8 0, .int .u8 0, .nilFunc, .nilptr, .int .i32 0, .int .i32 0]⟩,
  some ⟨.struct [(0, 12), (1, 12), (2, 61), (3, 62), (4, 5), (5, 5), (6, 63), (7, 64), (8, 65), (9, 66), (10, 67)], 11, 48, .agg [.int .u64 0, .int .u64 0, .int .u32 0, .int .u8 0, .int .u8 0, .int .u8 0, .int .u8 0, .nilFunc, .nilptr, .int .i32 0, .int .i32 0]⟩,
  none]

def ty : TypeId → Option TyI := nth tys

theorem tyok : TyOk Try.prog ty := tyOk_of (by kernel_rfl)

theorem mixed : Try.prog.follows .mixedOrders = true := by kernel_rfl

end Go.Proofs.Ytmjigepfjcokdaa
