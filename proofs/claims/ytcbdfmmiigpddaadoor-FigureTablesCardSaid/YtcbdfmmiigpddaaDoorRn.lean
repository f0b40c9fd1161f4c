/-
  A string's iterator at a byte below 128, and at another one.
-/
import Derived.Test.YtcbdfmmiigpddaaDoorAbB
import Derived.Laws.RangeAny
import Derived.Laws.RangeString
namespace Go.Ab
theorem size_mk (s:List UInt8):(ByteArray.mk s.toArray).size=s.length:=by simp[ByteArray.size]
theorem get_mk {s:List UInt8} {i:Nat} (h:i<s.length) (h':i<(ByteArray.mk s.toArray).size):(ByteArray.mk s.toArray)[i]'h'=s.getD i 0:=by
 simp[List.getD,h]
 rfl
theorem nextV_ascii {s:List UInt8} {i:Nat} (h:i<s.length) (ha:(s.getD i 0).toNat<128):nextV s i=.tuple [.bool true,.int .i64 i,.int .i32 (s.getD i 0).toNat]∧nextI s i=i+1:=by
 have h':i<(ByteArray.mk s.toArray).size:=by rw[size_mk];exact h
 have:=decode_ascii ⟨s.toArray⟩ i h' (by rw[get_mk h h'];exact ha)
 rw[get_mk h h']at this
 rw[nextV,nextI,if_pos h,if_pos h,this]
 exact⟨rfl,rfl⟩
theorem nextV_high {s:List UInt8} {i:Nat} (h:i<s.length) (ha:128≤(s.getD i 0).toNat):∃c k:Nat,128≤c∧nextV s i=.tuple [.bool true,.int .i64 i,.int .i32 c]∧nextI s i=k:=by
 have h':i<(ByteArray.mk s.toArray).size:=by rw[size_mk];exact h
 have:=decode_high ⟨s.toArray⟩ i h' (by rw[get_mk h h'];exact ha)
 exact⟨_,_,this.1,by rw[nextV,if_pos h],rfl⟩
theorem nextV_end {s:List UInt8} {i:Nat} (h:¬i<s.length):nextV s i=.tuple [.bool false]∧nextI s i=i:=by
 rw[nextV,nextI,if_neg h,if_neg h]
 exact⟨rfl,rfl⟩
end Go.Ab
