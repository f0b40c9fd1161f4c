/-
  A text's pieces between one byte (splitC): a plain law.
-/
import Derived.Lib.Bytealg
namespace Go.Ab
open Go.Lib
def splitC (c:UInt8):List UInt8→List (List UInt8)
 |[]=>[[]]
 |b::l=>if b=c then []::splitC c l else match splitC c l with
  |[]=>[[b]]
  |p::ps=>(b::p)::ps
theorem splitC_ne (c:UInt8) (l:List UInt8):splitC c l≠[]:=by
 cases l with
 |nil=>simp[splitC]
 |cons b l=>
  simp only[splitC]
  split
  ·simp
  ·split<;>simp
theorem indexByte_cons (b:UInt8) (l:List UInt8) (c:UInt8):indexByte (b::l) c=if b==c then 0 else if indexByte l c== -1 then -1 else indexByte l c+1:=rfl
theorem splitC_none (c:UInt8):∀(l:List UInt8),indexByte l c<0→splitC c l=[l]
 |[],_=>rfl
 |b::l,h=>by
  rw[indexByte_cons]at h
  split at h
  ·omega
  ·rename_i hb
   have hbc:b≠c:=by simpa using hb
   split at h
   ·rename_i h1
    have h1':indexByte l c= -1:=by simpa using h1
    have:=splitC_none c l (by omega)
    simp[splitC,hbc,this]
   ·have:=indexByte_ge l c
    omega
theorem splitC_some (c:UInt8):∀(l:List UInt8),0≤indexByte l c→∃i:Nat,indexByte l c=i∧i<l.length∧l[i]?=some c∧splitC c l=l.take i::splitC c (l.drop (i+1))
 |[],h=>by simp[indexByte]at h
 |b::l,h=>by
  rw[indexByte_cons]at h ⊢
  split
  ·rename_i hb
   have hbc:b=c:=by simpa using hb
   exact⟨0,rfl,by simp,by simp[hbc],by simp[splitC,hbc]⟩
  ·rename_i hb
   have hbc:b≠c:=by simpa using hb
   rw[if_neg hb]at h
   split
   ·rename_i h1
    rw[if_pos h1]at h
    omega
   ·rename_i h1
    have h1':indexByte l c≠ -1:=by simpa using h1
    have hge:=indexByte_ge l c
    obtain⟨i,e1,e2,e3,e4⟩:=splitC_some c l (by omega)
    refine⟨i+1,by rw[e1];simp,by simpa using e2,by simpa using e3,?_⟩
    simp[splitC,hbc,e4]
end Go.Ab
