/-
  The document's word (porismref19): it is the lexer's.
-/
import Derived.Test.YtlnhgdiklfaeeaaDoorLx2
import Derived.Test.YtlnhgdiklfaeeaaDoorNm
import Derived.Test.YtlnhgdiklfaeeaaDoorAbB
namespace Go.Proofs.YtlnhgdiklfaeeaaDoor
open Go.Ab
def numV (w:List UInt8):AV:=match refNum w with
 |some v=>.tuple [.int .i64 v,.bool true]
 |none=>.tuple [.int .i64 0,.bool false]
theorem digit_bool (b:UInt8):(decide (((b.toNat:Nat):Int)≥48)&&decide (((b.toNat:Nat):Int)≤57))=(Lib.digitVal b).isSome:=by
 unfold Lib.digitVal
 rw[Bool.eq_iff_iff]
 simp only[Bool.and_eq_true,decide_eq_true_eq]
 split<;>simp<;>omega
theorem decFrom_step {d:List UInt8} {i:Nat} (hi:i<d.length) {n:Nat} (h:Lib.decFrom 0 (d.take i)=some n):Lib.decFrom 0 (d.take (i+1))=match Lib.digitVal (d.getD i 0)with
  |some x=>some (n*10+x)
  |none=>none:=by
 rw[List.take_succ_eq_append_getElem hi,decFrom_append,h,show d[i]=d.getD i 0 by simp[List.getD,hi]]
 cases Lib.digitVal (d.getD i 0)<;>rfl
theorem decFrom_none {d:List UInt8} {i:Nat} (hi:i<d.length) (h:Lib.digitVal (d.getD i 0)=none):Lib.decFrom 0 d=none:=by
 cases hd:Lib.decFrom 0 d with
 |none=>rfl
 |some n=>
  obtain⟨x,hx⟩:=Lib.digit_of_decFrom d 0 n hd i (d.getD i 0) (by simp[List.getD,hi])
  rw[h]at hx
  cases hx
def capB (c:Int):Bool:=decide (c≥65)&&decide (c≤90)
def nmB (c:Int):Bool:=((decide (c≥97)&&decide (c≤122)) || (decide (c≥65)&&decide (c≤90))) || (decide (c≥48)&&decide (c≤57))
theorem take_all {s:List UInt8} {i:Nat} (h:i<s.length) (p:UInt8→Bool):(s.take (i+1)).all p=((s.take i).all p&&p (s.getD i 0)):=by
 rw[List.take_succ_eq_append_getElem h,List.all_append]
 simp[List.getD,h]
theorem letters_eq (s:List UInt8):((decide ((s.length:Int)>0)&&decide ((s.length:Int)≤16))&&s.all fun b=>smallR b.toNat)=allF smallR s 1 16:=by
 unfold allF
 exact Bool.and_comm _ _
theorem names_eq (s:List UInt8):(((decide ((s.length:Int)>0)&&decide ((s.length:Int)≤8))&&capB (s.getD 0 0).toNat)&&s.all fun b=>namedR b.toNat)=kind3 s:=by
 unfold kind3 allF capB
 have h:decide ((s.length:Int)>0)=decide ((s.length:Int)≥1):=by
  rw[Bool.eq_iff_iff]
  simp only[decide_eq_true_eq]
  omega
 rw[h]
 cases decide ((s.length:Int)≥1)<;>cases decide ((s.length:Int)≤8)<;>cases decide (((s.getD 0 0).toNat:Int)≥65)<;>cases decide (((s.getD 0 0).toNat:Int)≤90)<;>simp
theorem tokF_eq (w:List UInt8):tokF w=if w==[61] then some (4,0) else if allF smallR w 1 16 then some (2,0) else if kind3 w then some (1,0) else(refNum w).map fun v=>(3,v):=by
 unfold tokF
 rw[←tokNum]
 cases Lib.atoiAll w with
 |ok v=>
  simp only
  by_cases hc:((!(Lib.itoa v==w) || decide (v>1000000)) || decide (v< -1000000))=true
  ·rw[if_pos hc,if_pos hc];rfl
  ·rw[if_neg hc,if_neg hc];rfl
 |_=>rfl
end Go.Proofs.YtlnhgdiklfaeeaaDoor
