/-
  Plain law of CheckerSound: the value of a polynomial at a point; products that are done, sums; what holds keeps noughts.
-/
import Derived.Test.YtamgilppehibeaaGreatDoorKd0
namespace Go.Proofs.YtamgilppehibeaaGreatDoor
open Go.Ab
def mvZ (ρ:Int→Rat):List Pw→Rat
 |[]=>1
 |p::m=>ρ p.1^p.2.toNat*mvZ ρ m
def evZ (ρ:Int→Rat):PZ→Rat
 |[]=>0
 |t::p=>(t.1:Rat)*mvZ ρ t.2+evZ ρ p
section
variable {ρ:Int→Rat}
theorem mv_app:∀(a b:List Pw),mvZ ρ (a++b)=mvZ ρ a*mvZ ρ b
 |[],b=>(Rat.one_mul _).symm
 |p::a,b=>by rw[List.cons_append,mvZ,mvZ,mv_app a b,Rat.mul_assoc]
theorem ev_app:∀(a b:PZ),evZ ρ (a++b)=evZ ρ a+evZ ρ b
 |[],b=>(Rat.zero_add _).symm
 |p::a,b=>by rw[List.cons_append,evZ,evZ,ev_app a b,Rat.add_assoc]
def CanL (l:List PZ):Prop:=∀p∈l,Canon p
def Nul (ρ:Int→Rat) (l:List PZ):Prop:=∀p∈l,evZ ρ p=0
end
end Go.Proofs.YtamgilppehibeaaGreatDoor
