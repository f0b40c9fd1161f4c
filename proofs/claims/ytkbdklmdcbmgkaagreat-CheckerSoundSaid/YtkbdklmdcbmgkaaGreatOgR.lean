/-
  Rational numbers that are handed in, read as data.
-/
import Derived.Test.YtkbdklmdcbmgkaaGreatOg
import Derived.Test.YtkbdklmdcbmgkaaGreatVl2
set_option maxRecDepth 100000
namespace Go.Proofs.YtkbdklmdcbmgkaaGreat
open Go.Ab Go.ChangeShapes Go.WideShapes Go.ChangeAt Go.RowKit Go.Deep
section
variable {H:Type} {enc:TypeId×Value→H} {W:World}
theorem cRatR:Tryz.prog.cellsOf 39=4:=by kernel_rfl
theorem bRatR:Tryz.prog.bytesOf 39=64:=by kernel_rfl
theorem open_ratr {fuel:Nat} {cs:List Value} {x:DataW H×List MemPlace} (h:DataW.trod enc Tryz.prog W 0 (fun _=>true) true fuel 39 cs=some x) (hw:∀m∈x.1.weights Tryz.prog 39,m≤reachBytes):∃y:RatR,RepL (stOf W) W (ratEs y) cs∧RawQ y:=by
 obtain⟨xs,n,rfl,rfl,hl,hx,hf⟩:=DataW.trod_struct Tryz.underlying39 h
 rw[cRatR]at hl
 match cs,hl with
 |[c0,c1,c2,c3],_=>
 have hx2:xs.length=2:=hx
 clear hx
 match xs,hx2 with
 |[x0,x1],_=>
 have f0:DataW.trod enc Tryz.prog W 0 (fun _=>true) true n 37 (([c0,c1,c2,c3].drop 0).take (Tryz.prog.cellsOf 37))=some x0:=hf 0 _ rfl
 rw[cIntR]at f0
 have f1:DataW.trod enc Tryz.prog W 0 (fun _=>true) true n 37 (([c0,c1,c2,c3].drop 2).take (Tryz.prog.cellsOf 37))=some x1:=hf 1 _ rfl
 rw[cIntR]at f1
 rw[weightsA Tryz.underlying39]at hw
 have hw':∀m∈DataW.weightsEach Tryz.prog [37,37] [x0.1,x1.1],m≤reachBytes:=hw
 simp only[DataW.weightsEach]at hw'
 obtain⟨v0,r0,q0⟩:=open_intr f0 (fun m hm=>hw' m (List.mem_append.2 (.inl hm)))
 obtain⟨v1,r1,q1⟩:=open_intr f1 (fun m hm=>hw' m (List.mem_append.2 (.inr (List.mem_append.2 (.inl hm)))))
 exact⟨⟨v0,v1⟩,RepL.append r0 r1,⟨q0.1,q0.2,q1.1,q1.2⟩⟩
theorem open_rats {fuel:Nat} {v:Value} {x:DataW H×List MemPlace} (h:DataW.trod enc Tryz.prog W 0 (fun _=>true) true fuel 34 [v]=some x) (hw:∀m∈x.1.weights Tryz.prog 34,m≤reachBytes):∃l:List RatR,Rep (stOf W) W (Ab.sl ratEs 4 l .view) v∧(∀y∈l,RawQ y)∧l.length*64≤reachBytes:=
 openSl (Q:=fun y=>RawQ y) Tryz.underlying34 cRatR bRatR (by decide) (fun _=>rfl) (fun _=>rfl) (fun _ _ _ h hw=>open_ratr h hw) h hw
end
end Go.Proofs.YtkbdklmdcbmgkaaGreat
