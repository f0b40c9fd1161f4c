/-
  The figures, plainly: what is read out of a table's row.
-/
import Derived.Test.YtcbdfmmiigpddaaDoorSpl
import Derived.Lib.Fields
import Derived.Lib.Replace
import Derived.Lib.SmallJoins
import GoSem.Core.Code
namespace Go.Proofs.YtcbdfmmiigpddaaDoor
open Go.Ab
structure FormR where
 k:Int
 a:Int
 b:Int
 c:Int
 d:Int
 deriving DecidableEq,Inhabited
structure PieceR where
 n:Int
 f:Int
 fs:List FormR
 deriving DecidableEq,Inhabited
structure FigR where
 word:List UInt8
 pts:Int
 nums:Int
 unl:List (Int×Int)
 eqs:List (List PieceR)
 bw:List UInt8
 bp:List Int
 deriving DecidableEq,Inhabited
def lettersF (s:List UInt8):Bool:=s.all fun b=>Nat.ble 65 b.toNat&&Nat.ble b.toNat 90
def ptF (base:Int) (b:UInt8):Int:=if(b.toNat:Int)=80 then 0 else(b.toNat:Int)-65+base
def ptsF (base:Int) (s:List UInt8):List Int:=s.map (ptF base)
def kindsL:List (List UInt8):=[[],[120],[121],[99,114,111,115,115],[100,111,116]]
def idxL (w:List UInt8):List (List UInt8)→Int
 |[]=> -1
 |x::l=>if w=x then 0 else if idxL w l<0 then -1 else idxL w l+1
def formF (base:Int) (s:List UInt8):Option (FormR×List UInt8):=
 match Lib.cut s [40]with
 |(word,rest,_)=>match Lib.cut rest [41]with
  |(inner,behind,_)=>match lettersF (Lib.replaceAll inner [44] [])&&decide (0≤idxL word kindsL)with
   |false=>none
   |true=>match ptsF base (Lib.replaceAll inner [44] [])with
    |[a,b]=>some (⟨idxL word kindsL,a,b,0,0⟩,behind)
    |[a,b,c,d]=>some (⟨idxL word kindsL,a,b,c,d⟩,behind)
    |_=>none
def hasF (p s:List UInt8):Option (List UInt8):=match Lib.hasPrefix s p with
 |true=>some (Lib.trimPrefix s p)
 |false=>none
def facsF (base:Int):Nat→List UInt8→Option (List FormR×List UInt8)
 |0,_=>none
 |n+1,s=>match hasF [42] s with
  |none=>some ([],s)
  |some s1=>match formF base s1 with
   |none=>none
   |some (f,s2)=>match facsF base n s2 with
    |none=>none
    |some (l,s3)=>some (f::l,s3)
def signF (s:List UInt8):Int×List UInt8:=match hasF [45] s with
 |some t=>(-1,t)
 |none=>(1,s)
def plusF (s:List UInt8):List UInt8:=match hasF [43] s with
 |some t=>t
 |none=>s
def byF (s:List UInt8):Int×Int×List UInt8:=match hasF [50,42] s with
 |some t=>(2,0,t)
 |none=>match hasF [109,42] s with
  |some t=>(1,1,t)
  |none=>match hasF [110,42] s with
   |some t=>(1,2,t)
   |none=>(1,0,s)
def pieceF (base:Int) (n:Nat) (s:List UInt8):Option (PieceR×List UInt8):=
 match signF s with
 |(g,s1)=>match byF (plusF s1)with
  |(m,f,s2)=>match formF base s2 with
   |none=>none
   |some (x,s3)=>match facsF base n s3 with
    |none=>none
    |some (l,s4)=>some (⟨g*m,f,x::l⟩,s4)
def sumF (base:Int) (n:Nat):Nat→List UInt8→Option (List PieceR)
 |0,_=>none
 |k+1,s=>match s.isEmpty with
  |true=>some []
  |false=>match pieceF base n s with
   |none=>none
   |some (p,s1)=>match sumF base n k s1 with
    |none=>none
    |some l=>some (p::l)
def allO {α β:Type} (f:α→Option β):List α→Option (List β)
 |[]=>some []
 |x::l=>match f x with
  |none=>none
  |some y=>match allO f l with
   |none=>none
   |some ys=>some (y::ys)
def eqsF (base:Int) (s:List UInt8):Option (List (List PieceR)):=allO (sumF base 9 9) (splitC 59 s)
def pairF (s:List UInt8):Option (Int×Int):=match lettersF s with
 |false=>none
 |true=>match ptsF 0 s with
  |a::b::_=>some (a,b)
  |_=>none
def digF (s:List UInt8):Option Int:=match s with
 |[]=>none
 |b::_=>match Nat.ble 48 b.toNat with
  |true=>some ((b.toNat:Int)-48)
  |false=>none
def asciiB (s:List UInt8):Bool:=s.all fun b=>Nat.ble b.toNat 127
def builtF (s:List UInt8):Option (List UInt8×List Int):=match Lib.cut s [32]with
 |(w,l,ok)=>match ok with
  |false=>some ([],[])
  |true=>match lettersF l with
   |false=>none
   |true=>some (w,ptsF 1 l)
def conR (l:List (List UInt8)):Option FigR:=
 match l with
 |[_,p,n,u,e,b]=>match digF p with
  |none=>none
  |some p=>match digF n with
   |none=>none
   |some n=>match asciiB u with
    |false=>none
    |true=>match allO pairF (Lib.fields u)with
     |none=>none
     |some u=>match eqsF 1 e with
      |none=>none
      |some e=>match builtF b with
       |none=>none
       |some (x,y)=>some ⟨[],p,n,u,e,x,y⟩
 |_=>none
def preR (l:List (List UInt8)):Option FigR:=
 match l with
 |[_,p,e]=>match digF p with
  |none=>none
  |some p=>match eqsF 0 e with
   |none=>none
   |some e=>some ⟨[],p,0,[],e,[],[]⟩
 |_=>none
def rowsF (t:List UInt8):List (List (List UInt8)):=(splitC 10 t).map fun l=>Lib.split l [124]
def rowG (w:List UInt8):List (List (List UInt8))→Option (List (List UInt8))
 |[]=>none
 |l::r=>if l.getD 0 []=w then some l else rowG w r
def rowF (t w:List UInt8):Option (List (List UInt8)):=rowG w (rowsF t)
theorem rowG_mem {w:List UInt8}:∀{r:List (List (List UInt8))} {l:List (List UInt8)},rowG w r=some l→l∈r
 |[],l,h=>by simp[rowG]at h
 |x::r,l,h=>by
  simp only[rowG]at h
  split at h
  ·cases h
   exact List.mem_cons_self ..
  ·exact List.mem_cons_of_mem _ (rowG_mem h)
def strArg:List Operand→Option (List UInt8)
 |[]=>none
 |.const (.string b)::_=>some b.data.toList
 |_::l=>strArg l
def opsArg:List Oper→Option (List UInt8)
 |[]=>none
 |o::l=>match o.op with
  |.call c=>match strArg c.args.toList with
   |some s=>some s
   |none=>opsArg l
  |_=>opsArg l
def codeArg:Code→Option (List UInt8)
 |.region _ ops _=>opsArg ops.toList
 |.seq a b=>match codeArg a with
  |some s=>some s
  |none=>codeArg b
 |.cond _ a b=>match codeArg a with
  |some s=>some s
  |none=>codeArg b
 |.block _ b=>codeArg b
 |.loop b=>codeArg b
 |.scope b=>codeArg b
 |_=>none
end Go.Proofs.YtcbdfmmiigpddaaDoor
