/-
  Plain law: the words of two scripts with a line end between.
-/
import Derived.Test.YtlnhgdiklfaeeaaDoorLx4
namespace Go.Proofs.YtlnhgdiklfaeeaaDoor
open Go.Ab
def upD (d:Nat) (t:TokR):TokR:={t with ln:=t.ln+d}
def mapS {α β:Type} (d:Nat) (f:α→β):(Nat×Nat) ⊕ α→(Nat×Nat) ⊕ β
 |.inl p=>.inl (p.1+d,p.2)
 |.inr x=>.inr (f x)
theorem toksF_shift (n d:Nat):∀ws:List (Nat×List UInt8),toksF (n+d) ws=mapS d (List.map (upD d)) (toksF n ws)
 |[]=>rfl
 |(c,w)::ws=>by
  simp only[toksF]
  cases tokF w with
  |none=>rfl
  |some q=>
   obtain⟨k,v⟩:=q
   simp only[toksF_shift n d ws]
   cases toksF n ws<;>rfl
theorem linesG_shift (d:Nat):∀(ps:List (List UInt8)) (n:Nat),linesG (n+d) ps=mapS d (List.map (List.map (upD d))) (linesG n ps)
 |[],_=>rfl
 |p::ps,n=>by
  have e:n+d+1=n+1+d:=by omega
  simp only[linesG,e,toksF_shift (n+1) d,linesG_shift d ps (n+1)]
  cases toksF (n+1) (wordsF p)with
  |inl q=>rfl
  |inr ts=>
   simp only[mapS]
   cases linesG (n+1) ps with
   |inl q=>rfl
   |inr r=>
    simp only
    by_cases h:ts=[]
    ·subst h;rfl
    ·rw[if_neg h,if_neg (by simpa using h)];rfl
def appS {α:Type} (x y:(Nat×Nat) ⊕ List α):(Nat×Nat) ⊕ List α:=
 match x with
 |.inl p=>.inl p
 |.inr r=>preS r y
theorem linesG_app:∀(ps qs:List (List UInt8)) (n:Nat),linesG n (ps++qs)=appS (linesG n ps) (linesG (n+ps.length) qs)
 |[],qs,n=>by simp only[List.nil_append,linesG,appS,preS_nil];rfl
 |p::ps,qs,n=>by
  have e:n+(p::ps).length=n+1+ps.length:=by simp only[List.length_cons];omega
  simp only[List.cons_append,linesG,linesG_app ps qs (n+1),e]
  cases toksF (n+1) (wordsF p)with
  |inl q=>rfl
  |inr ts=>
   simp only
   cases linesG (n+1) ps with
   |inl q=>rfl
   |inr r=>
    simp only[appS]
    cases linesG (n+1+ps.length) qs with
    |inl q=>rfl
    |inr r2=>
     simp only[preS]
     by_cases h:ts=[]
     ·rw[if_pos h,if_pos h]
     ·rw[if_neg h,if_neg h];rfl
theorem splitC_join (c:UInt8):∀(s t:List UInt8),splitC c (s++c::t)=splitC c s++splitC c t
 |[],t=>by simp[splitC]
 |b::s,t=>by
  have ih:=splitC_join c s t
  have hne:=splitC_ne c s
  simp only[List.cons_append,splitC,ih]
  split
  ·rfl
  ·cases h:splitC c s with
   |nil=>exact absurd h hne
   |cons p ps=>rfl
theorem linesF_join (s t:List UInt8):linesF (s++10::t)=appS (linesF s) (mapS (splitC 10 s).length (List.map (List.map (upD (splitC 10 s).length))) (linesF t)):=by
 unfold linesF
 rw[splitC_join,linesG_app,←linesG_shift,Nat.zero_add]
end Go.Proofs.YtlnhgdiklfaeeaaDoor
