/-
  Package value: At, Sign in one word; noughts.
-/
import Derived.Test.YtkbdklmdcbmgkaaGreatVl1
set_option maxRecDepth 100000
set_option maxHeartbeats 3200000
namespace Go.Proofs.YtkbdklmdcbmgkaaGreat
open Go.Ab
def atE (p:List TermR) (pt:List RatR):Int:=if mayP p=false then 2 else if classP p>pt.length then 5 else 0
def atR (p:List TermR) (pt:List RatR):RatR:=if atE p pt=0 then ratC (evZ (rhoR pt) (pz p)) else rat0
structure OkV (p:List TermR) (pt:List RatR):Prop where
 ok:PolyOk 1000000 p
 bd:∃C M E L,BdV C M E p∧E<300∧(∀x∈pt,RatOk (L+1) x)∧1+p.length*(C+3+M*(1+(L+1)*E))≤1000000∧C+3+M*(1+(L+1)*E)≤1000000∧1+(L+1)*E≤1000000
 pt:pt.length≤1000
theorem at_c {p:List TermR} {pt:List RatR} (h:OkV p pt):PCalls Tryz.prog 23 [polyV p,ratsV pt] (.tuple [.agg (ratEs (atR p pt)),.int .i64 (atE p pt)])∧RatOk 1000000 (atR p pt):=by
 have h0:RatOk 1000000 rat0:=⟨⟨fun _ h=>absurd h List.not_mem_nil,Nat.zero_le _⟩,⟨fun _ h=>absurd h List.not_mem_nil,Nat.zero_le _⟩⟩
 unfold atR atE
 cases hm:mayP p with
 |false=>exact⟨vat_arg p pt h.ok hm,h0⟩
 |true=>
  by_cases hc:classP p>pt.length
  ·simp only[hc,if_true]
   exact⟨vat_none p pt h.ok hm hc,h0⟩
  ·obtain⟨C,M,E,L,h1,h2,h3,h4,h5,h6⟩:=h.bd
   simp only[hc,if_false]
   refine⟨vat_c p pt C M E L h.ok h1 h2 h3 h.pt hm (by omega) h4 h5 h6,ratC_ok1 (k:=1+p.length*(C+3+M*(1+(L+1)*E))) ?_ h4⟩
   have:=qok_sum h1 (rho_ok h3) p.length (Nat.le_refl _)
   rw[List.take_length]at this
   exact this
def sgE (p:List TermR) (pt:List RatR):Int:=if atE p pt=0 then signQ (evZ (rhoR pt) (pz p)) else 0
theorem cbVSign:Callable Tryz.prog 9:=fun _ _=>by kernel_rfl
theorem vsign_c {p:List TermR} {pt:List RatR} (h:OkV p pt):PCalls Tryz.prog 9 [polyV p,ratsV pt] (.tuple [.int .i64 (sgE p pt),.int .i64 (atE p pt)]):=by
 refine pcalls_of_awp tyok cbVSign Tryz.func9 rfl rfl ?_
 obtain⟨g1,ho⟩:=at_c h
 have g2:=ratSign_c (atR p pt) (ho.mono' (by decide))
 unfold sgE
 by_cases he:atE p pt=0
 ·rw[if_pos he]
  have e:(atR p pt).q=evZ (rhoR pt) (pz p):=by
   unfold atR
   rw[if_pos he,ratC_q]
  rw[e]at g2
  ((repeat(first|refine wDB ?_|refine awp_seq_k fun K hK=>?_|refine wC g1 ?_|refine wC g2 ?_|(refine wH ?_;clear hK)));refine wN fun b6=>?_;(repeat(first|refine wDB ?_|refine awp_seq_k fun K hK=>?_|refine wN fun bx=>?_|refine wC g1 ?_|refine wC g2 ?_|(refine wH ?_;clear hK))))
  refine r2 ?_ ?_
  ·exact Sub.refl _
  ·rw[he]
   exact Sub.refl _
 ·rw[if_neg he]
  ((repeat(first|refine wDB ?_|refine awp_seq_k fun K hK=>?_|refine wC g1 ?_|(refine wH ?_;clear hK)));refine wN fun b6=>?_;(repeat(first|refine wDB ?_|refine awp_seq_k fun K hK=>?_|refine wN fun bx=>?_|refine wC g1 ?_|(refine wH ?_;clear hK))))
  refine r2 ?_ ?_
  ·exact Sub.refl _
  ·exact Sub.refl _
theorem signQ_zero {q:Rat}:signQ q=0↔q=0:=by
 unfold signQ signZ
 rw[←Rat.num_eq_zero]
 by_cases h:q.num=0
 ·simp[h]
 ·rw[if_neg h]
  by_cases h2:q.num<0
  ·simp[h,h2]
  ·simp[h,h2]
structure RawQ (y:RatR):Prop where
 nl:∀z∈y.n.mag,z<B32
 nn:y.n.mag.length≤1000000000000000
 dl:∀z∈y.d.mag,z<B32
 dn:y.d.mag.length≤1000000000000000
end Go.Proofs.YtkbdklmdcbmgkaaGreat
