/-
  A string's iterator at a byte below 128, and at another one.
-/
import Derived.Test.YtamgilppehibeaaGreatDoorAbB
import Derived.Laws.RangeAny
import Derived.Laws.RangeString
import Derived.Test.YtamgilppehibeaaGreatDoorLb
import Derived.Lib.TrimUEq
import Derived.Lib.SpaceUEq
import Derived.Lib.MapLaws
import Derived.Shelf.Strings.IndexAnyAll
import Derived.Laws.Rows
import Derived.Shelf.Strings.SlTrimAscii
set_option maxRecDepth 100000
set_option maxHeartbeats 3200000
namespace Go.Ab
theorem size_mk (s:List UInt8):(ByteArray.mk s.toArray).size=s.length:=by simp[ByteArray.size]
theorem get_mk {s:List UInt8} {i:Nat} (h:i<s.length) (h':i<(ByteArray.mk s.toArray).size):(ByteArray.mk s.toArray)[i]'h'=s.getD i 0:=by
 simp[List.getD,h]
 rfl
theorem nextV_ascii {s:List UInt8} {i:Nat} (h:i<s.length) (ha:(s.getD i 0).toNat<128):nextV s i=.tuple [.bool true,.int .i64 i,.int .i32 (s.getD i 0).toNat]∧nextI s i=i+1:=by
 have h':i<(ByteArray.mk s.toArray).size:=by rw[size_mk];exact h
 have:=decode_ascii ⟨s.toArray⟩ i h' (by rw[get_mk h h'];exact ha)
 rw[get_mk h h']at this
 rw[nextV,nextI,if_pos h,if_pos h,this]
 exact⟨rfl,rfl⟩
theorem nextV_end {s:List UInt8} {i:Nat} (h:¬i<s.length):nextV s i=.tuple [.bool false]∧nextI s i=i:=by
 rw[nextV,nextI,if_neg h,if_neg h]
 exact⟨rfl,rfl⟩
end Go.Ab
namespace Go.Proofs.YtamgilppehibeaaGreatDoor
open Go.Ab Go.RowKit
theorem encode_high (c:Int) (h:128≤c):2≤(Utf8.encode c).data.toList.length∧∀b∈(Utf8.encode c).data.toList,128≤b.toNat:=by
 have hb:∀n:Nat,n<256→(UInt8.ofNat n).toNat=n:=fun n hn=>by simp[Nat.mod_eq_of_lt hn]
 unfold Utf8.encode
 simp only
 have hc:128≤(if Utf8.valid c then c.toNat else Utf8.runeError)∧(if Utf8.valid c then c.toNat else Utf8.runeError)≤1114111:=by
  split
  ·rename_i hv
   simp only[Utf8.valid,Bool.or_eq_true,Bool.and_eq_true,decide_eq_true_eq]at hv
   omega
  ·simp[Utf8.runeError]
 generalize (if Utf8.valid c then c.toNat else Utf8.runeError)=k at hc
 rw[if_neg (by omega)]
 split
 ·refine⟨by simp,fun b hm=>?_⟩
  simp only[List.mem_cons,List.mem_nil_iff,or_false]at hm
  rcases hm with rfl|rfl
  all_goals (rw[hb _ (by omega)];omega)
 ·split
  ·refine⟨by simp,fun b hm=>?_⟩
   simp only[List.mem_cons,List.mem_nil_iff,or_false]at hm
   rcases hm with rfl|rfl|rfl
   all_goals (rw[hb _ (by omega)];omega)
  ·refine⟨by simp,fun b hm=>?_⟩
   simp only[List.mem_cons,List.mem_nil_iff,or_false]at hm
   rcases hm with rfl|rfl|rfl|rfl
   all_goals (rw[hb _ (by omega)];omega)
theorem encode_len (c:Int):(Utf8.encode c).data.toList.length≤4:=by
 unfold Utf8.encode
 simp only
 generalize (if Utf8.valid c then c.toNat else Utf8.runeError)=k
 split
 ·simp
 ·split
  ·simp
  ·split<;>simp
theorem dec_high {l:List UInt8} {i:Nat} (hi:i<l.length) (h:¬(l.getD i 0).toNat<128):
  128≤(Utf8.decode ⟨l.toArray⟩ i).1∧(Utf8.decode ⟨l.toArray⟩ i).1≤1114111∧1≤(Utf8.decode ⟨l.toArray⟩ i).2∧i+(Utf8.decode ⟨l.toArray⟩ i).2≤l.length∧∀j,i≤j→j<i+(Utf8.decode ⟨l.toArray⟩ i).2→128≤(l.getD j 0).toNat:=by
 have hle:=Lib.rune_le ⟨l.toArray⟩ i
 have hw:=Lib.width_pos ⟨l.toArray⟩ i
 rw[Lib.decode_N]at hle hw ⊢
 change (Lib.decodeN (l.length-i) (l.getD i 0).toNat (l.getD (i+1) 0).toNat (l.getD (i+2) 0).toNat (l.getD (i+3) 0).toNat).1≤_ at hle
 change 1≤(Lib.decodeN (l.length-i) (l.getD i 0).toNat (l.getD (i+1) 0).toNat (l.getD (i+2) 0).toNat (l.getD (i+3) 0).toNat).2 at hw
 show 128≤(Lib.decodeN (l.length-i) (l.getD i 0).toNat (l.getD (i+1) 0).toNat (l.getD (i+2) 0).toNat (l.getD (i+3) 0).toNat).1∧(Lib.decodeN (l.length-i) (l.getD i 0).toNat (l.getD (i+1) 0).toNat (l.getD (i+2) 0).toNat (l.getD (i+3) 0).toNat).1≤_∧_≤(Lib.decodeN (l.length-i) (l.getD i 0).toNat (l.getD (i+1) 0).toNat (l.getD (i+2) 0).toNat (l.getD (i+3) 0).toNat).2∧i+(Lib.decodeN (l.length-i) (l.getD i 0).toNat (l.getD (i+1) 0).toNat (l.getD (i+2) 0).toNat (l.getD (i+3) 0).toNat).2≤_∧∀j,i≤j→j<i+(Lib.decodeN (l.length-i) (l.getD i 0).toNat (l.getD (i+1) 0).toNat (l.getD (i+2) 0).toNat (l.getD (i+3) 0).toNat).2→_
 have hs:=Lib.decodeN_shape (l.length-i) (l.getD i 0).toNat (l.getD (i+1) 0).toNat (l.getD (i+2) 0).toNat (l.getD (i+3) 0).toNat
 have hj:∀(w:Nat),(2≤w→(l.getD (i+1) 0).toNat/64=2)→(3≤w→(l.getD (i+2) 0).toNat/64=2)→(4≤w→(l.getD (i+3) 0).toNat/64=2)→w≤4→∀j,i≤j→j<i+w→128≤(l.getD j 0).toNat:=by
  intro w a1 a2 a3 a4 j j1 j2
  rcases(by omega:j=i∨j=i+1∨j=i+2∨j=i+3)with rfl|rfl|rfl|rfl
  ·omega
  ·have:=a1 (by omega);omega
  ·have:=a2 (by omega);omega
  ·have:=a3 (by omega);omega
 obtain⟨c1,c2,c3,c4⟩:=Lib.decodeN_conts (l.length-i) (l.getD i 0).toNat (l.getD (i+1) 0).toNat (l.getD (i+2) 0).toNat (l.getD (i+3) 0).toNat
 refine⟨?_,hle,hw,?_,hj _ (fun h=>(c1 h).1) (fun h=>(c2 h).1) (fun h=>(c3 h).1) c4⟩
 ·rcases hs with⟨x,_⟩|⟨_,_,_,x,e⟩|⟨_,_,_,_,x,_,e⟩|⟨_,_,_,_,_,x,_,e⟩|e
  ·exact absurd x h
  ·rw[e];exact x
  ·rw[e];simp only;omega
  ·rw[e];simp only;omega
  ·rw[e];simp
 ·rcases hs with⟨x,_⟩|⟨_,_,_,x,e⟩|⟨_,_,_,_,x,_,e⟩|⟨_,_,_,_,_,x,_,e⟩|e
  ·exact absurd x h
  ·rw[e];simp only;omega
  ·rw[e];simp only;omega
  ·rw[e];simp only;omega
  ·rw[e];simp only;omega
section
variable {P:Program} {ty:TypeId→Option TyI} {N:Nat} {l0:List Oper} {LD:LDs} {W:Bool} {l:List (Nat×Oper)} {n:Nat} {T:Tmps} {H:AHeap} {Q:APost} {o:Oper}
theorem qcat {p:Prop} {v:AV} {d:Nat} (k:TR P N ty l0 LD W Q l ((d,v)::T) H) (hg:o.guard=none:=by exact rfl) (hd:o.dst=some d:=by exact rfl) (hN:Nat.ble (d+1) N=true:=by exact rfl)
  (hv:aeval ty (opvL (tmpsOf o.op) T) o.op=some (p,v):=by exact rfl) (ho:optN True T (tmpsOf o.op):=by(first|exact True.intro|exact⟨id,True.intro⟩|exact⟨id,id,True.intro⟩|exact⟨id,id,id,True.intro⟩)) (hp:p:=by first|(simp;done)|(simp;omega)):TR P N ty l0 LD W Q ((n,o)::l) T H:=
 TR.pure p v d hg hd hN hv ho hp k
theorem qself {p:Prop} {α:Type} [BEq α] [ReflBEq α] {a:α} {d:Nat} (k:TR P N ty l0 LD W Q l ((d,.bool true)::T) H) (hg:o.guard=none:=by exact rfl) (hd:o.dst=some d:=by exact rfl) (hN:Nat.ble (d+1) N=true:=by exact rfl)
  (hv:aeval ty (opvL (tmpsOf o.op) T) o.op=some (p,.bool (a==a)):=by exact rfl) (ho:optN True T (tmpsOf o.op):=by(first|exact True.intro|exact⟨id,True.intro⟩|exact⟨id,id,True.intro⟩|exact⟨id,id,id,True.intro⟩)) (hp:p:=by(first|exact True.intro|assumption|omega|(simp only[List.length_cons,List.length_nil];omega)|(simp only[inK];omega)|exact fun _=>True.intro|(intro _;omega)|(intro h1 h2;rw[h1,h2];rfl)|(intro h1 h2;simp only[h1,h2];done)|(intro h1 h2;simp[h1,h2];done)|(intro _;simp only[inK];omega)|(intro hx;simp only[Bool.and_eq_true,Bool.or_eq_false_iff,Bool.and_eq_false_imp,Bool.or_eq_true,decide_eq_true_eq,decide_eq_false_iff_not,bne_iff_ne,beq_iff_eq,bne_eq_false_iff_eq,beq_eq_false_iff_ne,ne_eq,Bool.not_eq_true',Bool.not_eq_false']at hx;(try simp only[inK]);omega)|exact id|decide|(intro _;decide))):TR P N ty l0 LD W Q ((n,o)::l) T H:=
 TR.pureB true hg hd hN hv ho (beq_self_eq_true a) hp k
theorem qnself {p:Prop} {α:Type} [BEq α] [ReflBEq α] {a:α} {d:Nat} (k:TR P N ty l0 LD W Q l ((d,.bool false)::T) H) (hg:o.guard=none:=by exact rfl) (hd:o.dst=some d:=by exact rfl) (hN:Nat.ble (d+1) N=true:=by exact rfl)
  (hv:aeval ty (opvL (tmpsOf o.op) T) o.op=some (p,.bool (!(a==a))):=by exact rfl) (ho:optN True T (tmpsOf o.op):=by(first|exact True.intro|exact⟨id,True.intro⟩|exact⟨id,id,True.intro⟩|exact⟨id,id,id,True.intro⟩)) (hp:p:=by(first|exact True.intro|assumption|omega|(simp only[List.length_cons,List.length_nil];omega)|(simp only[inK];omega)|exact fun _=>True.intro|(intro _;omega)|(intro h1 h2;rw[h1,h2];rfl)|(intro h1 h2;simp only[h1,h2];done)|(intro h1 h2;simp[h1,h2];done)|(intro _;simp only[inK];omega)|(intro hx;simp only[Bool.and_eq_true,Bool.or_eq_false_iff,Bool.and_eq_false_imp,Bool.or_eq_true,decide_eq_true_eq,decide_eq_false_iff_not,bne_iff_ne,beq_iff_eq,bne_eq_false_iff_eq,beq_eq_false_iff_ne,ne_eq,Bool.not_eq_true',Bool.not_eq_false']at hx;(try simp only[inK]);omega)|exact id|decide|(intro _;decide))):TR P N ty l0 LD W Q ((n,o)::l) T H:=
 TR.pureB false hg hd hN hv ho (by rw[beq_self_eq_true];rfl) hp k
theorem qrstr (hty:TyOk P ty) {ts td:TypeId} {x:Operand} {is id:TyI} {k:IntKind} {kx:IntKind} {m:Int} {d:Nat} (hk:TR P N ty l0 LD W Q l ((d,.str (Utf8.encode m).data.toList)::T) H) (hg:o.guard=none:=by exact rfl)
  (ho:o.op=.convert ts td x:=by exact rfl) (hd:o.dst=some d:=by exact rfl) (hN:Nat.ble (d+1) N=true:=by exact rfl) (hon:optN True T (tmpsOf o.op):=by(first|exact True.intro|exact⟨id,True.intro⟩|exact⟨id,id,True.intro⟩|exact⟨id,id,id,True.intro⟩))
  (hs:ty ts=some is:=by exact rfl) (hsk:is.k=.int k:=by exact rfl) (ht:ty td=some id:=by exact rfl) (htk:id.k=.str:=by exact rfl)
  (hx:opvL (tmpsOf o.op) T x=some (.int kx m):=by exact rfl):TR P N ty l0 LD W Q ((n,o)::l) T H:=by
 refine TR.sem _ _ hg hd hN hon (fun st w ρ hF=>?_) hk
 obtain⟨⟨ds,hds,hks⟩,-⟩:=hty ts is hs
 obtain⟨⟨dd,hdd,hkd⟩,-⟩:=hty td id ht
 rw[hsk]at hks
 rw[htk]at hkd
 obtain rfl:ds=.int k:=hks
 obtain rfl:dd=.string:=hkd
 have hr:=hF x _ hx
 refine⟨.string (Utf8.encode m),?_,.str _⟩
 obtain⟨dst,op',type,pos,after,guard⟩:=o
 simp only at ho
 subst ho
 have hxv:=hr.int_eq
 simp only[execOp,hxv]
 have:(convert ts td (.int kx m)).run P w=.ok (.string (Utf8.encode m)) w:=by
  unfold convert
  rw[Sem.run_bind,run_underlying hds,Result.andThen_ok,Sem.run_bind,run_underlying hdd,Result.andThen_ok]
  rfl
 simp only[Sem.run_bind,this,Result.andThen_ok]
 rfl
end
section
variable {P:Program} {b:Frame} {a:Act} {k:List Item} {cs:List Frame} {w:World} {F:Fence} {n:Nat} {Q:Exit→Act→World→Prop}
theorem stepR_scope {c:Code}:step P (lone (b.atR a (.code (.scope c)::k)) cs w)=.next (lone (b.atR a (.code c::.inScope c::k)) cs w):=
 step_lone_go (by simp[stepG,stepG.exec,Frame.atR])
theorem stepR_inScope {c:Code}:step P (lone (b.atR a (.inScope c::k)) cs w)=.next (lone (b.atR a k) cs w):=
 step_lone_go (by simp[stepG,stepG.exec,Frame.atR])
theorem wpIn_scope {c:Code} (h:c.wpIn F n P (fun e a w=>(∀l,e≠.goto l)∧Q e a w) a w):(Code.scope c).wpIn F n P Q a w:=by
 intro b k cs hro hb hr
 have h0:(lone (b.atR a (.code (.scope c)::k)) cs w).fenced P F:=fenced_calm hb hr rfl
 obtain⟨e,a₁,w₁,⟨hg,hq⟩,harr⟩:=h b (.inScope c::k) cs hro hb hr
 cases e with
 |normal=>exact⟨.normal,a₁,w₁,hq,.head h0 stepR_scope (StepsIn.trans harr (.one (fenced_calm hb hr rfl) stepR_inScope))⟩
 |exit id=>
  have hx:exitTo id (.inScope c::k)=exitTo id k:=by simp[exitTo]
  exact⟨.exit id,a₁,w₁,hq,fun k' hk=>.head h0 stepR_scope (harr.1 k' (by rw[hx];exact hk)),
    fun hr' hk=>let ⟨k₁,h1,h2⟩:=harr.2 hr' (by rw[hx];exact hk);⟨k₁,h1,.head h0 stepR_scope h2⟩⟩
 |goto l=>exact absurd rfl (hg l)
 |ret=>exact⟨_,a₁,w₁,hq,.of_steps (.one h0 stepR_scope) harr⟩
 |panic ch=>exact⟨_,a₁,w₁,hq,.of_steps (.one h0 stepR_scope) harr⟩
 |outgrown=>exact⟨_,a₁,w₁,hq,.of_steps (.one h0 stepR_scope) harr⟩
end
def retQ (Q:APost):APost
 |.ret,T,H=>Q .ret T H
 |_,_,_=>False
theorem retQ_ret {Q:APost} {T:Tmps} {H:AHeap} (h:Q .ret T H):retQ Q .ret T H:=h
theorem awp_scopeR {P:Program} {N:Nat} {T:Tmps} {H:AHeap} {Q:APost} {c:Code} (h:AWP P N c T H (retQ Q)):AWP P N (.scope c) T H Q:=by
 intro E st w a r B hc hf hd
 refine wpIn_scope (wpIn_mono (h E st w a r B hc hf hd) ?_)
 intro e a' w' hp
 cases e with
 |outgrown=>exact hp.elim
 |_=>
  obtain⟨st',T',H',x,h1,h2,h3,h4,h5⟩:=hp
  cases x<;>first|exact h4.elim|exact h5.elim|exact⟨fun l e=>(by cases e),st',T',H',_,h1,h2,h3,h4,h5⟩
theorem cbVr:Callable Tryz.prog 209:=fun _ _=>by kernel_rfl
def validR (c:Int):Bool:=(decide (0≤c)&&decide (c<55296)) || (decide (57343<c)&&decide (c≤1114111))
theorem validRune_c (c:Int):PCalls Tryz.prog 209 [.int .i32 c] (.bool (validR c)):=by
 refine pcalls_of_awp tyok cbVr Tryz.func209 rfl rfl ?_
 unfold validR
 repeat(first|refine wD ?_|refine awp_seq_k fun K hK=>?_|refine wN fun bx=>?_|(refine wH ?_;clear hK))
 refine awp_cond rfl (fun hb=>?_) (fun hb=>?_)
 ·repeat(first|refine wD ?_|refine awp_seq_k fun K hK=>?_|refine wN fun bx=>?_|(refine wH ?_;clear hK))
  refine r1 ?_
  rw[hb]
  exact Sub.refl _
 ·repeat(first|refine wD ?_|refine awp_seq_k fun K hK=>?_|refine wN fun bx=>?_|(refine wH ?_;clear hK))
  refine awp_cond rfl (fun hb2=>?_) (fun hb2=>?_)
  ·repeat(first|refine wD ?_|refine awp_seq_k fun K hK=>?_|refine wN fun bx=>?_|(refine wH ?_;clear hK))
   refine r1 ?_
   rw[hb,hb2]
   exact Sub.refl _
  ·repeat(first|refine wD ?_|refine awp_seq_k fun K hK=>?_|refine wN fun bx=>?_|(refine wH ?_;clear hK))
   refine r1 ?_
   rw[hb,hb2]
   exact Sub.refl _
theorem cbIr:Callable Tryz.prog 185:=fun _ _=>by kernel_rfl
theorem indexByte_c (s:List UInt8) (c:Int):PCalls Tryz.prog 208 [.str s,.int .u8 c] (.int .i64 (Lib.indexByte s c.toNat.toUInt8)):=
 pcalls_of_below (fun _ _=>by kernel_rfl) fun st w xs hx _=>by
  obtain⟨x,y,rfl,h1,h2⟩:=repL2 hx
  rw[h1.str_eq,h2.int_eq]
  refine(Tryz.strings_IndexByte ⟨s.toArray⟩ c w).mono ?_
  rintro e w' ⟨rfl,rfl⟩
  exact⟨_,rfl,fun _ _=>.int _ _,Below.refl _ _⟩
def anyF (s:List UInt8):Bool:=s.any fun b=>b==32 || b==10
theorem useSet_c (n:Int):PCalls Tryz.prog 186 [.int .i64 n] (.bool (decide (n>8))):=
 pcalls_of_awp tyok (fun _ _=>by kernel_rfl) Tryz.func186 rfl rfl (by
  repeat(first|refine wD ?_|refine awp_seq_k fun K hK=>?_|refine wN fun bx=>?_|(refine wH ?_;clear hK))
  refine r1 ?_
  exact Sub.refl _)
def idxA (s:List UInt8):Int:=if anyF s then s.findIdx (fun b=>b==32 || b==10) else -1
theorem cbIa:Callable Tryz.prog 149:=fun _ _=>by kernel_rfl
end Go.Proofs.YtamgilppehibeaaGreatDoor
namespace Go.Proofs.YtamgilppehibeaaGreatDoor
open Go.Ab Go.RowKit
theorem indexRune3_c (c:Int) (hc:128≤c):PCalls Tryz.prog 185 [.str [43,45],.int .i32 c] (.int .i64 (-1)):=by
 refine pcalls_of_awp tyok cbIr Tryz.func185 rfl rfl ?_
 obtain⟨h2,hall⟩:=encode_high c hc
 generalize hE:(Utf8.encode c).data.toList=E at h2 hall
 have hlast:∀j,j<E.length→128≤(E.getD j 0).toNat:=fun j hj=>hall _ (by simp[List.getD,hj])
 repeat(first|refine wDB ?_|refine awp_seq_k fun K hK=>?_|refine wN fun bx=>?_|refine wC (validRune_c c) ?_|(refine wH ?_;clear hK))
 refine awp_cond rfl (fun hb=>?_) (fun hb=>?_)
 ·repeat(first|refine wD ?_|refine awp_seq_k fun K hK=>?_|refine wN fun bx=>?_|(refine wH ?_;clear hK))
  refine TR.range tyok (fun b=>?_)
  repeat(first|refine wD ?_|refine awp_seq_k fun K hK=>?_|refine wN fun bx=>?_|(refine wH ?_;clear hK))
  refine awp_loop0 (ι:={i:Nat//i≤2}) (fun _=>[(175,.ptr b 0)]) (fun i=>[.obj b (.stringIter ⟨([43,45]:List UInt8).toArray⟩ i.1)]) (fun i=>2-i.1) ⟨0,by omega⟩ ?_ dp ?_
  ·exact wk
  rintro⟨i,hi⟩
  simp only at hi ⊢
  repeat(first|refine wD ?_|refine awp_seq_k fun K hK=>?_|refine wN fun bx=>?_|(refine wH ?_;clear hK))
  refine TR.next (List.Perm.refl _) ?_
  by_cases hlt:i<2
  ·have ha:(([43,45]:List UInt8).getD i 0).toNat<128:=by
    rcases(by omega:i=0∨i=1)with rfl|rfl<;>decide
   obtain⟨e1,e2⟩:=nextV_ascii (s:=[43,45]) hlt ha
   rw[e1,e2]
   have hne:(((([43,45]:List UInt8).getD i 0).toNat:Int)==65533)=false:=by
    rw[beq_eq_false_iff_ne]
    omega
   repeat(first|refine wD ?_|refine awp_seq_k fun K hK=>?_|refine wN fun bx=>?_|(refine wH ?_;clear hK))
   refine awp_cond rfl (fun hb2=>?_) (fun _=>?_)
   ·rw[hne]at hb2
    cases hb2
   ·repeat(first|refine wD ?_|refine awp_seq_k fun K hK=>?_|refine wN fun bx=>?_|(refine wH ?_;clear hK))
    refine⟨⟨i+1,by omega⟩,?_,dp,?_⟩
    ·exact wk
    ·simp only;omega
  ·obtain⟨e1,e2⟩:=nextV_end (s:=[43,45]) (i:=i) hlt
   rw[e1,e2]
   repeat(first|refine wD ?_|refine awp_seq_k fun K hK=>?_|refine wN fun bx=>?_|(refine wH ?_;clear hK))
   refine r1 ?_
   exact Sub.refl _
 ·repeat(first|refine wDB ?_|refine awp_seq_k fun K hK=>?_|refine wN fun bx=>?_|refine wC (validRune_c c) ?_|(refine wH ?_;clear hK))
  refine awp_cond rfl (fun hb2=>?_) (fun hb2=>?_)
  ·repeat(first|refine wD ?_|refine awp_seq_k fun K hK=>?_|refine wN fun bx=>?_|(refine wH ?_;clear hK))
   refine r1 ?_
   exact Sub.refl _
  ·refine awp_scopeR ?_
   repeat(first|refine wD ?_|refine awp_seq_k fun K hK=>?_|refine wN fun bx=>?_|(refine wH ?_;clear hK))
   refine qrstr tyok ?_
   rw[hE]
   have hlen:E.length≤4:=by rw[←hE];exact encode_len c
   repeat(first|refine wD ?_|refine awp_seq_k fun K hK=>?_|refine wN fun bx=>?_|(refine wH ?_;clear hK))
   refine awp_loop0 (ι:=Unit) (fun _=>[(0,.str [43,45]),(7,.str E),(8,.int .i64 ((E.length:Int)-1)),(9,.int .i64 ((E.length:Int)-1))]) (fun _=>[]) (fun _=>0) () ?_ dp ?_
   ·exact wk
   rintro⟨⟩
   repeat(first|refine wD ?_|refine awp_seq_k fun K hK=>?_|refine wN fun bx=>?_|(refine wH ?_;clear hK))
   refine awp_cond rfl (fun hb3=>?_) (fun hb3=>?_)
   ·have h3:E.length=2:=by
     have h4:(E.length:Int)-1<2:=by simpa using hb3
     omega
    have hE0:∃x y,E=[x,y]:=by
     match E,h3 with
     |[x,y],_=>exact⟨x,y,rfl⟩
    obtain⟨x,y,rfl⟩:=hE0
    have hy:128≤y.toNat:=hall y (by simp)
    repeat(first|refine wD ?_|refine awp_seq_k fun K hK=>?_|refine wN fun bx=>?_|(refine wH ?_;clear hK))
    refine awp_scopeR ?_
    have hne:(((([43,45]:List UInt8).getD 1 0).toNat:Int) !=(y.toNat:Int))=true:=by
     rw[bne_iff_ne]
     show(45:Int)≠_
     omega
    repeat(first|refine wD ?_|refine awp_seq_k fun K hK=>?_|refine wN fun bx=>?_|refine qpc rfl rfl rfl (indexByte_c _ _) ?_|refine qpo rfl rfl rfl rfl rfl rfl (fun _=>indexByte_c _ _) ?_|(refine wH ?_;clear hK))
    refine awp_cond rfl (fun _=>?_) (fun hb4=>?_)
    ·repeat(first|refine wD ?_|refine awp_seq_k fun K hK=>?_|refine wN fun bx=>?_|refine qpc rfl rfl rfl (indexByte_c _ _) ?_|refine qpo rfl rfl rfl rfl rfl rfl (fun _=>indexByte_c _ _) ?_|(refine wH ?_;clear hK))
     refine retQ_ret ?_
     repeat(first|refine wD ?_|refine awp_seq_k fun K hK=>?_|refine wN fun bx=>?_|(refine wH ?_;clear hK))
     refine retQ_ret ?_
     repeat(first|refine wD ?_|refine awp_seq_k fun K hK=>?_|refine wN fun bx=>?_|(refine wH ?_;clear hK))
     refine r1 ?_
     exact Sub.refl _
    ·rw[show(([x,y].length:Int)-1).toNat=1 from rfl]at hb4
     exact absurd hb4 (by rw[show([x,y]:List UInt8).getD 1 0=y from rfl,hne];simp)
   ·repeat(first|refine wD ?_|refine awp_seq_k fun K hK=>?_|refine wN fun bx=>?_|(refine wH ?_;clear hK))
    refine retQ_ret ?_
    repeat(first|refine wD ?_|refine awp_seq_k fun K hK=>?_|refine wN fun bx=>?_|(refine wH ?_;clear hK))
    refine r1 ?_
    exact Sub.refl _
def anyG (s:List UInt8):Bool:=s.any fun b=>b==43 || b==45
theorem indexRune3_low (c:Int) (h0:0≤c) (h1:c<128):PCalls Tryz.prog 185 [.str [43,45],.int .i32 c] (.int .i64 (Lib.indexByte [43,45] c.toNat.toUInt8)):=
 pcalls_of_below (fun _ _=>by kernel_rfl) fun st w xs hx _=>by
  obtain⟨x,y,rfl,e1,e2⟩:=repL2 hx
  rw[e1.str_eq,e2.int_eq]
  refine(Tryz.strings_IndexRune_ascii ⟨([43,45]:List UInt8).toArray⟩ c w h0 h1).mono ?_
  rintro e w' ⟨rfl,rfl⟩
  exact⟨_,rfl,fun _ _=>.int _ _,Below.refl _ _⟩
theorem anyG_none {s:List UInt8} (h:∀j,j<s.length→¬(s.getD j 0=43∨s.getD j 0=45)):anyG s=false:=by
 unfold anyG
 rw[List.any_eq_false]
 intro b hb
 obtain⟨j,hj,rfl⟩:=List.getElem_of_mem hb
 have:=h j hj
 simp only[List.getD,List.getElem?_eq_getElem hj,Option.getD_some]at this
 simpa using this
theorem anyG_some {s:List UInt8} {j:Nat} (hj:j<s.length) (h:s.getD j 0=43∨s.getD j 0=45):anyG s=true:=by
 unfold anyG
 rw[List.any_eq_true]
 refine⟨s[j],by simp,?_⟩
 simp only[List.getD,List.getElem?_eq_getElem hj,Option.getD_some]at h
 simpa using h
theorem ib3 (b:UInt8):(decide (Lib.indexByte [43,45] b≥0))=(b==43 || b==45):=by
 by_cases h1:b=43
 ·subst h1;decide
 ·by_cases h2:b=45
  ·subst h2;decide
  ·rw[show(b==43 || b==45)=false by simp[h1,h2]]
   have:=Lib.contains_iff_indexByte [43,45] b
   have h3:List.contains [43,45] b=false:=by simp[h1,h2]
   rw[h3]at this
   exact this.symm
def idxB (s:List UInt8):Int:=if anyG s then s.findIdx (fun b=>b==43 || b==45) else -1
theorem idxB_none {s:List UInt8} (h:∀j,j<s.length→¬(s.getD j 0=43∨s.getD j 0=45)):idxB s= -1:=by
 unfold idxB
 rw[anyG_none h]
 rfl
theorem idxB_hit {s:List UInt8} {i:Nat} (hi:i<s.length) (h:s.getD i 0=43∨s.getD i 0=45) (hno:∀j,j<i→¬(s.getD j 0=43∨s.getD j 0=45)):idxB s=i:=by
 unfold idxB
 rw[anyG_some hi h,if_pos rfl]
 congr 1
 rw[List.findIdx_eq hi]
 constructor
 ·simp only[List.getD,List.getElem?_eq_getElem hi,Option.getD_some]at h
  simpa using h
 ·intro j hj
  have:=hno j hj
  simp only[List.getD,List.getElem?_eq_getElem (show j<s.length by omega),Option.getD_some]at this
  simpa using this
theorem indexAny3_short (s:List UInt8) (hs:s.length≤8):PCalls Tryz.prog 149 [.str s,.str [43,45]] (.int .i64 (idxB s)):=by
 refine pcalls_of_awp tyok cbIa Tryz.func149 rfl rfl ?_
 repeat(first|refine wD ?_|refine awp_seq_k fun K hK=>?_|refine wN fun bx=>?_|refine qpc rfl rfl rfl (useSet_c _) ?_|refine qpo rfl rfl rfl rfl rfl rfl (fun _=>useSet_c _) ?_|(refine wH ?_;clear hK))
 refine awp_cond rfl (fun hb=>absurd hb (by simp;omega)) (fun _=>?_)
 repeat(first|refine wD ?_|refine awp_seq_k fun K hK=>?_|refine wN fun bx=>?_|(refine wH ?_;clear hK))
 refine TR.range tyok (fun b=>?_)
 repeat(first|refine wD ?_|refine awp_seq_k fun K hK=>?_|refine wN fun bx=>?_|(refine wH ?_;clear hK))
 refine awp_loop0 (ι:={i:Nat//i≤s.length∧∀j,j<i→¬(s.getD j 0=43∨s.getD j 0=45)}) (fun _=>[(1,.str [43,45]),(45,.ptr b 0)]) (fun i=>[.obj b (.stringIter ⟨s.toArray⟩ i.1)]) (fun i=>s.length-i.1) ⟨0,Nat.zero_le _,fun j hj=>absurd hj (by omega)⟩ ?_ dp ?_
 ·exact wk
 rintro⟨i,hi,hno⟩
 simp only at hi hno ⊢
 repeat(first|refine wD ?_|refine awp_seq_k fun K hK=>?_|refine wN fun bx=>?_|(refine wH ?_;clear hK))
 refine TR.next (List.Perm.refl _) ?_
 by_cases hlt:i<s.length
 ·by_cases ha:(s.getD i 0).toNat<128
  ·obtain⟨e1,e2⟩:=nextV_ascii hlt ha
   rw[e1,e2]
   have g1:=indexRune3_low ((s.getD i 0).toNat:Int) (by omega) (by omega)
   rw[show(((s.getD i 0).toNat:Int)).toNat.toUInt8=s.getD i 0 by simp]at g1
   have hib:=ib3 (s.getD i 0)
   repeat(first|refine wD ?_|refine awp_seq_k fun K hK=>?_|refine wN fun bx=>?_|refine wC g1 ?_|(refine wH ?_;clear hK))
   refine awp_cond rfl (fun hb=>?_) (fun hb=>?_)
   ·repeat(first|refine wD ?_|refine awp_seq_k fun K hK=>?_|refine wN fun bx=>?_|(refine wH ?_;clear hK))
    refine r1 ?_
    rw[hib]at hb
    exact Sub.of_eq (by rw[idxB_hit hlt (by simpa using hb) hno])
   ·rw[hib]at hb
    repeat(first|refine wD ?_|refine awp_seq_k fun K hK=>?_|refine wN fun bx=>?_|(refine wH ?_;clear hK))
    refine⟨⟨i+1,hlt,fun j hj=>?_⟩,?_,dp,?_⟩
    ·by_cases e:j=i
     ·rw[e]
      simpa using hb
     ·exact hno j (by omega)
    ·exact wk
    ·simp only;omega
  ·obtain⟨hc1,hc2,hw,hle,hall⟩:=dec_high hlt ha
   have e1:nextV s i=.tuple [.bool true,.int .i64 i,.int .i32 (Utf8.decode ⟨s.toArray⟩ i).1]:=by rw[nextV,if_pos hlt]
   have e2:nextI s i=i+(Utf8.decode ⟨s.toArray⟩ i).2:=by rw[nextI,if_pos hlt]
   rw[e1,e2]
   generalize (Utf8.decode ⟨s.toArray⟩ i).1=c at hc1 hc2
   generalize (Utf8.decode ⟨s.toArray⟩ i).2=k at hw hle hall
   have g1:=indexRune3_c c (by omega)
   repeat(first|refine wD ?_|refine awp_seq_k fun K hK=>?_|refine wN fun bx=>?_|refine wC g1 ?_|(refine wH ?_;clear hK))
   refine⟨⟨i+k,hle,fun j hj=>?_⟩,?_,dp,?_⟩
   ·by_cases e:j<i
    ·exact hno j e
    ·have:=hall j (by omega) hj
     rintro(h|h)
     ·rw[h]at this;exact absurd this (by decide)
     ·rw[h]at this;exact absurd this (by decide)
   ·exact wk
   ·simp only;omega
 ·obtain⟨e1,e2⟩:=nextV_end hlt
  rw[e1,e2]
  repeat(first|refine wD ?_|refine awp_seq_k fun K hK=>?_|refine wN fun bx=>?_|(refine wH ?_;clear hK))
  refine r1 ?_
  exact Sub.of_eq (by rw[idxB_none fun j hj=>hno j (by omega)])
theorem indexAny3_long (s:List UInt8) (h8:8<s.length) (hs:s.length≤1000000000):PCalls Tryz.prog 149 [.str s,.str [43,45]] (.int .i64 (Lib.indexAny s [43,45])):=
 pcalls_of_below (fun _ _=>by kernel_rfl) fun st w xs hx _=>by
  rw[repL_ss hx]
  have hz:=zero_of_info (P:=Tryz.prog) (show(Tryz.prog.info? 198).map (fun i=>(i.zero,i.size))=some (some (.agg (Array.replicate 256 (.bool false))),256) by kernel_rfl)
  refine(Any.strings_IndexAny_long Tryz.lays153 hz.1 hz.2 ⟨s.toArray⟩ ⟨([43,45]:List UInt8).toArray⟩ w (by decide) (by rw[size_mk];exact h8) (by rw[size_mk];omega) (by decide) (fun j b h=>?_)).mono ?_
  ·match j,h with
   |0,h=>simp at h;subst h;decide
   |1,h=>simp at h;subst h;decide
  ·rintro e w' ⟨rfl,rfl⟩
   exact⟨_,rfl,fun _ _=>.int _ _,Below.alloc (Below.alloc (Below.refl _ _) (Nat.le_refl _) _) (by show w.heap.size≤(w.heap.push _).size;rw[Array.size_push];omega) _⟩
theorem idxB_eq:∀s:List UInt8,idxB s=Lib.indexAny s [43,45]
 |[]=>rfl
 |b::l=>by
  have ih:=idxB_eq l
  have hge:=Lib.indexAny_ge [43,45] l
  have e1:Lib.indexAny (b::l) [43,45]=if List.contains [43,45] b then 0 else if Lib.indexAny l [43,45]== -1 then -1 else Lib.indexAny l [43,45]+1:=rfl
  have e2:anyG (b::l)=((b==43 || b==45) || anyG l):=rfl
  have e3:List.contains [43,45] b=(b==43 || b==45):=by simp only[List.contains,List.elem];cases b==43<;>cases b==45<;>rfl
  rw[e1,e3]
  unfold idxB at ih ⊢
  rw[e2,List.findIdx_cons]
  cases hb:(b==43 || b==45)
  ·rw[Bool.false_or,cond_false]
   cases ha:anyG l
   ·rw[ha]at ih
    rw[←ih]
    rfl
   ·rw[ha,if_pos rfl]at ih
    rw[←ih]
    have:¬((List.findIdx (fun b=>b==43 || b==45) l:Int)== -1)=true:=by
     rw[beq_iff_eq]
     omega
    rw[if_neg this]
    simp
  ·rfl
theorem indexAny3_c (s:List UInt8) (hs:s.length≤1000000000):PCalls Tryz.prog 149 [.str s,.str [43,45]] (.int .i64 (Lib.indexAny s [43,45])):=by
 by_cases h:s.length≤8
 ·rw[←idxB_eq]
  exact indexAny3_short s h
 ·exact indexAny3_long s (by omega) hs
end Go.Proofs.YtamgilppehibeaaGreatDoor
namespace Go.Proofs.YtamgilppehibeaaGreatDoor
open Go.Ab Go.RowKit
def txtE (x:List UInt8):List AV:=[.str x]
theorem tup3 {st:Stab} {w:World} {a b d:AV} {x y u:Value} (h1:Rep st w a x) (h2:Rep st w b y) (h3:Rep st w d u):Rep st w (.tuple [a,b,d]) (.tuple #[x,y,u]):=.tuple _ _ rfl fun j v z hv hz=>by
 match j,hv,hz with
 |0,hv,hz=>simp at hv hz;subst hv;subst hz;exact h1
 |1,hv,hz=>simp at hv hz;subst hv;subst hz;exact h2
 |2,hv,hz=>simp at hv hz;subst hv;subst hz;exact h3
theorem cut_c (s sep:List UInt8) (hs:s.length≤1000000000):PCalls Tryz.prog 150 [.str s,.str sep] (.tuple [.str (Lib.cut s sep).1,.str (Lib.cut s sep).2.1,.bool (Lib.cut s sep).2.2]):=
 pcalls_of_below (fun _ _=>by kernel_rfl) fun st w xs hx hg=>by
  rw[repL_ss hx]
  obtain⟨c,t,f,g1,m,rfl⟩:=gl_at hg 0 rfl
  have hsz:(ByteArray.mk s.toArray).size<4294967281:=by simp[ByteArray.size];omega
  refine(Tryz.strings_Cut ⟨s.toArray⟩ ⟨sep.toArray⟩ m w hsz (by rw[cell_of_block g1];rfl)).mono ?_
  rintro e w' ⟨rfl,n,rfl⟩
  exact⟨_,rfl,fun _ _=>tup3 (.str _) (.str _) (.bool _),⟨rfl,rfl,rfl,Nat.le_refl _,fun _ _=>rfl⟩⟩
theorem pcalls_of_texts {P:Program} {f:FuncId} {vs:List AV} {ps:List (List UInt8)} (hcb:Callable P f)
  (h:∀st w xs,RepL st w vs xs→Gl [] w→Calls P f ⟨xs⟩ w fun e w'=>∃t,e=.returned (.slice (some ⟨w.heap.size,0,none⟩) ps.length ps.length)∧
    w'=w.alloc (.cells (ps.map fun l=>Value.string ⟨l.toArray⟩).toArray t)):PCalls P f vs (sl txtE 1 ps .view):=by
 refine⟨hcb,fun st w xs hc hx hg=>(h st w xs hx hg).mono ?_⟩
 rintro e w' ⟨t,rfl,rfl⟩
 have hsize:(w.alloc (.cells (ps.map fun l=>Value.string ⟨l.toArray⟩).toArray t)).heap.size=w.heap.size+1:=Array.size_push ..
 have hnew:(w.alloc (.cells (ps.map fun l=>Value.string ⟨l.toArray⟩).toArray t)).heap[w.heap.size]?=some (.cells (ps.map fun l=>Value.string ⟨l.toArray⟩).toArray t (0,0)):=heap_alloc_new _ _
 have hg:=Conc.grow (Hn:=[]) (st':=fun b o=>st b o∨b=w.heap.size) (w':=w.alloc (.cells (ps.map fun l=>Value.string ⟨l.toArray⟩).toArray t)) hc.start rfl rfl rfl (by omega)
  (fun k hk=>heap_alloc_old _ _ hk) (fun _ _ h=>.inl h) (fun b o hs=>by
    rcases hs with h|h
    ·exact .inl h
    ·exact .inr ⟨by omega,by omega⟩) (by simp) (fun k hk=>by obtain⟨e,he,_⟩:=hk;cases he) .nil
  (fun b o hs=>hs.imp id fun h=>by subst h;exact⟨_,_,hnew⟩)
 refine⟨_,.ret (sl txtE 1 ps .view),[],hg.1,?_,rfl,rfl⟩
 refine .slice 1 ps.length _ .view (some ⟨w.heap.size,0,none⟩) ps.length w.heap.size 0 (fun i _=>Value.string ⟨(ps.getD i default).toArray⟩) (Nat.le_refl _) (.inr rfl) (fun i hi=>rfl) (fun i j hi hj=>⟨.inr rfl,?_⟩) (fun i j v hi hv=>?_) trivial (fun i j hi hj=>rfl)
 ·have hj0:j=0:=by omega
  subst hj0
  rw[cell_of_block hnew]
  simp[List.getElem?_eq_getElem hi]
 ·cases j with
  |zero=>
   simp[txtE]at hv
   subst hv
   exact .str _
  |succ j=>simp[txtE]at hv
theorem split_c (s:List UInt8) (c:UInt8) (hs:s.length≤1000000000):PCalls Tryz.prog 98 [.str s,.str [c]] (sl txtE 1 (Lib.split s [c]) .view):=
 pcalls_of_texts (fun _ _=>by kernel_rfl) fun st w xs hx hg=>by
  rw[repL_ss hx]
  obtain⟨cc,t,f,g1,m,rfl⟩:=gl_at hg 0 rfl
  have hsz:(ByteArray.mk s.toArray).size<4294967281:=by simp[ByteArray.size];omega
  refine(Tryz.strings_Split ⟨s.toArray⟩ ⟨#[c]⟩ m w hsz (by rw[cell_of_block g1];rfl) (Nat.le_refl 1)).mono ?_
  rintro e w' ⟨rfl,rfl⟩
  have hd:=Lib.splitB_data ⟨#[c]⟩ 0 (Lib.countB ⟨s.toArray⟩ ⟨#[c]⟩) ⟨s.toArray⟩
  have hsp:Lib.split s [c]=(Lib.splitB ⟨#[c]⟩ 0 (Lib.countB ⟨s.toArray⟩ ⟨#[c]⟩) ⟨s.toArray⟩).map (·.data.toList):=hd.symm
  have hlen:=Lib.splitB_all (ByteArray.mk #[c]) (Nat.le_refl 1) 0 _ (ByteArray.mk s.toArray) rfl
  refine⟨9,?_,?_⟩
  ·rw[hsp,List.length_map,hlen]
  ·rw[hsp,List.map_map]
   rfl
end Go.Proofs.YtamgilppehibeaaGreatDoor
namespace Go.Proofs.YtamgilppehibeaaGreatDoor
open Go.Ab Go.RowKit
theorem trimLeft3_c (s:List UInt8):PCalls Tryz.prog 97 [.str s,.str [43,45]] (.str (Lib.trimLeftS s [43,45])):=
 pcalls_of_below (fun _ _=>by kernel_rfl) fun st w xs hx _=>by
  rw[repL_ss hx]
  have hz:=zero_of_info (P:=Tryz.prog) (show(Tryz.prog.info? 198).map (fun i=>(i.zero,i.size))=some (some (.agg (Array.replicate 256 (.bool false))),256) by kernel_rfl)
  refine(Any.strings_TrimLeft_ascii Tryz.lays161 hz.1 hz.2 ⟨s.toArray⟩ ⟨([43,45]:List UInt8).toArray⟩ w (by decide) (fun j b h=>?_)).mono ?_
  ·match j,h with
   |0,h=>simp at h;subst h;decide
   |1,h=>simp at h;subst h;decide
  ·rintro e w' ⟨rfl,h⟩
   exact⟨_,rfl,fun _ _=>.str _,h⟩
end Go.Proofs.YtamgilppehibeaaGreatDoor
