/-
  An append whose answer's block is told apart from others that the heap speaks of.
-/
import Derived.Test.YtcbdfmmiigpddaaDoorAb40
namespace Go.Ab
def Lives (H:AHeap) (g:Nat):Prop:=∀E st w,Conc E st H w→g<w.heap.size
theorem Lives.box {H:AHeap} {b:Nat} {t:TypeId} {v:AV} {g:Nat} (hm:Ent.box b t v∈H) (h:∀st w c,Rep st w v c→∃o,st g o):Lives H g:=fun E st w hc=>by
 obtain⟨arr,cv,_,h2,_⟩:=hc.ents _ hm
 obtain⟨o,ho⟩:=h st w cv h2
 exact hc.stlt g o ho
theorem st_slice {st:Stab} {w:World} {sz n:Nat} {el:Nat→List AV} {g off cap:Nat} {c:Value} (h:Rep st w (.slice sz n el (.own (some ⟨g,off,none⟩) cap)) c) (hn:0<n) (hz:0<sz):∃o,st g o:=by
 cases h with
 |slice _ _ _ _ a cap' b off' C hle hbase hlen hcell hrep hown hone=>
  obtain⟨rfl,rfl⟩:a=some ⟨g,off,none⟩∧cap'=cap:=hown
  rcases hbase with hb|hb
  ·omega
  ·simp only[Option.some.injEq,Addr.mk.injEq]at hb
   obtain⟨rfl,rfl,-⟩:=hb
   exact⟨_,(hcell 0 0 hn hz).1⟩
theorem st_el {st:Stab} {w:World} {sz n:Nat} {el:Nat→List AV} {ow:Own} {c:Value} {i j:Nat} {v:AV} (h:Rep st w (.slice sz n el ow) c) (hi:i<n) (hv:(el i)[j]?=some v):∃x,Rep st w v x:=by
 cases h with
 |slice _ _ _ _ a cap b off C hle hbase hlen hcell hrep hown hone=>exact⟨_,hrep i j v hi hv⟩
section
variable {P:Program} {N:Nat} {ty:TypeId→Option TyI} {l0:List Oper} {LD:LDs} {W:Bool} {Q:APost} {n:Nat} {o:Oper} {l:List (Nat×Oper)} {T:Tmps} {H:AHeap}
def Fresh (H:AHeap) (a:Option Addr) (cap k:Nat) (a':Option Addr) (cap':Nat):Prop:=(a'=a∧cap'=cap∧k≤cap)∨∃g,a'=some ⟨g,0,none⟩∧∀g',Lives H g'→g'≠g
theorem hard_appendD (hty:TyOk P ty) {F:Operand→Option AV} {s x:Operand} {t e:TypeId} {ti ei:TyI} {vs vx:AV} {sz n m:Nat} {el el2:Nat→List AV} {ow:Own} {V:Option Addr→Nat→AV} {a:Option Addr} {cap:Nat} (i:Nat)
  (ho:o.op=.call {callee:=.builtin .append,args:= #[s,x],argTypes:= #[t,t]}) (hti:ty t=some ti) (hk:ti.k=.slice e) (hei:ty e=some ei) (hsz:ei.size=sz) (hpos:Nat.ble 1 sz=true)
  (hs:F s=some vs) (hx:F x=some vx) (hvs:asSl sz vs=some (n,el,.own a cap)) (hvx:asSl sz vx=some (m,el2,ow)) (hi:H[i]?=some (.tok a cap n sz e))
  (hb:(n+m)*ei.bytes≤140737488355328∧n+m≤9223372036854775807) (hV:∀a cap,Sub (.slice sz (n+m) (glue n el el2) (.own a cap)) (V a cap)):
  AHard P o F H fun r H'=>∃a' cap',Fresh H a cap (n+m) a' cap'∧r=.ret (V a' cap')∧H'=H.set i (.tok a' cap' (n+m) sz e):=by
 intro E st w act r next Q hc hF _ hr _
 obtain⟨⟨d,hd,hkf⟩,-⟩:=hty t ti hti
 rw[hk]at hkf
 obtain rfl:d=.slice e:=hkf
 obtain⟨-,inf,z,hinf,hisz,hby,hz,hzs,hzr,-⟩:=hty e ei hei
 have hp:0<sz:=Nat.le_of_ble_eq_true hpos
 obtain⟨a',cap',b,off,C,hsv,hn,hok,h1⟩:=row_of (asSl_rep hvs (hF s vs hs)) hp
 obtain⟨rfl,rfl⟩:a'=a∧cap'=cap:=hok
 obtain⟨a2,cap2,b2,off2,C2,hxv,hn2,-,h2⟩:=row_of (asSl_rep hvx (hF x vx hx)) hp
 have hexec:∀v' w',(Builtin.append_ #[t,t] o.type #[.slice a' n cap',.slice a2 m cap2]).run P w=.ok v' w'→(execOp act.eval o).run P w=.ok (.value v') w':=by
  intro v' w' h
  simp[execOp,ho,resolve,invoke,builtin,hsv,hxv,h]
 have hc1:=hc.perm (perm_eraseIdx H i _ hi)
 by_cases hm:m=0
 ·subst hm
  have hrun:=run_append_zero (P:=P) (w:=w) (tt:=o.type) (a:=a') (a2:=a2) (n:=n) (cap:=cap') (cap2:=cap2) hd hinf hn
  refine upon_value_ok (hexec _ _ hrun) (hr st w (V a' cap') _ _ (hc1.perm (perm_set H i _ _ hi)) (Keeps.refl st w) ?_ ⟨a',cap',.inl ⟨rfl,rfl,hn⟩,rfl,rfl⟩)
  refine hV a' cap' _ _ _ (rep_of_row (b:=b) (off:=off) (C:=C) hn ⟨rfl,rfl⟩ ?_)
  exact⟨h1.base,fun i hi=>by rw[glue,if_pos (show i<n from hi)];exact h1.len i hi,h1.cell,fun i j v hi hv=>h1.rep i j v hi (by rw[glue,if_pos (show i<n from hi)]at hv;exact hv),h1.one⟩
 ·by_cases hroom:n+m≤cap'
  ·obtain⟨w',st',D,b',off',hrun,hc',hkp,hrow⟩:=append_room (P:=P) (tt:=o.type) (cap2:=cap2) hc1 hd hinf (by omega) h1 h2 hm hroom
   exact upon_value_ok (hexec _ _ hrun) (hr st' w' (V _ cap') _ _ (hc'.perm (perm_set H i _ _ hi)) hkp (hV _ cap' _ _ _ (rep_of_row hroom ⟨rfl,rfl⟩ hrow)) ⟨_,cap',.inl ⟨rfl,rfl,hroom⟩,rfl,rfl⟩)
  ·have hnil:a'=none→cap'=0:=by
    rintro rfl
    rcases hc1.ents _ (List.mem_cons_self ..)with h|⟨_,g,cur,h,_⟩
    ·rcases h1.base with h'|h'
     ·omega
     ·cases h'
    ·cases h
   have hc2:Conc E st (H.eraseIdx i) w:=Conc.drop_front (F:=[_]) hc1
   obtain⟨w',st',cap2',D,hrun,hc',hkp,hcap',hrow⟩:=append_grow (P:=P) (tt:=o.type) (cap2:=cap2) hc2 hd hinf hz (by omega) (by omega) hp h1 h2 hnil (by omega) hn (by simp only[maxLen];omega) (by rw[hby];exact hb.1)
   exact upon_value_ok (hexec _ _ hrun) (hr st' w' (V _ cap2') _ _ (hc'.perm (perm_set H i _ _ hi)) hkp (hV _ cap2' _ _ _ (rep_of_row hcap' ⟨rfl,rfl⟩ hrow)) ⟨_,cap2',.inr ⟨_,rfl,fun g' hg'=>Nat.ne_of_lt (hg' _ _ _ hc)⟩,rfl,rfl⟩)
theorem qappD {α:Type} [Inhabited α] (hty:TyOk P ty) (f:α→List AV) (xs:List α) (x:α) {s y:Operand} {t e:TypeId} {ti ei:TyI} {vx:AV} {sz:Nat} {el2:Nat→List AV} {ow:Own} {d:Nat} {a:Option Addr} {cap:Nat} {F:Ent→AHeap}
  (hel:SubL (el2 0) (f x)) (hb:(xs.length+1)*ei.bytes≤140737488355328∧xs.length+1≤9223372036854775807)
  (k:∀a' cap',Fresh H a cap (xs.length+1) a' cap'→TR P N ty l0 LD W Q l ((d,sl f sz (xs++[x]) (.own a' cap'))::T) (F (.tok a' cap' (xs++[x]).length sz e)))
  (hg:o.guard=none:=by exact rfl) (ho:o.op=.call {callee:=.builtin .append,args:= #[s,y],argTypes:= #[t,t]}:=by exact rfl) (hd:o.dst=some d:=by exact rfl) (hN:Nat.ble (d+1) N=true:=by exact rfl)
  (hon:optN True T (tmpsOf o.op):=by exact True.intro) (hti:ty t=some ti:=by exact rfl) (hk:ti.k=.slice e:=by exact rfl) (hei:ty e=some ei:=by exact rfl) (hsz:ei.size=sz:=by exact rfl) (hpos:Nat.ble 1 sz=true:=by exact rfl)
  (hs:opvL (tmpsOf o.op) T s=some (sl f sz xs (.own a cap)):=by exact rfl) (hx:opvL (tmpsOf o.op) T y=some vx:=by exact rfl) (hvx:asSl sz vx=some (1,el2,ow):=by exact rfl)
  (hi:EntAt H (.tok a cap xs.length sz e) F:=by(first|exact .here|exact .there (.here)|exact .there (.there (.here))|exact .there (.there (.there (.here)))|exact .there (.there (.there (.there (.here))))|exact .there (.there (.there (.there (.there (.here)))))|exact .there (.there (.there (.there (.there (.there (.here))))))|exact .there (.there (.there (.there (.there (.there (.there (.here)))))))|exact .there (.there (.there (.there (.there (.there (.there (.there (.here))))))))|exact .there (.there (.there (.there (.there (.there (.there (.there (.there (.here)))))))))|exact .there (.there (.there (.there (.there (.there (.there (.there (.there (.there (.here))))))))))|exact .there (.there (.there (.there (.there (.there (.there (.there (.there (.there (.there (.here)))))))))))|exact .there (.there (.there (.there (.there (.there (.there (.there (.there (.there (.there (.there (.here))))))))))))|exact .there (.there (.there (.there (.there (.there (.there (.there (.there (.there (.there (.there (.there (.here)))))))))))))|exact .there (.there (.there (.there (.there (.there (.there (.there (.there (.there (.there (.there (.there (.there (.here))))))))))))))|exact .there (.there (.there (.there (.there (.there (.there (.there (.there (.there (.there (.there (.there (.there (.there (.here))))))))))))))))):TR P N ty l0 LD W Q ((n,o)::l) T H:=by
 obtain⟨i,g1,g2⟩:=hi.spec
 have hvs:asSl sz (sl f sz xs (.own a cap))=some (xs.length,fun i=>f (xs.getD i default),.own a cap):=by
  simp[asSl,sl]
 refine TR.hard _ (.inr (by rw[ho];rfl)) hg (by rw[hd];exact hN) hon (hard_appendD hty i ho hti hk hei hsz hpos hs hx hvs hvx g1 hb (V:=fun ad cp=>sl f sz (xs++[x]) (.own ad cp)) fun ad cp=>glue_sl1S f sz xs x el2 hel _) ?_ ?_ (fun _ v H' ⟨_,_,_,_,e⟩=>e▸KeepB.setTok g1 _) (fun h=>by rw[ho]at h;cases h)
 ·rintro v H' ⟨a',cap',hfr,e,rfl⟩
  cases e
  rw[hd]
  have:=k a' cap' hfr
  rw[g2]at this
  rw[List.length_append]at this
  exact this
 ·rintro v H' ⟨a',cap',_,e,_⟩
  cases e
end
end Go.Ab
