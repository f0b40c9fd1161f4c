/-
  Statements as any data: their cells; the line of any statement (parser.Line, porismref20.Line).
-/
import Derived.Test.YtgbmanmcioailaaDoorSm
import Derived.Test.YtgbmanmcioailaaDoorAbB
import Derived.Test.YtgbmanmcioailaaDoorLj
namespace Go.Proofs.YtgbmanmcioailaaDoor
open Go.Ab

structure TokI where
  k : Int
  w : List UInt8
  n : Int
  ln : Int
  co : Int
  deriving DecidableEq, Inhabited

structure StI where
  k : Int
  new : TokI
  word : TokI
  args : List TokI
  l1 : Int
  c1 : Int
  l2 : Int
  c2 : Int
  deriving DecidableEq, Inhabited

def tokEI (t : TokI) : List AV := encT t.k t.w t.n t.ln t.co
def stmtEI (s : StI) : List AV := .int .u8 s.k :: (tokEI s.new ++ (tokEI s.word ++ [sl tokEI 5 s.args .view, .int .i64 s.l1, .int .i64 s.c1, .int .i64 s.l2, .int .i64 s.c2]))
def stmtsI (l : List StI) : AV := sl stmtEI 16 l .view

def TokR.up (t : TokR) : TokI := ⟨t.k, t.w, t.n, t.ln, t.co⟩
def StR.up (s : StR) : StI := ⟨s.k, s.new.up, s.word.up, s.args.map TokR.up, s.at'.1, s.at'.2, s.en.1, s.en.2⟩

theorem toks_up (l : List TokR) : Sub (toksV l) (sl tokEI 5 (l.map TokR.up) .view) := by
  unfold toksV sl
  rw [List.length_map]
  refine Sub.el fun i hi => ?_
  rw [getD_def (by simpa using hi), getD_def hi, List.getElem_map]
  rfl

theorem stmtE_up (s : StR) : SubL (stmtE s) (stmtEI s.up) := by
  simp only [stmtE, stmtEI, tokE, tokEI, encT, List.cons_append, List.nil_append]
  exact .cons (.refl _) (.cons (.refl _) (.cons (.refl _) (.cons (.refl _) (.cons (.refl _) (.cons (.refl _) (.cons (.refl _) (.cons (.refl _) (.cons (.refl _) (.cons (.refl _) (.cons (.refl _) (.cons (toks_up _) (SubL.refl _))))))))))))

theorem stmt_up (s : StR) : Sub (.agg (stmtE s)) (.agg (stmtEI s.up)) := Sub.aggL (stmtE_up s)

theorem stmts_up (l : List StR) : Sub (stmtsV l) (stmtsI (l.map StR.up)) := by
  unfold stmtsV stmtsI sl
  rw [List.length_map]
  refine Sub.els fun i hi => ?_
  have e : (l.map StR.up).getD i default = (l.getD i default).up := by rw [getD_def (by simpa using hi), getD_def hi, List.getElem_map]
  rw [e]
  exact stmtE_up _

def lnWords (s : StI) : List (List UInt8) :=
  if s.k = 1 then wLimits :: s.args.map (·.w) else if s.k = 2 then [wMode, s.word.w] else if s.k = 3 then wPoint :: s.args.map (·.w)
  else if s.k = 4 then s.new.w :: [61] :: s.word.w :: s.args.map (·.w) else if s.k = 5 then wShow :: s.word.w :: s.args.map (·.w) else []

/-- A statement's line. -/
def lineI (s : StI) : List UInt8 := Lib.join (lnWords s) [32]

theorem lnWords_up (s : StR) : lnWords s.up = stWords s := by
  have e : (s.args.map TokR.up).map (·.w) = s.args.map (·.w) := by rw [List.map_map]; rfl
  simp only [lnWords, stWords, StR.up, e]
  rfl

/-- The words of a statement's line, added up. -/
def lenI (s : StI) : Nat := s.new.w.length + s.word.w.length + cntL (s.args.map (·.w))

theorem lineI_len (s : StI) : (lineI s).length ≤ lenI s + 20 := by
  have h := (join_cnt 32 (lnWords s)).1
  have e1 : ∀ (x : List UInt8) xs, cntL (x :: xs) = x.length + 1 + cntL xs := fun _ _ => rfl
  have e0 : cntL [] = 0 := rfl
  have l1 : wLimits.length = 6 := rfl
  have l2 : wMode.length = 4 := rfl
  have l3 : wPoint.length = 5 := rfl
  have l4 : wShow.length = 4 := rfl
  have l5 : ([61] : List UInt8).length = 1 := rfl
  unfold lineI
  refine Nat.le_trans h ?_
  unfold lnWords lenI
  split
  · rw [e1]; omega
  split
  · rw [e1, e1, e0]; omega
  split
  · rw [e1]; omega
  split
  · rw [e1, e1, e1]; omega
  split
  · rw [e1, e1]; omega
  · rw [e0]; omega

end Go.Proofs.YtgbmanmcioailaaDoor
