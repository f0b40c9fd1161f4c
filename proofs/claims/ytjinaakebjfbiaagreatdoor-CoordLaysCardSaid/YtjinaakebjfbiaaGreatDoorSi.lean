/-
  Statements as any data: their cells.
-/
import Derived.Test.YtjinaakebjfbiaaGreatDoorPr0
import Derived.Test.YtjinaakebjfbiaaGreatDoorAbC
import Derived.Test.YtjinaakebjfbiaaGreatDoorRx3
namespace Go.Proofs.YtjinaakebjfbiaaGreatDoor
open Go.Ab

structure TokI where
  k : Int
  w : List UInt8
  n : Int
  ln : Int
  co : Int
  deriving DecidableEq, Inhabited

structure StI where
  k : Int
  new : TokI
  word : TokI
  args : List TokI
  l1 : Int
  c1 : Int
  l2 : Int
  c2 : Int
  deriving DecidableEq, Inhabited

def tokEI (t : TokI) : List AV := encT t.k t.w t.n t.ln t.co
def stmtEI (s : StI) : List AV := .int .u8 s.k :: (tokEI s.new ++ (tokEI s.word ++ [sl tokEI 5 s.args .view, .int .i64 s.l1, .int .i64 s.c1, .int .i64 s.l2, .int .i64 s.c2]))
def stmtsI (l : List StI) : AV := sl stmtEI 16 l .view

def TokR.up (t : TokR) : TokI := ⟨t.k, t.w, t.n, t.ln, t.co⟩
def StR.up (s : StR) : StI := ⟨s.k, s.new.up, s.word.up, s.args.map TokR.up, s.at'.1, s.at'.2, s.en.1, s.en.2⟩

theorem toks_up (l : List TokR) : Sub (toksV l) (sl tokEI 5 (l.map TokR.up) .view) := by
  unfold toksV sl
  rw [List.length_map]
  refine Sub.el fun i hi => ?_
  rw [getD_def (by simpa using hi), getD_def hi, List.getElem_map]
  rfl

theorem stmtE_up (s : StR) : SubL (stmtE s) (stmtEI s.up) := by
  simp only [stmtE, stmtEI, tokE, tokEI, encT, List.cons_append, List.nil_append]
  exact .cons (.refl _) (.cons (.refl _) (.cons (.refl _) (.cons (.refl _) (.cons (.refl _) (.cons (.refl _) (.cons (.refl _) (.cons (.refl _) (.cons (.refl _) (.cons (.refl _) (.cons (.refl _) (.cons (toks_up _) (SubL.refl _))))))))))))

theorem stmts_up (l : List StR) : Sub (stmtsV l) (stmtsI (l.map StR.up)) := by
  unfold stmtsV stmtsI sl
  rw [List.length_map]
  refine Sub.els fun i hi => ?_
  have e : (l.map StR.up).getD i default = (l.getD i default).up := by rw [getD_def (by simpa using hi), getD_def hi, List.getElem_map]
  rw [e]
  exact stmtE_up _

end Go.Proofs.YtjinaakebjfbiaaGreatDoor
