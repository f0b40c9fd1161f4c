/-
  Plain law of layer 20: a line's statement, a script's statements.
-/
import Derived.Test.YtjinaakebjfbiaaGreatDoorLx4
namespace Go.Proofs.YtjinaakebjfbiaaGreatDoor
open Go.Ab

structure StR where
  k : Int
  new : TokR
  word : TokR
  args : List TokR
  at' : Nat × Nat
  en : Nat × Nat
  deriving DecidableEq, Inhabited

def tok0 : TokR := ⟨0, [], 0, 0, 0⟩

def stmtE (s : StR) : List AV := .int .u8 s.k :: (tokE s.new ++ (tokE s.word ++ [toksV s.args, .int .i64 s.at'.1, .int .i64 s.at'.2, .int .i64 s.en.1, .int .i64 s.en.2]))
def stmtsV (l : List StR) : AV := sl stmtE 16 l .view

/-- Where the next word stands, or the line ends. -/
def atP (e : Nat × Nat) : List TokR → Nat × Nat
  | [] => e
  | t :: _ => (t.ln, t.co)

/-- The first word that is of none of the kinds. -/
def oddT (ks : List Int) : List TokR → Option TokR
  | [] => none
  | t :: l => if ks.contains t.k then oddT ks l else some t

def needK (k : Int) (r : List TokR) (e : Nat × Nat) (f : TokR → List TokR → (Nat × Nat) ⊕ StR) : (Nat × Nat) ⊕ StR :=
  match r with
  | [] => .inl e
  | t :: r' => if t.k = k then f t r' else .inl (t.ln, t.co)

def allK (ks : List Int) (r : List TokR) (s : StR) : (Nat × Nat) ⊕ StR :=
  match oddT ks r with
  | some t => .inl (t.ln, t.co)
  | none => .inr s

def endOf (l : List TokR) : Nat × Nat := ((l.getLastD tok0).ln, (l.getLastD tok0).co + (l.getLastD tok0).w.length)

def wLimits : List UInt8 := [108, 105, 109, 105, 116, 115]
def wMode : List UInt8 := [109, 111, 100, 101]
def wPoint : List UInt8 := [112, 111, 105, 110, 116]
def wShow : List UInt8 := [115, 104, 111, 119]

def stmtF : List TokR → (Nat × Nat) ⊕ StR
  | [] => .inl (0, 0)
  | t0 :: r0 =>
    if t0.k = 1 then needK 4 r0 (endOf (t0 :: r0)) fun _ r1 => needK 2 r1 (endOf (t0 :: r0)) fun t2 r2 => allK [1, 3] r2 ⟨4, t0, t2, r2, (t0.ln, t0.co), endOf (t0 :: r0)⟩
    else if t0.k ≠ 2 then .inl (t0.ln, t0.co)
    else if t0.w = wLimits then allK [3] r0 ⟨1, tok0, tok0, r0, (t0.ln, t0.co), endOf (t0 :: r0)⟩
    else if t0.w = wMode then needK 2 r0 (endOf (t0 :: r0)) fun t1 r1 => allK [] r1 ⟨2, tok0, t1, [], (t0.ln, t0.co), endOf (t0 :: r0)⟩
    else if t0.w = wPoint then allK [1] r0 ⟨3, tok0, tok0, r0, (t0.ln, t0.co), endOf (t0 :: r0)⟩
    else if t0.w = wShow then needK 2 r0 (endOf (t0 :: r0)) fun t1 r1 => allK [1, 3] r1 ⟨5, tok0, t1, r1, (t0.ln, t0.co), endOf (t0 :: r0)⟩
    else .inl (t0.ln, t0.co)

def parseG : List (List TokR) → (Nat × Nat) ⊕ List StR
  | [] => .inr []
  | l :: ls => match stmtF l with
    | .inl e => .inl e
    | .inr s => match parseG ls with
      | .inl e => .inl e
      | .inr r => .inr (s :: r)

def parseF (s : List UInt8) : (Nat × Nat) ⊕ List StR := match linesF s with
  | .inl e => .inl e
  | .inr ls => parseG ls

def parseR (s : List UInt8) : AV := if s.length > 65536 then .tuple [stmtsV [], placeV 0 0, .int .i64 3] else match parseF s with
  | .inl (l, c) => .tuple [stmtsV [], placeV l c, .int .i64 4]
  | .inr r => .tuple [stmtsV r, placeV 0 0, .int .i64 0]

end Go.Proofs.YtjinaakebjfbiaaGreatDoor
