/-
  Operations that only reckon: from the operands' abstract values to the result's, with what must hold for it; and that the model's operation does so.
-/
import Derived.Test.YtgbmanmcioailaaDoorAb2
import Derived.Lib.Strings
namespace Go.Ab

inductive TyK where
  | int (k : IntKind)
  | bool
  | str
  | ptr (e : TypeId)
  | iface
  | func
  | map (k e : TypeId)
  | slice (e : TypeId)
  | struct (fs : List (Nat × TypeId))
  | array (n : Nat) (e : TypeId)
  | other

structure TyI where
  k : TyK
  size : Nat
  bytes : Nat
  zero : AV

def TyK.fits : TyK → TypeDesc → Prop
  | .int k, d => d = .int k
  | .bool, d => d = .bool
  | .str, d => d = .string
  | .ptr e, d => d = .pointer e
  | .iface, d => ∃ m, d = .interface m
  | .func, d => ∃ a b c, d = .func a b c
  | .map k e, d => d = .map k e
  | .slice e, d => d = .slice e
  | .struct fs, d => ∃ a : Array Field, d = .struct a ∧ a.toList.map (fun f => (f.offset, f.type)) = fs
  | .array n e, d => d = .array n e
  | .other, _ => True

/-- A table of types that tells a program's types as they are. -/
def TyOk (P : Program) (ty : TypeId → Option TyI) : Prop := ∀ t i, ty t = some i →
  (∃ d, P.underlying t = some d ∧ i.k.fits d) ∧
  ∃ inf z, P.info? t = some inf ∧ inf.size = i.size ∧ inf.bytes = i.bytes ∧ inf.zero = some z ∧ z.cells.size = i.size ∧ (∀ st w, Rep st w i.zero z) ∧ ∀ x ∈ z.cells.toList, x.oneCell' = true

def TyK.isAgg : TyK → Bool
  | .struct _ | .array _ _ => true
  | _ => false

def inK : IntKind → Int → Prop
  | .i8, n => -128 ≤ n ∧ n ≤ 127
  | .i16, n => -32768 ≤ n ∧ n ≤ 32767
  | .i32, n => -2147483648 ≤ n ∧ n ≤ 2147483647
  | .i64, n => -9223372036854775808 ≤ n ∧ n ≤ 9223372036854775807
  | .u8, n => 0 ≤ n ∧ n ≤ 255
  | .u16, n => 0 ≤ n ∧ n ≤ 65535
  | .u32, n => 0 ≤ n ∧ n ≤ 4294967295
  | .u64, n => 0 ≤ n ∧ n ≤ 18446744073709551615

theorem wrap_inK {k : IntKind} {n : Int} (h : inK k n) : k.wrap n = n := by
  cases k <;> simp only [inK] at h
  · exact IntWalk.i8_in n h
  · exact IntWalk.i16_in n h
  · exact IntWalk.i32_in n h
  · exact IntWalk.i64_in n h
  · exact IntWalk.u8_in n h
  · exact IntWalk.u16_in n h
  · exact IntWalk.u32_in n h
  · exact IntWalk.u64_in n h

/-- A sum's kind: an int must hold it; another kind wraps. -/
def arith (k : IntKind) (n : Int) : Option (Prop × AV) :=
  match k with
  | .i64 => some (inK .i64 n, .int .i64 n)
  | k => some (True, .int k (k.wrap n))

def bits (op : BinOp) (k : IntKind) (x y : Int) : Int :=
  let a := BitVec.ofInt k.bits x
  let b := BitVec.ofInt k.bits y
  match op with
  | .and => k.wrap (a &&& b).toNat
  | .or => k.wrap (a ||| b).toNat
  | .xor => k.wrap (a ^^^ b).toNat
  | .andNot => k.wrap (a &&& ~~~b).toNat
  | _ => 0

def aint (op : BinOp) (k : IntKind) (a b : Int) : Option (Prop × AV) :=
  match op with
  | .add => arith k (a + b)
  | .sub => arith k (a - b)
  | .mul => arith k (a * b)
  | .quo => some (0 ≤ a ∧ 0 < b ∧ inK k a, .int k (a / b))
  | .rem => some (0 ≤ a ∧ 0 < b, .int k (a % b))
  | .and => some (True, .int k (bits .and k a b))
  | .or => some (True, .int k (bits .or k a b))
  | .xor => some (True, .int k (bits .xor k a b))
  | .andNot => some (True, .int k (bits .andNot k a b))
  | .eql => some (True, .bool (a == b))
  | .neq => some (True, .bool (a != b))
  | .lss => some (True, .bool (decide (a < b)))
  | .leq => some (True, .bool (decide (a ≤ b)))
  | .gtr => some (True, .bool (decide (a > b)))
  | .geq => some (True, .bool (decide (a ≥ b)))
  | _ => none

def astr (op : BinOp) (a b : List UInt8) : Option (Prop × AV) :=
  match op with
  | .add => some (a.length + b.length ≤ 9223372036854775807, .str (a ++ b))
  | .eql => some (True, .bool (a == b))
  | .neq => some (True, .bool (!(a == b)))
  | .lss => some (True, .bool (Op.bytesLess a b))
  | .leq => some (True, .bool (Op.bytesLess a b || a == b))
  | .gtr => some (True, .bool (!(Op.bytesLess a b || a == b)))
  | .geq => some (True, .bool (!(Op.bytesLess a b)))
  | _ => none

def abin (op : BinOp) (x y : AV) : Option (Prop × AV) :=
  match x with
  | .int k a => match y with
    | .int k' b => match op with
      | .shl => some (0 ≤ b, .int k (k.wrap (a * 2 ^ (min b.toNat k.bits))))
      | .shr => some (0 ≤ b, .int k (a.fdiv (2 ^ (min b.toNat k.bits))))
      | op => if k = k' then aint op k a b else none
    | _ => none
  | .str a => match y with
    | .str b => astr op a b
    | _ => none
  | _ => none

def abool (op : BinOp) (x y : AV) : Option (Prop × AV) :=
  match x with
  | .bool a => match y with
    | .bool b => match op with
      | .eql => some (True, .bool (a == b))
      | .neq => some (True, .bool (!(a == b)))
      | _ => none
    | _ => none
  | _ => none

def aun (op : UnOp) (x : AV) : Option (Prop × AV) :=
  match op with
  | .not => match x with
    | .bool b => some (True, .bool (!b))
    | _ => none
  | .neg => match x with
    | .int k n => arith k (0 - n)
    | _ => none
  | _ => none

def TyK.isOther : TyK → Bool
  | .other => true
  | _ => false

def partOf' (i : TyI) (cells : List AV) : Option AV :=
  match i.k.isAgg with
  | true => cond (Nat.ble i.size cells.length) (some (.agg (cells.take i.size))) none
  | false => cells.head?

/-- What lies at a place of cells: by its type. -/
def partOf (i : TyI) (cells : List AV) : Option AV := cond i.k.isOther none (partOf' i cells)

theorem partOf_not {i : TyI} {cells : List AV} {v : AV} (h : partOf i cells = some v) : (i.k = .other → False) ∧ partOf' i cells = some v := by
  unfold partOf at h
  cases hk : i.k.isOther with
  | true => simp [hk] at h
  | false =>
    refine ⟨fun e => ?_, by simpa [hk] using h⟩
    rw [e] at hk
    cases hk

def afaddr (fs : List (Nat × TypeId)) (fsz : TypeId → Option Nat) (x : AV) (f : Nat) : Option (Prop × AV) :=
  match fs[f]? with
  | some (off, ft) => match fsz ft with
    | some (_ + 1) => match x with
      | .ptr b o => some (True, .ptr b (o + off))
      | .rptr cells => some (True, .rptr (cells.drop off))
      | _ => none
    | _ => none
  | none => none

def afield (fs : List (Nat × TypeId)) (ti : TypeId → Option TyI) (x : AV) (f : Nat) : Option (Prop × AV) :=
  match fs[f]? with
  | some (off, ft) => match ti ft with
    | some i => match x with
      | .agg cells => match partOf i (cells.drop off) with
        | some v => some (True, v)
        | none => none
      | _ => none
    | none => none
  | none => none

def aidxaddr (k : TyK) (ti : TypeId → Option TyI) (x : AV) (ix : AV) : Option (Prop × AV) :=
  match ix with
  | .int _ i => match k with
    | .slice e => match ti e with
      | some ei => match x with
        | .slice sz n el _ => cond (Nat.beq sz ei.size) (some (0 ≤ i ∧ i < (n : Int), .rptr (el i.toNat))) none
        | .mslice b off len _ => cond (Nat.beq ei.size 1) (some (0 ≤ i ∧ i < (len : Int), .ptr b (off + i.toNat))) none
        | _ => none
      | none => none
    | .array n e => match ti e with
      | some ei => match x with
        | .ptr b off => cond (Nat.beq ei.size 1) (some (0 ≤ i ∧ i < (n : Int), .ptr b (off + i.toNat))) none
        | _ => none
      | none => none
    | _ => none
  | _ => none

def aindex (k : TyK) (ti : TypeId → Option TyI) (x : AV) (ix : AV) : Option (Prop × AV) :=
  match ix with
  | .int _ i => match k with
    | .str => match x with
      | .str s => some (0 ≤ i ∧ i < (s.length : Int), .int .u8 (s.getD i.toNat 0).toNat)
      | _ => none
    | .array n e => match ti e with
      | some ei => match x with
        | .vec n' el => cond (Nat.beq n n' && !ei.k.isAgg && !ei.k.isOther && Nat.beq ei.size 1) (some (0 ≤ i ∧ i < (n : Int), el i.toNat)) none
        | _ => none
      | none => none
    | _ => none
  | _ => none

def aslice (k : TyK) (ti : TypeId → Option TyI) (x : AV) (lo hi : Option AV) : Option (Prop × AV) :=
  match k with
  | .str => match x with
    | .str s => match lo with
      | none => match hi with
        | none => some (True, .str s)
        | some (.int _ h) => some (0 ≤ h ∧ h ≤ (s.length : Int), .str (s.take h.toNat))
        | _ => none
      | some (.int _ l) => match hi with
        | none => some (0 ≤ l ∧ l ≤ (s.length : Int), .str (s.drop l.toNat))
        | some (.int _ h) => some (0 ≤ l ∧ l ≤ h ∧ h ≤ (s.length : Int), .str ((s.take h.toNat).drop l.toNat))
        | _ => none
      | _ => none
    | _ => none
  | .slice e => match ti e with
    | none => none
    | some ei => match x with
      | .slice sz n el _ => cond (Nat.beq sz ei.size) (match lo with
        | none => match hi with
          | none => some (True, .slice sz n el .view)
          | some (.int _ h) => some (0 ≤ h ∧ h ≤ (n : Int), .slice sz h.toNat el .view)
          | _ => none
        | some (.int _ l) => match hi with
          | none => some (0 ≤ l ∧ l ≤ (n : Int), .slice sz (n - l.toNat) (fun i => el (l.toNat + i)) .view)
          | some (.int _ h) => some (0 ≤ l ∧ l ≤ h ∧ h ≤ (n : Int), .slice sz (h.toNat - l.toNat) (fun i => el (l.toNat + i)) .view)
          | _ => none
        | _ => none) none
      | _ => none
  | _ => none

def alenS (x : AV) : Option (Prop × AV) :=
  match x with
  | .str s => some (True, .int .i64 s.length)
  | _ => none

def alen (x : AV) : Option (Prop × AV) :=
  match x with
  | .slice _ n _ _ => some (True, .int .i64 n)
  | .mslice _ _ n _ => some (True, .int .i64 n)
  | .nils => some (True, .int .i64 0)
  | _ => none

def cellsOf : AV → Option (List AV)
  | .agg cs => some cs
  | .vec _ _ => none
  | .tuple _ => none
  | .opt _ _ _ => none
  | .any => none
  | .conc _ => none
  | v => some [v]

def setAt {α : Type} : List α → Nat → List α → List α
  | l, _, [] => l
  | l, off, v :: vs => setAt (l.set off v) (off + 1) vs

/-- A struct out of its parts. -/
def abuild (fs : List (Nat × TypeId)) (ti : TypeId → Option TyI) : List AV → List (Nat × AV) → Option (List AV)
  | cells, [] => some cells
  | cells, (f, v) :: rest => match fs[f]? with
    | some (off, ft) => match ti ft with
      | some i => match cellsOf v with
        | some vs => cond (Nat.beq vs.length i.size && Nat.ble (off + vs.length) cells.length) (abuild fs ti (setAt cells off vs) rest) none
        | none => none
      | none => none
    | none => none

def mapF (F : Operand → Option AV) : List Operand → Option (List AV)
  | [] => some []
  | x :: xs => match F x with
    | some v => match mapF F xs with
      | some vs => some (v :: vs)
      | none => none
    | none => none

def mapP (F : Operand → Option AV) : List (Nat × Operand) → Option (List (Nat × AV))
  | [] => some []
  | (i, x) :: xs => match F x with
    | some v => match mapP F xs with
      | some vs => some ((i, v) :: vs)
      | none => none
    | none => none

def optF (F : Operand → Option AV) : Option Operand → Option (Option AV)
  | none => some none
  | some x => match F x with
    | some v => some (some v)
    | none => none

def just (x : Option AV) : Option (Prop × AV) := match x with | some v => some (True, v) | none => none

def aconv (ks kd : TyK) (x : AV) : Option (Prop × AV) :=
  match kd with
  | .int k => match x with
    | .int _ n => some (True, .int k (k.wrap n))
    | _ => none
  | .str => match ks with
    | .str => match x with
      | .str s => some (True, .str s)
      | _ => none
    | _ => none
  | _ => none

def amm (b : Builtin) (x y : AV) : Option (Prop × AV) :=
  match x with
  | .int k a => match y with
    | .int _ c => match b with
      | .min => some (True, .int k (if c < a then c else a))
      | .max => some (True, .int k (if c > a then c else a))
      | _ => none
    | _ => none
  | _ => none

def aeval (ty : TypeId → Option TyI) (F : Operand → Option AV) : Op → Option (Prop × AV)
  | .move x => just (F x)
  | .assign x => just (F x)
  | .pick c a b => match F c with
    | some (.bool true) => just (F a)
    | some (.bool false) => just (F b)
    | _ => none
  | .binOp op t x y _ => match F x with
    | some vx => match F y with
      | some vy => match ty t with
        | some i => match i.k with
          | .bool => abool op vx vy
          | .int _ => abin op vx vy
          | .str => abin op vx vy
          | _ => none
        | none => none
      | none => none
    | none => none
  | .unOp op _ x => match F x with
    | some v => aun op v
    | none => none
  | .convert s d x => match F x with
    | some v => match ty s with
      | some is => match ty d with
        | some id => aconv is.k id.k v
        | none => none
      | none => none
    | none => none
  | .fieldAddr s x f => match F x with
    | some v => match ty s with
      | some i => match i.k with
        | .struct fs => afaddr fs (fun t => (ty t).map (·.size)) v f
        | _ => none
      | none => none
    | none => none
  | .field s x f => match F x with
    | some v => match ty s with
      | some i => match i.k with
        | .struct fs => afield fs ty v f
        | _ => none
      | none => none
    | none => none
  | .indexAddr t x ix => match F x with
    | some v => match F ix with
      | some vi => match ty t with
        | some i => aidxaddr i.k ty v vi
        | none => none
      | none => none
    | none => none
  | .index t x ix => match F x with
    | some v => match F ix with
      | some vi => match ty t with
        | some i => aindex i.k ty v vi
        | none => none
      | none => none
    | none => none
  | .load t a => match F a with
    | some (.rptr cells) => match ty t with
      | some i => just (partOf i cells)
      | none => none
    | _ => none
  | .slice t x lo hi none => match F x with
    | some v => match optF F lo with
      | some vlo => match optF F hi with
        | some vhi => match ty t with
          | some i => aslice i.k ty v vlo vhi
          | none => none
        | none => none
      | none => none
    | none => none
  | .build t ps => match ty t with
    | some i => match i.k with
      | .struct fs => match i.zero with
        | .agg z => match mapP F ps.toList with
          | some vs => match abuild fs ty z vs with
            | some cells => cond (fs.all fun q => (ty q.2).isSome) (some (True, .agg cells)) none
            | none => none
          | none => none
        | _ => none
      | _ => none
    | none => none
  | .makeFunc fn first captured => match mapF F first.toList with
    | some f => match mapF F captured.toList with
      | some c => some (True, .func fn f c)
      | none => none
    | none => none
  | .makeInterface t x => match F x with
    | some v => match ty t with
      | some i => match i.k with
        | .iface => none
        | .other => none
        | _ => some (True, .iface t v)
      | none => none
    | none => none
  | .extract x ix => match F x with
    | some (.tuple vs) => just vs[ix]?
    | _ => none
  | .nilCheck x => match F x with
    | some (.ptr b o) => some (True, .ptr b o)
    | some (.rptr c) => some (True, .rptr c)
    | some (.func (.func f) a c) => some (True, .func (.func f) a c)
    | _ => none
  | .call { callee := .builtin b, args := args, argTypes := ats } => match b with
    | .len => match args.toList with
      | [x] => match F x with
        | some v => match ats.toList with
          | [t] => match ty t with
            | some i => match i.k with
              | .str => alenS v
              | .slice _ => alen v
              | _ => none
            | none => none
          | _ => none
        | none => none
      | _ => none
    | .min => match args.toList with
      | [x, y] => match F x with
        | some v => match F y with
          | some u => amm .min v u
          | none => none
        | none => none
      | _ => none
    | .max => match args.toList with
      | [x, y] => match F x with
        | some v => match F y with
          | some u => amm .max v u
          | none => none
        | none => none
      | _ => none
    | _ => none
  | _ => none

end Go.Ab
