/- The abstract layer, part B: operations that only compute or read: their abstract values, and that the model agrees. -/
import Derived.Test.YtfjmpdoidkblcaaDoorAbsA
set_option linter.unusedSimpArgs false
set_option linter.unusedVariables false
namespace Go.Ab
open Go

/-- What kind of type this is, as far as the operations ask. -/
inductive TK where
  | arr (n elem : Nat)
  | str (fields : List (Nat × Nat))      -- offset, type
  | slice (elem : Nat)
  | ptr (elem : Nat)
  | int (k : IntKind)
  | bool
  | string
  | other
  deriving Inhabited

def TK.isAgg : TK → Bool
  | .arr _ _ | .str _ => true
  | _ => false

def TK.of : TypeDesc → TK
  | .array n e => .arr n e
  | .struct fs => .str (fs.toList.map fun f => (f.offset, f.type))
  | .slice e => .slice e
  | .pointer e => .ptr e
  | .int k => .int k
  | .bool => .bool
  | .string => .string
  | _ => .other

/-- size in cells, size in bytes, kind -/
structure TI where
  size : Nat
  bytes : Nat
  kind : TK
  deriving Inhabited

def tinfo (P : Program) (t : Nat) : Option TI :=
  match P.info? t, P.underlying t with
  | some i, some d => some ⟨i.size, i.bytes, TK.of d⟩
  | _, _ => none

def tzero (P : Program) (t : Nat) : Option AV := ((P.info? t).bind (·.zero)).map ofVal

theorem tinfo_some {P : Program} {t : Nat} {i : TI} (h : tinfo P t = some i) :
    ∃ j d, P.info? t = some j ∧ P.underlying t = some d ∧ i.size = j.size ∧ i.bytes = j.bytes ∧ i.kind = TK.of d := by
  unfold tinfo at h
  split at h
  · rename_i j d h1 h2
    simp only [Option.some.injEq] at h
    subst h
    exact ⟨j, d, h1, h2, rfl, rfl, rfl⟩
  · simp at h

theorem TK.of_arr {d : TypeDesc} {n e : Nat} (h : TK.arr n e = TK.of d) : d = .array n e := by
  cases d <;> simp_all [TK.of]

theorem TK.of_slice {d : TypeDesc} {e : Nat} (h : TK.slice e = TK.of d) : d = .slice e := by
  cases d <;> simp_all [TK.of]

theorem TK.of_int {d : TypeDesc} {k : IntKind} (h : TK.int k = TK.of d) : d = .int k := by
  cases d <;> simp_all [TK.of]

theorem TK.of_bool {d : TypeDesc} (h : TK.bool = TK.of d) : d = .bool := by
  cases d <;> simp_all [TK.of]

theorem TK.of_string {d : TypeDesc} (h : TK.string = TK.of d) : d = .string := by
  cases d <;> simp_all [TK.of]

theorem TK.of_str {d : TypeDesc} {l : List (Nat × Nat)} (h : TK.str l = TK.of d) : ∃ fs, d = .struct fs ∧ l = fs.toList.map fun f => (f.offset, f.type) := by
  cases d <;> simp_all [TK.of]

theorem run_underlying {P : Program} {t : Nat} {d : TypeDesc} (h : P.underlying t = some d) (w : World) : (underlying t).run P w = .ok d w := by
  simp [underlying, h]

theorem run_typeInfo {P : Program} {t : Nat} {i : TypeInfo} (h : P.info? t = some i) (w : World) : (typeInfo t).run P w = .ok i w := by
  simp [typeInfo, h]

theorem run_sizeOf {P : Program} {t : Nat} {i : TypeInfo} (h : P.info? t = some i) (w : World) : (sizeOf t).run P w = .ok i.size w := by
  simp [sizeOf, run_typeInfo h]

theorem run_isAgg {P : Program} {t : Nat} {d : TypeDesc} (h : P.underlying t = some d) (w : World) : (isAgg t).run P w = .ok (TK.of d).isAgg w := by
  cases d <;> simp [isAgg, run_underlying h, TK.of, TK.isAgg]

/-- An integer's value, whatever its kind. -/
def AV.toI : AV → Option (IntKind × Int)
  | .int k n => some (k, n)
  | .u8 x => some (.u8, x.toNat)
  | .u32 x => some (.u32, x.toNat)
  | .u64 x => some (.u64, x.toNat)
  | _ => none

theorem rel_toI {ρ : Rho} {I : Imm} {w : World} {a : AV} {v : Value} {k : IntKind} {n : Int} (h : a.toI = some (k, n)) (r : rel ρ I w a v) : v = .int k n := by
  cases a <;> simp_all [AV.toI, rel]
  all_goals (obtain ⟨rfl, rfl⟩ := h; rfl)

/-- A value of a kind out of a number that is in its bounds. -/
def shl8 (a : UInt8) (n : Nat) : UInt8 := UInt8.ofNat (a.toNat * 2 ^ n)
def shl32 (a : UInt32) (n : Nat) : UInt32 := UInt32.ofNat (a.toNat * 2 ^ n)
def shl64 (a : UInt64) (n : Nat) : UInt64 := UInt64.ofNat (a.toNat * 2 ^ n)
def shr8 (a : UInt8) (n : Nat) : UInt8 := UInt8.ofNat (a.toNat / 2 ^ n)
def shr32 (a : UInt32) (n : Nat) : UInt32 := UInt32.ofNat (a.toNat / 2 ^ n)
def shr64 (a : UInt64) (n : Nat) : UInt64 := UInt64.ofNat (a.toNat / 2 ^ n)

def cvt (k : IntKind) (a : AV) : Option AV :=
  match k, a with
  | .u8, .u8 x => some (.u8 x)
  | .u8, .u32 x => some (.u8 x.toUInt8)
  | .u8, .u64 x => some (.u8 x.toUInt8)
  | .u8, .int _ n => some (.u8 (UInt8.ofNat (n % 256).toNat))
  | .u32, .u8 x => some (.u32 x.toUInt32)
  | .u32, .u32 x => some (.u32 x)
  | .u32, .u64 x => some (.u32 x.toUInt32)
  | .u32, .int _ n => some (.u32 (UInt32.ofNat (n % 4294967296).toNat))
  | .u64, .u8 x => some (.u64 x.toUInt64)
  | .u64, .u32 x => some (.u64 x.toUInt64)
  | .u64, .u64 x => some (.u64 x)
  | .u64, .int _ n => some (.u64 (UInt64.ofNat (n % 18446744073709551616).toNat))
  | .i64, .u8 x => some (.int .i64 x.toNat)
  | .i64, .u32 x => some (.int .i64 x.toNat)
  | k, a => match a.toI with
    | some (_, n) => some (.int k (k.wrap n))
    | none => none

/-- Arithmetic on two values of one kind. -/
def aArith (op : BinOp) (a b : AV) : Option (Prop × AV) :=
  match op, a, b with
  | .add, .u8 x, .u8 y => some (True, .u8 (x + y))
  | .sub, .u8 x, .u8 y => some (True, .u8 (x - y))
  | .mul, .u8 x, .u8 y => some (True, .u8 (x * y))
  | .and, .u8 x, .u8 y => some (True, .u8 (x &&& y))
  | .or, .u8 x, .u8 y => some (True, .u8 (x ||| y))
  | .xor, .u8 x, .u8 y => some (True, .u8 (x ^^^ y))
  | .andNot, .u8 x, .u8 y => some (True, .u8 (x &&& ~~~y))
  | .quo, .u8 x, .u8 y => some (y ≠ 0, .u8 (x / y))
  | .rem, .u8 x, .u8 y => some (y ≠ 0, .u8 (x % y))
  | .add, .u32 x, .u32 y => some (True, .u32 (x + y))
  | .sub, .u32 x, .u32 y => some (True, .u32 (x - y))
  | .mul, .u32 x, .u32 y => some (True, .u32 (x * y))
  | .and, .u32 x, .u32 y => some (True, .u32 (x &&& y))
  | .or, .u32 x, .u32 y => some (True, .u32 (x ||| y))
  | .xor, .u32 x, .u32 y => some (True, .u32 (x ^^^ y))
  | .andNot, .u32 x, .u32 y => some (True, .u32 (x &&& ~~~y))
  | .add, .u64 x, .u64 y => some (True, .u64 (x + y))
  | .sub, .u64 x, .u64 y => some (True, .u64 (x - y))
  | .mul, .u64 x, .u64 y => some (True, .u64 (x * y))
  | .and, .u64 x, .u64 y => some (True, .u64 (x &&& y))
  | .or, .u64 x, .u64 y => some (True, .u64 (x ||| y))
  | .xor, .u64 x, .u64 y => some (True, .u64 (x ^^^ y))
  | .andNot, .u64 x, .u64 y => some (True, .u64 (x &&& ~~~y))
  | .add, .int k x, .int k' y => some (k' = k, .int k (k.wrap (x + y)))
  | .sub, .int k x, .int k' y => some (k' = k, .int k (k.wrap (x - y)))
  | .mul, .int k x, .int k' y => some (k' = k, .int k (k.wrap (x * y)))
  | .quo, .int k x, .int k' y => some (k' = k ∧ y ≠ 0, .int k (k.wrap (x.tdiv y)))
  | .rem, .int k x, .int k' y => some (k' = k ∧ y ≠ 0, .int k (x.tmod y))
  | .and, .int k x, .int k' y => some (k' = k, .int k (bits .and k x y))
  | .or, .int k x, .int k' y => some (k' = k, .int k (bits .or k x y))
  | .xor, .int k x, .int k' y => some (k' = k, .int k (bits .xor k x y))
  | .andNot, .int k x, .int k' y => some (k' = k, .int k (bits .andNot k x y))
  | _, _, _ => none

def aShift (op : BinOp) (a b : AV) : Option (Prop × AV) :=
  match b.toI with
  | none => none
  | some (_, n) =>
    match op, a with
    | .shl, .u8 x => some (0 ≤ n, .u8 (shl8 x n.toNat))
    | .shl, .u32 x => some (0 ≤ n, .u32 (shl32 x n.toNat))
    | .shl, .u64 x => some (0 ≤ n, .u64 (shl64 x n.toNat))
    | .shr, .u8 x => some (0 ≤ n, .u8 (shr8 x n.toNat))
    | .shr, .u32 x => some (0 ≤ n, .u32 (shr32 x n.toNat))
    | .shr, .u64 x => some (0 ≤ n, .u64 (shr64 x n.toNat))
    | .shl, .int .i64 x => some (0 ≤ n, .int .i64 (IntKind.i64.wrap (x * 2 ^ min n.toNat 64)))
    | .shr, .int .i64 x => some (0 ≤ n, .int .i64 (x.fdiv (2 ^ min n.toNat 64)))
    | _, _ => none

/-- Comparisons of integers. -/
def cmpI (op : BinOp) (x y : Int) : Option Bool :=
  match op with
  | .eql => some (x == y)
  | .neq => some (x != y)
  | .lss => some (decide (x < y))
  | .leq => some (decide (x ≤ y))
  | .gtr => some (decide (y < x))
  | .geq => some (decide (y ≤ x))
  | _ => none

def aCmp (op : BinOp) (a b : AV) : Option (Prop × AV) :=
  match a.toI, b.toI with
  | some (k, x), some (k', y) => (cmpI op x y).map fun r => (k' = k, .bool r)
  | _, _ => none

theorem run_shift_shl {P : Program} {w : World} {k yk : IntKind} {x y : Int} (h : 0 ≤ y) :
    (Op.shift .shl k x yk y).run P w = .ok (.int k (k.wrap (x * 2 ^ min y.toNat k.bits))) w := by
  have : ¬ y < 0 := by omega
  simp [Op.shift, this]

theorem run_shift_shr {P : Program} {w : World} {k yk : IntKind} {x y : Int} (h : 0 ≤ y) :
    (Op.shift .shr k x yk y).run P w = .ok (.int k (x.fdiv (2 ^ min y.toNat k.bits))) w := by
  have : ¬ y < 0 := by omega
  simp [Op.shift, this]

end Go.Ab

namespace Go.Ab
open Go

def AV.cells : AV → List AV
  | .agg l => l
  | v => [v]

/-- A list with some of its places overwritten. -/
def splice (c : List AV) (off : Nat) (l : List AV) : List AV := c.take off ++ l ++ c.drop (off + l.length)

/-- The cells that an address points into, and where. -/
def cellsAt (H : Heap) : AV → Option (List AV × Nat)
  | .ptr id off => match H[id]? with
    | some (.blk c _) => some (c, off)
    | some (.grow c _) => some (c, off)
    | _ => none
  | .vp c i => some (c, i)
  | _ => none

def addrAdd (n : Nat) : AV → Option AV
  | .ptr id off => some (.ptr id (off + n))
  | .vp c i => some (.vp c (i + n))
  | _ => none

def aload (ti : TI) (c : List AV) (off : Nat) : Prop × AV :=
  if ti.kind.isAgg then (off + ti.size ≤ c.length, .agg ((c.drop off).take ti.size)) else (off < c.length, c.getD off .any)

def pickA (b : Bool) (x y : AV) : AV :=
  match x, y with
  | .bool p, .bool q => .bool (cond b p q)
  | x, y => cond b x y

def aIndexAddr (P : Program) (ti : TI) (x : AV) (n : Int) : Option (Prop × AV) :=
  match ti.kind, x with
  | .arr len e, x => match tinfo P e with
    | some te => (addrAdd (n.toNat * te.size) x).map fun v => (0 ≤ n ∧ n < len, v)
    | none => none
  | .slice e, .sl id off _ len => (tinfo P e).map fun te => (0 ≤ n ∧ n < len, .ptr id (off + n.toNat * te.size))
  | .slice e, .vec _ len cells => (tinfo P e).map fun te => (0 ≤ n ∧ n < len, .vp cells (n.toNat * te.size))
  | _, _ => none

def aPart (P : Program) (e : Nat) (l : List AV) (off : Nat) : Option (Prop × AV) :=
  match tinfo P e with
  | none => none
  | some te => if te.kind.isAgg then some (True, .agg ((l.drop off).take te.size)) else some (off < l.length, l.getD off .any)

def aIndex (P : Program) (ti : TI) (x : AV) (n : Int) : Option (Prop × AV) :=
  match ti.kind, x with
  | .arr len e, .agg l => match tinfo P e with
    | some te => (aPart P e l (n.toNat * te.size)).map fun p => ((0 ≤ n ∧ n < len) ∧ p.1, p.2)
    | none => none
  | .string, .str s => some (0 ≤ n ∧ n < s.length, .u8 (s.getD n.toNat 0))
  | _, _ => none

def aUn (op : UnOp) (x : AV) : Option AV :=
  match op, x with
  | .not, .bool b => some (.bool !b)
  | .neg, .u64 x => some (.u64 (0 - x))
  | .neg, .int k n => some (.int k (k.wrap (0 - n)))
  | .xor, .u32 x => some (.u32 (~~~x))
  | .xor, .u64 x => some (.u64 (~~~x))
  | _, _ => none

def aBoolEq (op : BinOp) (a b : AV) : Option (Prop × AV) :=
  match op, a, b with
  | .eql, .bool x, .bool y => some (True, .bool (x == y))
  | .neq, .bool x, .bool y => some (True, .bool (x != y))
  | _, _, _ => none

def aStr (op : BinOp) (a b : AV) : Option (Prop × AV) :=
  match op, a, b with
  | .add, .str x, .str y => some (x.length + y.length < 9223372036854775808, .str (x ++ y))
  | .eql, .str x, .str y => some (True, .bool (x == y))
  | .neq, .str x, .str y => some (True, .bool (x != y))
  | .lss, .str x, .str y => some (True, .bool (Op.bytesLess x y))
  | .leq, .str x, .str y => some (True, .bool (Op.bytesLess x y || x == y))
  | .gtr, .str x, .str y => some (True, .bool !(Op.bytesLess x y || x == y))
  | .geq, .str x, .str y => some (True, .bool !(Op.bytesLess x y))
  | _, _, _ => none

/-- Are two values of one cell alike? -/
def aeqK (k : TK) (a b : AV) : Option Bool :=
  match k, a, b with
  | .int _, .u8 x, .u8 y => some (x == y)
  | .int _, .u32 x, .u32 y => some (x == y)
  | .int _, .u64 x, .u64 y => some (x == y)
  | .int _, .int k x, .int k' y => if k = k' then some (x == y) else none
  | .bool, .bool x, .bool y => some (x == y)
  | .string, .str x, .str y => some (x == y)
  | _, _, _ => none

def rowEq (k : TK) : List AV → List AV → Option Bool
  | [], [] => some true
  | a :: l, b :: l' => match aeqK k a b, rowEq k l l' with
    | some r, some s => some (r && s)
    | _, _ => none
  | _, _ => none

def rowShort (te : TI) (n : Nat) (xs ys : List AV) : Option Bool :=
  if te.size = 1 ∧ te.kind.isAgg = false ∧ xs.length = n ∧ ys.length = n then rowEq te.kind xs ys else none

def aeqIs (P : Program) (f : AV → AV → Option (Prop × Bool)) (e sz : Nat) (xs ys : List AV) : List Nat → Option (Prop × Bool)
  | [] => some (True, true)
  | i :: is => match aPart P e xs (i * sz), aPart P e ys (i * sz) with
    | some (c, a), some (c', b) => match f a b, aeqIs P f e sz xs ys is with
      | some (d, r), some (d', s) => some ((c ∧ c') ∧ d ∧ d', r && s)
      | _, _ => none
    | _, _ => none

def aeqFs (P : Program) (f : Nat → AV → AV → Option (Prop × Bool)) (xs ys : List AV) : List (Nat × Nat) → Option (Prop × Bool)
  | [] => some (True, true)
  | (off, ft) :: fs => match aPart P ft xs off, aPart P ft ys off with
    | some (c, a), some (c', b) => match f ft a b, aeqFs P f xs ys fs with
      | some (d, r), some (d', s) => some ((c ∧ c') ∧ d ∧ d', r && s)
      | _, _ => none
    | _, _ => none

/-- A struct type that can be compared field by field. -/
def strOk (P : Program) (t : Nat) : Bool := (P.fieldsOf t).all (fun f => f.name != "_") && !P.stoodInHeld t

def aeqT (P : Program) : Nat → Nat → AV → AV → Option (Prop × Bool)
  | 0, _, _, _ => none
  | d + 1, t, a, b => match tinfo P t with
    | none => none
    | some ti => match ti.kind, a, b with
      | .arr n e, .agg xs, .agg ys => match tinfo P e with
        | some te => match rowShort te n xs ys with
          | some r => some (True, r)
          | none => aeqIs P (aeqT P d e) e te.size xs ys (List.range n)
        | none => none
      | .str fs, .agg xs, .agg ys => match aeqFs P (aeqT P d) xs ys fs with
        | some (c, r) => some (strOk P t = true ∧ c, r)
        | none => none
      | k, a, b => (aeqK k a b).map fun r => (True, r)

def eqFree (P : Program) (t : Nat) : Prop := P.eqGuardType P.depth t = false

def aAggEq (P : Program) (op : BinOp) (t : Nat) (a b : AV) : Option (Prop × AV) :=
  match op with
  | .eql => match aeqT P 8 t a b with
    | some (c, r) => some (eqFree P t ∧ c, .bool r)
    | none => none
  | .neq => match aeqT P 8 t a b with
    | some (c, r) => some (eqFree P t ∧ c, .bool (!r))
    | none => none
  | _ => none

def aBin (P : Program) (op : BinOp) (t : Nat) (a b : AV) : Option (Prop × AV) :=
  match aArith op a b with
  | some r => some r
  | none => match (if op = .shl ∨ op = .shr then aShift op a b else aCmp op a b) with
    | some r => some r
    | none => match tinfo P t with
      | some ⟨_, _, .bool⟩ => aBoolEq op a b
      | some ⟨_, _, .string⟩ => aStr op a b
      | some ⟨_, _, .arr _ _⟩ => aAggEq P op t a b
      | some ⟨_, _, .str _⟩ => aAggEq P op t a b
      | _ => none

/-- The model's own entry for a function without a body. -/
def IsExt (P : Program) (f : FuncId) (e : Array Value → Sem Value) : Prop :=
  ∀ (args : Array Value) (w : World), (callFunc f args).run P w = ((e args).run P w).andThen fun v w' => .ok (.value v) w'

def sub64Entry : Array Value → Sem Value := fun args => do
  let (x, y, b) ← Extern.MathBitsCarry.three "Sub64" args
  pure (Extern.MathBitsCarry.pair ((x + Extern.MathBitsCarry.m64 - y - b) % Extern.MathBitsCarry.m64) (if x < y + b then 1 else 0))

def carry64 (x y c : UInt64) : UInt64 := if x.toNat + y.toNat + c.toNat < 18446744073709551616 then 0 else 1
def borrow64 (x y c : UInt64) : UInt64 := if x.toNat < y.toNat + c.toNat then 1 else 0

def aext (P : Program) (k : FK) (f : FuncId) (args : List AV) : Option (Prop × AV) :=
  match k, args with
  | .add64, [.u64 x, .u64 y, .u64 c] => some (IsExt P f add64Entry ∧ c.toNat ≤ 1, .tup [.u64 (x + y + c), .u64 (carry64 x y c)])
  | .sub64, [.u64 x, .u64 y, .u64 c] => some (IsExt P f sub64Entry ∧ c.toNat ≤ 1, .tup [.u64 (x - y - c), .u64 (borrow64 x y c)])
  | _, _ => none

def alen (k : TK) (x : AV) : Option AV :=
  match k, x with
  | .slice _, .vec _ n _ => some (.int .i64 n)
  | .slice _, .sl _ _ _ n => some (.int .i64 n)
  | .string, .str s => some (.int .i64 s.length)
  | _, _ => none

def aminmax (mx : Bool) (args : List AV) : Option AV :=
  match args with
  | [.int .i64 x, .int .i64 y] => some (.int .i64 (if mx then max x y else min x y))
  | _ => none

def known : AV → Bool
  | .any => false
  | .raw v => v.oneCell'
  | _ => true

/-- Parts written into a zero value's cells. -/
def afill (place : Nat → Option (Nat × Nat)) (cells : List AV) : List (Nat × AV) → Option (Prop × List AV)
  | [] => some (True, cells)
  | (i, v) :: rest =>
    match place i with
    | none => none
    | some (off, size) =>
      match afill place (splice cells off v.cells) rest with
      | some (c, l) => some ((known v = true ∧ v.cells.length = size ∧ off + size ≤ cells.length) ∧ c, l)
      | none => none

def aplace (P : Program) (fs : List (Nat × Nat)) (i : Nat) : Option (Nat × Nat) :=
  match fs[i]? with
  | some (off, ft) => match tinfo P ft with
    | some tf => some (off, tf.size)
    | none => none
  | none => none

def aplaceE (n i : Nat) : Option (Nat × Nat) := some (i * n, n)

/-- A value of parts. -/
def abuild (P : Program) (t : Nat) (parts : List (Nat × AV)) : Option (Prop × AV) :=
  match tzero P t, tinfo P t with
  | some z, some ⟨_, _, .arr _ e⟩ => match tinfo P e with
    | some ie => match afill (aplaceE ie.size) z.cells parts with
      | some (c, l) => some (known z = true ∧ c, .agg l)
      | none => none
    | none => none
  | some z, some ⟨_, _, .str fs⟩ => match afill (aplace P fs) z.cells parts with
    | some (c, l) => some ((known z = true ∧ (fs.all fun f => (tinfo P f.2).isSome) = true) ∧ c, .agg l)
    | none => none
  | _, _ => none


def aval0 (P : Program) (X : Nat → FK) (op : Op) (ev : Operand → AV) (H : Heap) : Option (Prop × AV) :=
  match op with
  | .move x => some (True, ev x)
  | .assign x => some (True, ev x)
  | .pick c a b => match ev c with
    | .bool r => some (True, pickA r (ev a) (ev b))
    | _ => none
  | .extract t i => match ev t with
    | .tup l => some (i < l.length, l.getD i .any)
    | _ => none
  | .load t a => match tinfo P t, cellsAt H (ev a) with
    | some ti, some (c, off) => some (aload ti c off)
    | _, _ => none
  | .fieldAddr s x f => match tinfo P s with
    | some ⟨_, _, .str fs⟩ => match fs[f]? with
      | some (off, ft) => match tinfo P ft with
        | some tf => if tf.size = 0 then none else (addrAdd off (ev x)).map fun v => (True, v)
        | none => none
      | none => none
    | _ => none
  | .indexAddr t x i => match (ev i).toI, tinfo P t with
    | some (_, n), some ti => aIndexAddr P ti (ev x) n
    | _, _ => none
  | .index t x i => match (ev i).toI, tinfo P t with
    | some (_, n), some ti => aIndex P ti (ev x) n
    | _, _ => none
  | .field t x f => match tinfo P t with
    | some ⟨_, _, .str fs⟩ => match fs[f]?, ev x with
      | some (off, ft), .agg l => aPart P ft l off
      | _, _ => none
    | _ => none
  | .binOp op t x y _ => aBin P op t (ev x) (ev y)
  | .unOp op _ x => (aUn op (ev x)).map fun v => (True, v)
  | .convert s d x => match tinfo P s, tinfo P d with
    | some _, some ⟨_, _, .int k⟩ => (cvt k (ev x)).map fun v => (True, v)
    | _, _ => none
  | .makeFunc fn first caps => some (True, .fn fn (first.toList.map ev) (caps.toList.map ev))
  | .nilCheck x => match ev x with
    | .ptr id off => some (True, .ptr id off)
    | .vp c i => some (True, .vp c i)
    | .fn (.func f) a b => some (True, .fn (.func f) a b)
    | _ => none
  | .call c => match c.callee with
    | .value fo => match ev fo with
      | .fn (.func f) [] [] => aext P (X f) f (c.args.toList.map ev)
      | _ => none
    | .builtin .len => match c.args.toList.map ev, c.argTypes[0]? with
      | [x], some t => match tinfo P t with
        | some ti => (alen ti.kind x).map fun v => (True, v)
        | none => none
      | _, _ => none
    | .builtin .min => (aminmax false (c.args.toList.map ev)).map fun v => (True, v)
    | .builtin .max => (aminmax true (c.args.toList.map ev)).map fun v => (True, v)
    | _ => none
  | .build t parts => abuild P t (parts.toList.map fun p => (p.1, ev p.2))
  | _ => none

/-- A call of a function, and with what. -/
def acall (op : Op) (ev : Operand → AV) : Option (FuncId × List AV) :=
  match op with
  | .call c => match c.callee with
    | .value fo => match ev fo with
      | .fn (.func f) first caps => some (f, first ++ c.args.toList.map ev ++ caps)
      | _ => none
    | _ => none
  | _ => none

/-- A function of the program, with a body. -/
def GoFn (P : Program) (f : FuncId) : Prop :=
  match P.funcs[f]? with
  | some fn => (fn.name == "runtime.NumGoroutine") = false ∧ fn.body.isSome = true
  | none => False

/-- May it lie in one cell? -/
def oneA : AV → Bool
  | .any | .agg _ | .tup _ => false
  | .raw v => v.oneCell'
  | _ => true

/-- Operations that make or write memory, nothing being open. -/
def aeff (P : Program) (op : Op) (ev : Operand → AV) (H : Heap) : Option (Prop × AV × Heap) :=
  match op with
  | .alloc t => match tzero P t with
    | some z => some (known z = true, .ptr H.length 0, H ++ [.blk z.cells []])
    | none => none
  | .box _ x => some (known (ev x) = true, .ptr H.length 0, H ++ [.blk (ev x).cells []])
  | .store t a x => match tinfo P t, ev a with
    | some ti, .ptr id off => match H[id]? with
      | some (.blk c f) => some (((known (ev x) = true ∧ (ev x).cells.length = ti.size ∧ (ev x).cells.all oneA = true) ∧ off + ti.size ≤ c.length) ∧ (∀ r ∈ f, off + ti.size ≤ r.1 ∨ r.2 ≤ off), .tup [], H.set id (.blk (splice c off (ev x).cells) f))
      | some (.grow c f) => some (((known (ev x) = true ∧ (ev x).cells.length = ti.size ∧ (ev x).cells.all oneA = true) ∧ off + ti.size ≤ c.length) ∧ (∀ r ∈ f, off + ti.size ≤ r.1 ∨ r.2 ≤ off), .tup [], H.set id (.grow (splice c off (ev x).cells) f))
      | _ => none
    | _, _ => none
  | _ => none

end Go.Ab
