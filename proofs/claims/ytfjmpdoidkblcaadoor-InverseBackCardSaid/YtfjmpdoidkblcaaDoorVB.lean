/- The abstract layer (second state), part B: types, operations that only compute or read: their abstract values. -/
import Derived.Test.YtfjmpdoidkblcaaDoorVA
import Derived.Laws.Externs
set_option linter.unusedSimpArgs false
set_option linter.unusedVariables false
namespace Go.V
open Go

/-- What kind of type this is, as far as the operations ask. -/
inductive TK where
  | arr (n elem : Nat)
  | str (fields : List (Nat × Nat))      -- offset, type
  | slice (elem : Nat)
  | ptr (elem : Nat)
  | int (k : IntKind)
  | bool
  | string
  | other
  deriving Inhabited, DecidableEq

def TK.isAgg : TK → Bool
  | .arr _ _ => true
  | .str _ => true
  | _ => false

def TK.of : TypeDesc → TK
  | .array n e => .arr n e
  | .struct fs => .str (fs.toList.map fun f => (f.offset, f.type))
  | .slice e => .slice e
  | .pointer e => .ptr e
  | .int k => .int k
  | .bool => .bool
  | .string => .string
  | _ => .other

/-- size in cells, size in bytes, kind, the zero value; can it be compared without a look into interfaces; field by field -/
structure TI where
  size : Nat
  bytes : Nat
  kind : TK
  zero : Option AV
  eqf : Bool
  sok : Bool
  deriving Inhabited

def eat8 : List UInt8 → List Value → Option (List Value)
  | [], xs => some xs
  | x :: l, .int .u8 n :: xs => if n = x.toNat then eat8 l xs else none
  | _, _ => none
def eat32 : List UInt32 → List Value → Option (List Value)
  | [], xs => some xs
  | x :: l, .int .u32 n :: xs => if n = x.toNat then eat32 l xs else none
  | _, _ => none
def eat64 : List UInt64 → List Value → Option (List Value)
  | [], xs => some xs
  | x :: l, .int .u64 n :: xs => if n = x.toNat then eat64 l xs else none
  | _, _ => none

mutual
/-- Is a value just this one? -/
def eat : AV → List Value → Option (List Value)
  | .int k n, xs => match xs with
    | .int k' n' :: xs => if k' = k ∧ n' = n then some xs else none
    | _ => none
  | .u8 x, xs => eat8 [x] xs
  | .u32 x, xs => eat32 [x] xs
  | .u64 x, xs => eat64 [x] xs
  | .bool b, xs => match xs with
    | .bool b' :: xs => if b' = b then some xs else none
    | _ => none
  | .str s, xs => match xs with
    | .string t :: xs => if t.data.toList = s then some xs else none
    | _ => none
  | .b8 n l, xs => if l.length = n then eat8 l xs else none
  | .w32 n l, xs => if l.length = n then eat32 l xs else none
  | .w64 n l, xs => if l.length = n then eat64 l xs else none
  | .vec8 _ l, xs => match l, xs with
    | [], .slice none 0 0 :: xs => some xs
    | _, _ => none
  | .vec _ _ l, xs => match l, xs with
    | [], .slice none 0 0 :: xs => some xs
    | _, _ => none
  | .raw v, xs => match v, xs with
    | .pointer none, .pointer none :: xs => some xs
    | .nilFunc, .nilFunc :: xs => some xs
    | .nilIface, .nilIface :: xs => some xs
    | .map none, .map none :: xs => some xs
    | _, _ => none
  | .agg l, xs => eatL l xs
  | _, _ => none
def eatL : List AV → List Value → Option (List Value)
  | [], xs => some xs
  | a :: as, xs => match eat a xs with
    | some ys => eatL as ys
    | none => none
end
def isNil : Option (List Value) → Bool
  | some [] => true
  | _ => false
def chkV (z : AV) (v : Value) : Bool :=
  if isAg z then (match v with | .agg cs => isNil (eat z cs.toList) | _ => false) else isNil (eat z [v])

/-- A struct type that can be compared field by field. -/
def strOk (P : Program) (t : Nat) : Bool := (P.fieldsOf t).all (fun f => f.name != "_") && !P.stoodInHeld t

def tiOkB (P : Program) (t : Nat) (i : TI) : Bool :=
  match P.info? t, P.underlying t with
  | some j, some d => j.size == i.size && (j.bytes == i.bytes && (decide (i.kind = TK.of d) && ((match i.zero with
      | none => true
      | some z => match j.zero with
        | some v => chkV z v
        | none => false) && ((!i.eqf || !P.eqGuardType P.depth t) && (!i.sok || strOk P t)))))
  | _, _ => false

theorem tiOk {P : Program} {t : Nat} {i : TI} (h : tiOkB P t i = true) :
    ∃ j d, P.info? t = some j ∧ P.underlying t = some d ∧ i.size = j.size ∧ i.bytes = j.bytes ∧ i.kind = TK.of d ∧ (∀ z, i.zero = some z → ∃ v, j.zero = some v ∧ chkV z v = true) ∧
      (i.eqf = true → P.eqGuardType P.depth t = false) ∧ (i.sok = true → strOk P t = true) := by
  unfold tiOkB at h
  split at h
  · rename_i j d h1 h2
    simp only [Bool.and_eq_true, beq_iff_eq, decide_eq_true_eq, Bool.or_eq_true, Bool.not_eq_true'] at h
    obtain ⟨a, b, c, e, f, g⟩ := h
    refine ⟨j, d, h1, h2, a.symm, b.symm, c, fun z hz => ?_, fun hq => by simpa [hq] using f, fun hq => by simpa [hq] using g⟩
    rw [hz] at e
    simp only at e
    split at e
    · rename_i v hv; exact ⟨v, hv, e⟩
    · simp at e
  · simp at h

/-- The model's own entry for a function without a body. -/
def IsExt (P : Program) (f : FuncId) (e : Array Value → Sem Value) : Prop :=
  ∀ (args : Array Value) (w : World), (callFunc f args).run P w = ((e args).run P w).andThen fun v w' => .ok (.value v) w'

def sub64Entry : Array Value → Sem Value := fun args => do
  let (x, y, b) ← Extern.MathBitsCarry.three "Sub64" args
  pure (Extern.MathBitsCarry.pair ((x + Extern.MathBitsCarry.m64 - y - b) % Extern.MathBitsCarry.m64) (if x < y + b then 1 else 0))

/-- A function of the program, with a body. -/
def GoFn (P : Program) (f : FuncId) : Prop :=
  match P.funcs[f]? with
  | some fn => (fn.name == "runtime.NumGoroutine") = false ∧ fn.body.isSome = true
  | none => False
def goFnB (P : Program) (f : FuncId) : Bool :=
  match P.funcs[f]? with
  | some fn => !(fn.name == "runtime.NumGoroutine") && fn.body.isSome
  | none => false

/-- What is known of the program: its types, what the package-level variables hold, the kinds of functions. -/
structure Env (P : Program) where
  ty : Nat → Option TI
  g : Nat → Option (List AV)
  x : Nat → FK
  go : Nat → Bool
  tyOk : ∀ t i, ty t = some i → tiOkB P t i = true
  addOk : ∀ f, x f = .add64 → IsExt P f add64Entry
  subOk : ∀ f, x f = .sub64 → IsExt P f sub64Entry
  goOk : ∀ f, go f = true → GoFn P f
  follows : P.follows .mixedOrders = true

theorem goFn_of {P : Program} {f : FuncId} (h : goFnB P f = true) : GoFn P f := by
  unfold goFnB at h
  unfold GoFn
  split at h
  · rename_i fn hf
    simp only [Bool.and_eq_true, Bool.not_eq_true'] at h
    exact h
  · simp at h

/-- Rows of types as a list. -/
theorem tyOk_of {P : Program} {l : List (Option TI)} (h : ((List.range l.length).all fun t => match l[t]? with | some (some i) => tiOkB P t i | _ => true) = true) :
    ∀ t i, (l[t]?).join = some i → tiOkB P t i = true := by
  intro t i ht
  have hi : l[t]? = some (some i) := by
    cases hl : l[t]? with
    | none => rw [hl] at ht; simp at ht
    | some x => rw [hl] at ht; simp at ht; rw [ht]
  have hlt : t < l.length := (List.getElem?_eq_some_iff.1 hi).1
  have := List.all_eq_true.1 h t (List.mem_range.2 hlt)
  rw [hi] at this
  exact this

/-- A function that nothing looks into by computation. -/
noncomputable def sealed {α : Type} (f : α) : {g : α // g = f} := Classical.choice ⟨⟨f, rfl⟩⟩
def stuckC : Prop := (sealed False).val
theorem stuckC_eq : stuckC = False := by rw [stuckC, (sealed False).property]
/-- A condition that stands ahead of what follows. -/
def cnd (b : Bool) (p : Prop) : Prop := match b with
  | true => p
  | false => stuckC
theorem cnd_true {p : Prop} : cnd true p = p := rfl
theorem cnd_iff {b : Bool} {p : Prop} : cnd b p ↔ b = true ∧ p := by cases b <;> simp [cnd, stuckC_eq]
theorem cnd_mk {b : Bool} {p : Prop} (h : b = true) (k : p) : cnd b p := cnd_iff.2 ⟨h, k⟩

/-- Either way for itself. -/
def ite2 (b : Bool) (x y : Prop) : Prop := match b with
  | true => x
  | false => y
theorem ite2_iff {b : Bool} {x y : Prop} : ite2 b x y ↔ (b = true → x) ∧ (b = false → y) := by cases b <;> simp [ite2]
def ifW (b want : Bool) (x y : Prop) : Prop := match want with
  | true => ite2 b x y
  | false => ite2 b y x
theorem ifW_iff {b want : Bool} {x y : Prop} : ifW b want x y ↔ (b = want → x) ∧ (b = !want → y) := by cases b <;> cases want <;> simp [ifW, ite2]

/-- Is a number below another one? -/
def ltB (a b : Nat) : Bool := b - a != 0
def leB (a b : Nat) : Bool := a - b == 0
def inB (n : Int) (len : Nat) : Bool := ((n.toNat : Int) == n) && ltB n.toNat len
theorem ltB_iff {a b : Nat} : ltB a b = true ↔ a < b := by simp [ltB]; omega
theorem leB_iff {a b : Nat} : leB a b = true ↔ a ≤ b := by simp [leB]; omega
theorem inB_iff {n : Int} {len : Nat} : inB n len = true ↔ 0 ≤ n ∧ n < len := by
  simp only [inB, Bool.and_eq_true, beq_iff_eq, ltB_iff]; omega
theorem ltB_of {a b : Nat} (h : a < b) : ltB a b = true := ltB_iff.2 h
theorem leB_of {a b : Nat} (h : a ≤ b) : leB a b = true := leB_iff.2 h
theorem inB_of {n : Int} {len : Nat} (h : 0 ≤ n) (h' : n < len) : inB n len = true := inB_iff.2 ⟨h, h'⟩

/-- An integer's value, whatever its kind. -/
def AV.toI : AV → Option (IntKind × Int)
  | .int k n => some (k, n)
  | .u8 x => some (.u8, x.toNat)
  | .u32 x => some (.u32, x.toNat)
  | .u64 x => some (.u64, x.toNat)
  | _ => none

theorem rel_toI {ρ : Rho} {I : Imm} {w : World} {a : AV} {v : Value} {k : IntKind} {n : Int} (h : a.toI = some (k, n)) (r : rel ρ I w a v) : v = .int k n := by
  cases a <;> simp only [AV.toI, Option.some.injEq, Prod.mk.injEq, reduceCtorEq] at h
  case int => rw [rel_int] at r; obtain ⟨rfl, rfl⟩ := h; exact r
  case u8 => rw [rel_u8] at r; obtain ⟨rfl, rfl⟩ := h; exact r
  case u32 => rw [rel_u32] at r; obtain ⟨rfl, rfl⟩ := h; exact r
  case u64 => rw [rel_u64] at r; obtain ⟨rfl, rfl⟩ := h; exact r

def shl8 (a : UInt8) (n : Nat) : UInt8 := UInt8.ofNat (a.toNat * 2 ^ n)
def shl32 (a : UInt32) (n : Nat) : UInt32 := UInt32.ofNat (a.toNat * 2 ^ n)
def shl64 (a : UInt64) (n : Nat) : UInt64 := UInt64.ofNat (a.toNat * 2 ^ n)
def shr8 (a : UInt8) (n : Nat) : UInt8 := UInt8.ofNat (a.toNat / 2 ^ n)
def shr32 (a : UInt32) (n : Nat) : UInt32 := UInt32.ofNat (a.toNat / 2 ^ n)
def shr64 (a : UInt64) (n : Nat) : UInt64 := UInt64.ofNat (a.toNat / 2 ^ n)

def cvt (k : IntKind) (a : AV) : Option AV :=
  match k, a with
  | .u8, .u8 x => some (.u8 x)
  | .u8, .u32 x => some (.u8 x.toUInt8)
  | .u8, .u64 x => some (.u8 x.toUInt8)
  | .u8, .int _ n => some (.u8 (UInt8.ofNat (n % 256).toNat))
  | .u32, .u8 x => some (.u32 x.toUInt32)
  | .u32, .u32 x => some (.u32 x)
  | .u32, .u64 x => some (.u32 x.toUInt32)
  | .u32, .int _ n => some (.u32 (UInt32.ofNat (n % 4294967296).toNat))
  | .u64, .u8 x => some (.u64 x.toUInt64)
  | .u64, .u32 x => some (.u64 x.toUInt64)
  | .u64, .u64 x => some (.u64 x)
  | .u64, .int _ n => some (.u64 (UInt64.ofNat (n % 18446744073709551616).toNat))
  | .i64, .u8 x => some (.int .i64 x.toNat)
  | .i64, .u32 x => some (.int .i64 x.toNat)
  | k, a => match a.toI with
    | some (_, n) => some (.int k (k.wrap n))
    | none => none

def eqK (k k' : IntKind) : Bool := decide (k = k')

/-- Arithmetic on two values of one kind. -/
def aArith (op : BinOp) (a b : AV) : Option (Bool × AV) :=
  match op, a, b with
  | .add, .u8 x, .u8 y => some (true, .u8 (x + y))
  | .sub, .u8 x, .u8 y => some (true, .u8 (x - y))
  | .mul, .u8 x, .u8 y => some (true, .u8 (x * y))
  | .and, .u8 x, .u8 y => some (true, .u8 (x &&& y))
  | .or, .u8 x, .u8 y => some (true, .u8 (x ||| y))
  | .xor, .u8 x, .u8 y => some (true, .u8 (x ^^^ y))
  | .andNot, .u8 x, .u8 y => some (true, .u8 (x &&& ~~~y))
  | .quo, .u8 x, .u8 y => some (y != 0, .u8 (x / y))
  | .rem, .u8 x, .u8 y => some (y != 0, .u8 (x % y))
  | .add, .u32 x, .u32 y => some (true, .u32 (x + y))
  | .sub, .u32 x, .u32 y => some (true, .u32 (x - y))
  | .mul, .u32 x, .u32 y => some (true, .u32 (x * y))
  | .and, .u32 x, .u32 y => some (true, .u32 (x &&& y))
  | .or, .u32 x, .u32 y => some (true, .u32 (x ||| y))
  | .xor, .u32 x, .u32 y => some (true, .u32 (x ^^^ y))
  | .andNot, .u32 x, .u32 y => some (true, .u32 (x &&& ~~~y))
  | .add, .u64 x, .u64 y => some (true, .u64 (x + y))
  | .sub, .u64 x, .u64 y => some (true, .u64 (x - y))
  | .mul, .u64 x, .u64 y => some (true, .u64 (x * y))
  | .and, .u64 x, .u64 y => some (true, .u64 (x &&& y))
  | .or, .u64 x, .u64 y => some (true, .u64 (x ||| y))
  | .xor, .u64 x, .u64 y => some (true, .u64 (x ^^^ y))
  | .andNot, .u64 x, .u64 y => some (true, .u64 (x &&& ~~~y))
  | .add, .int k x, .int k' y => some (eqK k' k, .int k (k.wrap (x + y)))
  | .sub, .int k x, .int k' y => some (eqK k' k, .int k (k.wrap (x - y)))
  | .mul, .int k x, .int k' y => some (eqK k' k, .int k (k.wrap (x * y)))
  | .quo, .int k x, .int k' y => some (eqK k' k && y != 0, .int k (k.wrap (x.tdiv y)))
  | .rem, .int k x, .int k' y => some (eqK k' k && y != 0, .int k (x.tmod y))
  | .and, .int k x, .int k' y => some (eqK k' k, .int k (bits .and k x y))
  | .or, .int k x, .int k' y => some (eqK k' k, .int k (bits .or k x y))
  | .xor, .int k x, .int k' y => some (eqK k' k, .int k (bits .xor k x y))
  | .andNot, .int k x, .int k' y => some (eqK k' k, .int k (bits .andNot k x y))
  | _, _, _ => none

def nnB (n : Int) : Bool := (n.toNat : Int) == n
theorem nnB_iff {n : Int} : nnB n = true ↔ 0 ≤ n := by simp only [nnB, beq_iff_eq]; omega

def aShift (op : BinOp) (a b : AV) : Option (Bool × AV) :=
  match b.toI with
  | none => none
  | some (_, n) =>
    match op, a with
    | .shl, .u8 x => some (nnB n, .u8 (shl8 x n.toNat))
    | .shl, .u32 x => some (nnB n, .u32 (shl32 x n.toNat))
    | .shl, .u64 x => some (nnB n, .u64 (shl64 x n.toNat))
    | .shr, .u8 x => some (nnB n, .u8 (shr8 x n.toNat))
    | .shr, .u32 x => some (nnB n, .u32 (shr32 x n.toNat))
    | .shr, .u64 x => some (nnB n, .u64 (shr64 x n.toNat))
    | .shl, .int .i64 x => some (nnB n, .int .i64 (IntKind.i64.wrap (x * 2 ^ min n.toNat 64)))
    | .shr, .int .i64 x => some (nnB n, .int .i64 (x.fdiv (2 ^ min n.toNat 64)))
    | _, _ => none

/-- Comparisons of integers. -/
def cmpI (op : BinOp) (x y : Int) : Option Bool :=
  match op with
  | .eql => some (x == y)
  | .neq => some (x != y)
  | .lss => some (decide (x < y))
  | .leq => some (decide (x ≤ y))
  | .gtr => some (decide (y < x))
  | .geq => some (decide (y ≤ x))
  | _ => none

def aCmp (op : BinOp) (a b : AV) : Option (Bool × AV) :=
  match a.toI, b.toI with
  | some (k, x), some (k', y) => match cmpI op x y with
    | some r => some (eqK k' k, .bool r)
    | none => none
  | _, _ => none

/-- A row of cells as one value. -/
def mkAg : List AV → AV
  | [.b8 n l] => .b8 n l
  | [.w32 n l] => .w32 n l
  | [.w64 n l] => .w64 n l
  | [.agg l] => .agg l
  | l => .agg l

def AV.cells : AV → List AV
  | .agg l => l
  | v => [v]

mutual
/-- The cells from one on. -/
def splitA : AV → Nat → List AV
  | .b8 m l, n => [.b8 (m - n) (l.drop n)]
  | .w32 m l, n => [.w32 (m - n) (l.drop n)]
  | .w64 m l, n => [.w64 (m - n) (l.drop n)]
  | .agg l, n => dropL l n
  | _, _ => []
def dropL : List AV → Nat → List AV
  | [], _ => []
  | a :: as, n => bif n == 0 then a :: as else bif leB (szA a) n then dropL as (n - szA a) else splitA a n ++ as
end
mutual
/-- The first cells. -/
def firstA : AV → Nat → List AV
  | .b8 _ l, n => [.b8 n (l.take n)]
  | .w32 _ l, n => [.w32 n (l.take n)]
  | .w64 _ l, n => [.w64 n (l.take n)]
  | .agg l, n => takeL l n
  | _, _ => []
def takeL : List AV → Nat → List AV
  | [], _ => []
  | a :: as, n => bif n == 0 then [] else bif leB (szA a) n then a :: takeL as (n - szA a) else firstA a n
end
mutual
/-- The first cell. -/
def headA : AV → Option AV
  | .b8 m l => bif m == 0 then none else some (.u8 (l.getD 0 0))
  | .w32 m l => bif m == 0 then none else some (.u32 (l.getD 0 0))
  | .w64 m l => bif m == 0 then none else some (.u64 (l.getD 0 0))
  | .agg l => headL l
  | a => some a
def headL : List AV → Option AV
  | [] => none
  | a :: _ => headA a
end

/-- A number out of a row, at a place that may be a variable; else the cell there. -/
def cellX (c : List AV) (off n : Nat) (i : Int) : Option AV :=
  match dropL c off with
  | .b8 m l :: _ => bif leB n m then some (.u8 (l.getD i.toNat 0)) else none
  | .w32 m l :: _ => bif leB n m then some (.u32 (l.getD i.toNat 0)) else none
  | .w64 m l :: _ => bif leB n m then some (.u64 (l.getD i.toNat 0)) else none
  | _ => headL (dropL c (off + i.toNat))

/-- A place behind a place. -/
def ofs (off : Nat) (i : Int) : Nat := bif off == 0 then i.toNat else off + i.toNat
theorem ofs_eq (off : Nat) (i : Int) : ofs off i = off + i.toNat := by
  unfold ofs
  cases h : off == 0
  · rfl
  · have : off = 0 := by simpa using h
    simp [this]
/-- The same, where the row is one of numbers alone. -/
def cellX1 (c : List AV) (off n : Nat) (i : Int) : Option (Bool × AV) :=
  match c with
  | [.b8 m l] => some (leB (off + n) m, .u8 (l.getD (ofs off i) 0))
  | [.w32 m l] => some (leB (off + n) m, .u32 (l.getD (ofs off i) 0))
  | [.w64 m l] => some (leB (off + n) m, .u64 (l.getD (ofs off i) 0))
  | c => match cellX c off n i with
    | some v => some (true, v)
    | none => none

def entCells (H : Heap) (id : Nat) : Option (List AV) :=
  match H[id]? with
  | some (.blk c _) => some c
  | some (.grow8 l _) => some [.b8 l.length l]
  | some (.grow _ rows _) => some rows
  | _ => none

/-- The cells that an address points into, and where. -/
def cellsAt (H : Heap) : AV → Option (List AV × Nat)
  | .ptr id off => match entCells H id with
    | some c => some (c, off)
    | none => none
  | .vp c i => some (c, i)
  | _ => none
/-- An address at a place that may be a variable. -/
def cellsAtX (H : Heap) : AV → Option (List AV × Nat × Nat × Int)
  | .pix id off n i => match entCells H id with
    | some c => some (c, off, n, i)
    | none => none
  | .vpx c off n i => some (c, off, n, i)
  | _ => none

def addrAdd (n : Nat) : AV → Option AV
  | .ptr id off => some (.ptr id (off + n))
  | .vp c i => some (.vp c (i + n))
  | _ => none

/-- A part of a row of cells. -/
def cut1 (ti : TI) (c : List AV) (off : Nat) : Option (Bool × AV) :=
  bif ti.kind.isAgg then some (leB (off + ti.size) (szL c), mkAg (takeL (dropL c off) ti.size))
  else match headL (dropL c off) with
    | some a => some (true, a)
    | none => none

def pickA (b : Bool) (x y : AV) : AV :=
  match x, y with
  | .bool p, .bool q => .bool (cond b p q)
  | x, y => cond b x y

section
variable {P : Program} (G : Env P)

def aload (ti : TI) (H : Heap) (a : AV) : Option (Bool × AV) :=
  match cellsAt H a with
  | some (c, off) => cut1 ti c off
  | none => match cellsAtX H a with
    | some (c, off, n, i) => bif ti.kind.isAgg then none else cellX1 c off n i
    | none => none

/-- The address of an element of a row: as a number, or at a place that may be a variable. -/
def elemAddr (te : TI) (len : Nat) (n : Int) : AV → Option AV
  | .ptr id off => bif te.size == 1 && !te.kind.isAgg then some (.pix id off len n) else some (.ptr id (off + n.toNat * te.size))
  | .vp c off => bif te.size == 1 && !te.kind.isAgg then some (.vpx c off len n) else some (.vp c (off + n.toNat * te.size))
  | _ => none

def aIndexAddr (ti : TI) (x : AV) (n : Int) : Option (Bool × AV) :=
  match ti.kind, x with
  | .arr len e, x => match G.ty e with
    | some te => match elemAddr te len n x with
      | some v => some (inB n len, v)
      | none => none
    | none => none
  | .slice e, .sl id off k len => match G.ty e with
    | some te => match elemAddr te len n (.ptr id off) with
      | some v => some (inB n len && k == te.size, v)
      | none => none
    | none => none
  | .slice e, .vec8 _ l => match G.ty e with
    | some te => some (inB n l.length && te.size == 1, .vpx [.b8 l.length l] 0 l.length n)
    | none => none
  | .slice e, .vec _ k rows => match G.ty e with
    | some te => some (inB n rows.length && te.size == k, .vp (rows.getD n.toNat .any).cells 0)
    | none => none
  | _, _ => none

def aIndex (ti : TI) (x : AV) (n : Int) : Option (Bool × AV) :=
  match ti.kind, x with
  | .arr len e, .b8 m l => match G.ty e with
    | some te => some ((inB n len && len == m) && (te.size == 1 && !te.kind.isAgg), .u8 (l.getD n.toNat 0))
    | none => none
  | .arr len e, .w32 m l => match G.ty e with
    | some te => some ((inB n len && len == m) && (te.size == 1 && !te.kind.isAgg), .u32 (l.getD n.toNat 0))
    | none => none
  | .arr len e, .w64 m l => match G.ty e with
    | some te => some ((inB n len && len == m) && (te.size == 1 && !te.kind.isAgg), .u64 (l.getD n.toNat 0))
    | none => none
  | .arr len e, .agg l => match G.ty e with
    | some te => match cut1 te l (n.toNat * te.size) with
      | some (c, v) => some (inB n len && c, v)
      | none => none
    | none => none
  | .string, .str s => some (inB n s.length, .u8 (s.getD n.toNat 0))
  | _, _ => none

def aField (ti : TI) (x : AV) (f : Nat) : Option (Bool × AV) :=
  match ti.kind with
  | .str fs => match fs[f]? with
    | some (off, ft) => match G.ty ft with
      | some tf => bif isAg x then cut1 tf x.cells off else none
      | none => none
    | none => none
  | _ => none

def aUn (op : UnOp) (x : AV) : Option AV :=
  match op, x with
  | .not, .bool b => some (.bool !b)
  | .neg, .u64 x => some (.u64 (0 - x))
  | .neg, .int k n => some (.int k (k.wrap (0 - n)))
  | .xor, .u32 x => some (.u32 (~~~x))
  | .xor, .u64 x => some (.u64 (~~~x))
  | _, _ => none

def aBoolEq (op : BinOp) (a b : AV) : Option (Bool × AV) :=
  match op, a, b with
  | .eql, .bool x, .bool y => some (true, .bool (x == y))
  | .neq, .bool x, .bool y => some (true, .bool (x != y))
  | _, _, _ => none

def aStr (op : BinOp) (a b : AV) : Option (Bool × AV) :=
  match op, a, b with
  | .add, .str x, .str y => some (ltB (x.length + y.length) 9223372036854775808, .str (x ++ y))
  | .eql, .str x, .str y => some (true, .bool (x == y))
  | .neq, .str x, .str y => some (true, .bool (x != y))
  | .lss, .str x, .str y => some (true, .bool (Op.bytesLess x y))
  | .leq, .str x, .str y => some (true, .bool (Op.bytesLess x y || x == y))
  | .gtr, .str x, .str y => some (true, .bool !(Op.bytesLess x y || x == y))
  | .geq, .str x, .str y => some (true, .bool !(Op.bytesLess x y))
  | _, _, _ => none

def TK.isInt : TK → Bool
  | .int _ => true
  | _ => false

/-- Are two values of one cell alike? -/
def aeqK (k : TK) (a b : AV) : Option Bool :=
  match k, a, b with
  | .int _, .u8 x, .u8 y => some (x == y)
  | .int _, .u32 x, .u32 y => some (x == y)
  | .int _, .u64 x, .u64 y => some (x == y)
  | .int _, .int k x, .int k' y => bif eqK k k' then some (x == y) else none
  | .bool, .bool x, .bool y => some (x == y)
  | .string, .str x, .str y => some (x == y)
  | _, _, _ => none

def aeqIs (f : AV → AV → Option (Bool × Bool)) (te : TI) (xs ys : List AV) : Nat → Nat → Option (Bool × Bool)
  | 0, _ => some (true, true)
  | n + 1, i => match cut1 te xs (i * te.size), cut1 te ys (i * te.size) with
    | some (c, a), some (c', b) => match f a b, aeqIs f te xs ys n (i + 1) with
      | some (d, r), some (d', s) => some ((c && c') && (d && d'), r && s)
      | _, _ => none
    | _, _ => none

def aeqFs (f : Nat → AV → AV → Option (Bool × Bool)) (xs ys : List AV) : List (Nat × Nat) → Option (Bool × Bool)
  | [] => some (true, true)
  | (off, ft) :: fs => match G.ty ft with
    | some tf => match cut1 tf xs off, cut1 tf ys off with
      | some (c, a), some (c', b) => match f ft a b, aeqFs f xs ys fs with
        | some (d, r), some (d', s) => some ((c && c') && (d && d'), r && s)
        | _, _ => none
      | _, _ => none
    | none => none

def aeqT : Nat → Nat → AV → AV → Option (Bool × Bool)
  | 0, _, _, _ => none
  | d + 1, t, a, b => match G.ty t with
    | none => none
    | some ti => match ti.kind, a, b with
      | .arr n e, .b8 m l, .b8 m' l' => match G.ty e with
        | some te => some ((te.size == 1 && te.kind.isInt) && (n == m && n == m'), l == l')
        | none => none
      | .arr n e, .w32 m l, .w32 m' l' => match G.ty e with
        | some te => some ((te.size == 1 && te.kind.isInt) && (n == m && n == m'), l == l')
        | none => none
      | .arr n e, .w64 m l, .w64 m' l' => match G.ty e with
        | some te => some ((te.size == 1 && te.kind.isInt) && (n == m && n == m'), l == l')
        | none => none
      | .arr n e, .agg xs, .agg ys => match G.ty e with
        | some te => aeqIs (aeqT d e) te xs ys n 0
        | none => none
      | .str fs, .agg xs, .agg ys => match aeqFs G (aeqT d) xs ys fs with
        | some (c, r) => some (ti.sok && c, r)
        | none => none
      | k, a, b => match aeqK k a b with
        | some r => some (true, r)
        | none => none

def aAggEq (op : BinOp) (t : Nat) (ti : TI) (a b : AV) : Option (Bool × AV) :=
  match op with
  | .eql => match aeqT G 8 t a b with
    | some (c, r) => some (ti.eqf && c, .bool r)
    | none => none
  | .neq => match aeqT G 8 t a b with
    | some (c, r) => some (ti.eqf && c, .bool (!r))
    | none => none
  | _ => none

def aBin (op : BinOp) (t : Nat) (a b : AV) : Option (Bool × AV) :=
  match aArith op a b with
  | some r => some r
  | none => match (match op with
      | .shl => aShift op a b
      | .shr => aShift op a b
      | _ => aCmp op a b) with
    | some r => some r
    | none => match G.ty t with
      | some ti => match ti.kind with
        | .bool => aBoolEq op a b
        | .string => aStr op a b
        | .arr _ _ => aAggEq G op t ti a b
        | .str _ => aAggEq G op t ti a b
        | _ => none
      | none => none

def carry64r (x y c : UInt64) : UInt64 := if x.toNat + y.toNat + c.toNat < 18446744073709551616 then 0 else 1
def borrow64r (x y c : UInt64) : UInt64 := if x.toNat < y.toNat + c.toNat then 1 else 0
noncomputable def carry64 : UInt64 → UInt64 → UInt64 → UInt64 := (sealed carry64r).val
noncomputable def borrow64 : UInt64 → UInt64 → UInt64 → UInt64 := (sealed borrow64r).val
theorem carry64_eq (x y c : UInt64) : carry64 x y c = if x.toNat + y.toNat + c.toNat < 18446744073709551616 then 0 else 1 := by
  rw [carry64, (sealed carry64r).property, carry64r]
theorem borrow64_eq (x y c : UInt64) : borrow64 x y c = if x.toNat < y.toNat + c.toNat then 1 else 0 := by
  rw [borrow64, (sealed borrow64r).property, borrow64r]
theorem bit1_carry (x y c : UInt64) : leB (carry64 x y c).toNat 1 = true := by
  rw [carry64_eq]; split <;> rfl
theorem bit1_borrow (x y c : UInt64) : leB (borrow64 x y c).toNat 1 = true := by
  rw [borrow64_eq]; split <;> rfl
def bit1 (c : UInt64) : Bool := leB c.toNat 1

noncomputable def aext (k : FK) (args : List AV) : Option (Bool × AV) :=
  match k, args with
  | .add64, [.u64 x, .u64 y, .u64 c] => some (bit1 c, .tup [.u64 (x + y + c), .u64 (carry64 x y c)])
  | .sub64, [.u64 x, .u64 y, .u64 c] => some (bit1 c, .tup [.u64 (x - y - c), .u64 (borrow64 x y c)])
  | _, _ => none

def alen (k : TK) (x : AV) : Option AV :=
  match k, x with
  | .slice _, .vec8 _ l => some (.int .i64 l.length)
  | .slice _, .vec _ _ rows => some (.int .i64 rows.length)
  | .slice _, .sl _ _ _ n => some (.int .i64 n)
  | .string, .str s => some (.int .i64 s.length)
  | _, _ => none

def aminmax (mx : Bool) (args : List AV) : Option AV :=
  match args with
  | [.int .i64 x, .int .i64 y] => some (.int .i64 (bif mx then max x y else min x y))
  | _ => none

/-- Is the value's form known? -/
def known : AV → Bool
  | .any => false
  | .raw v => v.oneCell'
  | _ => true

mutual
/-- May its cells lie in memory? -/
def oneA : AV → Bool
  | .any => false
  | .raw v => v.oneCell'
  | .tup _ => false
  | .agg l => oneL l
  | _ => true
def oneL : List AV → Bool
  | [] => true
  | a :: as => oneA a && oneL as
end

/-- Cells of a row of numbers, with some of them another one. -/
def setSeg : AV → Nat → AV → Option AV
  | .b8 m l, off, .u8 x => some (.b8 m (l.set off x))
  | .w32 m l, off, .u32 x => some (.w32 m (l.set off x))
  | .w64 m l, off, .u64 x => some (.w64 m (l.set off x))
  | .b8 m l, off, .b8 s l2 => some (.b8 m (l.take off ++ (l2 ++ l.drop (off + s))))
  | .w64 m l, off, .w64 s l2 => some (.w64 m (l.take off ++ (l2 ++ l.drop (off + s))))
  | .w32 m l, off, .w32 s l2 => some (.w32 m (l.take off ++ (l2 ++ l.drop (off + s))))
  | _, _, _ => none

mutual
/-- A value written over the cells from one on. -/
def setA : AV → Nat → AV → AV
  | .agg l, off, v => .agg (setL l off v)
  | a, off, v => match setSeg a off v with
    | some r => r
    | none => .agg (firstA a off ++ (v :: splitA a (off + szA v)))
def setL : List AV → Nat → AV → List AV
  | [], _, _ => []
  | a :: as, off, v =>
    bif leB (szA a) off then a :: setL as (off - szA a) v
    else bif leB (off + szA v) (szA a) then (bif off == 0 && szA v == szA a then v :: as else setA a off v :: as)
    else (bif off == 0 then [] else firstA a off) ++ (v :: dropL as (off + szA v - szA a))
end

/-- A number written into a row at a place that may be a variable. -/
def setX (c : List AV) (off n : Nat) (i : Int) (v : AV) : Option (List AV) :=
  match c with
  | [] => none
  | a :: as =>
    bif leB (szA a) off then (match setX as (off - szA a) n i v with
      | some l => some (a :: l)
      | none => none)
    else bif off == 0 then (match a, v with
      | .b8 m l, .u8 x => bif leB n m then some (.b8 m (l.set i.toNat x) :: as) else none
      | .w32 m l, .u32 x => bif leB n m then some (.w32 m (l.set i.toNat x) :: as) else none
      | .w64 m l, .u64 x => bif leB n m then some (.w64 m (l.set i.toNat x) :: as) else none
      | _, v => some (setL (a :: as) i.toNat v))
    else none

/-- The same, where the row is one of numbers alone. -/
def setX1 (c : List AV) (off n : Nat) (i : Int) (v : AV) : Option (List AV) :=
  match c, v with
  | [.b8 m l], .u8 x => some [.b8 m (l.set (ofs off i) x)]
  | [.w32 m l], .u32 x => some [.w32 m (l.set (ofs off i) x)]
  | [.w64 m l], .u64 x => some [.w64 m (l.set (ofs off i) x)]
  | c, v => setX c off n i v

/-- Parts written into a zero value's cells. -/
def afill (place : Nat → Option (Nat × Nat)) (cells : List AV) : List (Nat × AV) → Option (Bool × List AV)
  | [] => some (true, cells)
  | (i, v) :: rest =>
    match place i with
    | none => none
    | some (off, size) =>
      match afill place (setL cells off v) rest with
      | some (c, l) => some ((known v && (szA v == size && (leB (off + size) (szL cells) && size != 0))) && c, l)
      | none => none

def aplace (fs : List (Nat × Nat)) (i : Nat) : Option (Nat × Nat) :=
  match fs[i]? with
  | some (off, ft) => match G.ty ft with
    | some tf => some (off, tf.size)
    | none => none
  | none => none

def aplaceE (n i : Nat) : Option (Nat × Nat) := some (i * n, n)

def allTy (fs : List (Nat × Nat)) : Bool := fs.all fun f => (G.ty f.2).isSome

/-- A value of parts. -/
def abuild (t : Nat) (parts : List (Nat × AV)) : Option (Bool × AV) :=
  match G.ty t with
  | some ti => match ti.zero with
    | some z => match ti.kind with
      | .arr _ e => match G.ty e with
        | some ie => match afill (aplaceE ie.size) z.cells parts with
          | some (c, l) => some (isAg z && c, mkAg l)
          | none => none
        | none => none
      | .str fs => match afill (aplace G fs) z.cells parts with
        | some (c, l) => some ((isAg z && allTy G fs) && c, mkAg l)
        | none => none
      | _ => none
    | none => none
  | none => none

/-- What a slice of bytes holds. -/
def content8 (H : Heap) : AV → Option (Bool × List UInt8)
  | .vec8 _ l => some (true, l)
  | .sl id off k len => match H[id]? with
    | some (.grow8 l _) => some (k == 1 && leB (off + len) l.length, (l.drop off).take len)
    | some (.blk c _) => match takeL (dropL c off) len with
      | [.b8 m l] => some (k == 1 && m == len, l)
      | _ => none
    | _ => none
  | _ => none

end
end Go.V
