import Derived.Test.YtehaohfglolljaaGreatDoorZzaa
import Derived.Laws.Externs
noncomputable section
set_option linter.unusedSimpArgs false
set_option linter.unusedVariables false
namespace Go.V
open Go
inductive TK where
 | arr (n elem : Nat)
 | str (fields : List (Nat × Nat))      -- offset, type
 | slice (elem : Nat)
 | ptr (elem : Nat)
 | int (k : IntKind)
 | bool
 | string
 | other
 deriving Inhabited, DecidableEq
def TK.isAgg : TK → Bool
 | .arr _ _ => true
 | .str _ => true
 | _ => false
def TK.of : TypeDesc → TK
 | .array n e => .arr n e
 | .struct fs => .str (fs.toList.map fun f => (f.offset, f.type))
 | .slice e => .slice e
 | .pointer e => .ptr e
 | .int k => .int k
 | .bool => .bool
 | .string => .string
 | _ => .other
structure TI where
 size : Nat
 bytes : Nat
 kind : TK
 zero : Option AV
 eqf : Bool
 sok : Bool
 deriving Inhabited
def zpu : List UInt8 → List Value → Option (List Value)
 | [], xs => some xs
 | x :: l, .int .u8 n :: xs => if n = x.toNat then zpu l xs else none
 | _, _ => none
def zkc : List UInt32 → List Value → Option (List Value)
 | [], xs => some xs
 | x :: l, .int .u32 n :: xs => if n = x.toNat then zkc l xs else none
 | _, _ => none
def zke : List UInt64 → List Value → Option (List Value)
 | [], xs => some xs
 | x :: l, .int .u64 n :: xs => if n = x.toNat then zke l xs else none
 | _, _ => none
mutual
def eat : AV → List Value → Option (List Value)
 | .int k n, xs => match xs with
  | .int k' n' :: xs => if k' = k ∧ n' = n then some xs else none
  | _ => none
 | .u8 x, xs => zpu [x] xs
 | .u32 x, xs => zkc [x] xs
 | .u64 x, xs => zke [x] xs
 | .bool b, xs => match xs with
  | .bool b' :: xs => if b' = b then some xs else none
  | _ => none
 | .str s, xs => match xs with
  | .string t :: xs => if t.data.toList = s then some xs else none
  | _ => none
 | .b8 n l, xs => if l.length = n then zpu l xs else none
 | .w32 n l, xs => if l.length = n then zkc l xs else none
 | .w64 n l, xs => if l.length = n then zke l xs else none
 | .vec8 _ l, xs => match l, xs with
  | [], .slice none 0 0 :: xs => some xs
  | _, _ => none
 | .vec _ _ l, xs => match l, xs with
  | [], .slice none 0 0 :: xs => some xs
  | _, _ => none
 | .raw v, xs => match v, xs with
  | .pointer none, .pointer none :: xs => some xs
  | .nilFunc, .nilFunc :: xs => some xs
  | .nilIface, .nilIface :: xs => some xs
  | .map none, .map none :: xs => some xs
  | _, _ => none
 | .agg l, xs => zuv l xs
 | _, _ => none
def zuv : List AV → List Value → Option (List Value)
 | [], xs => some xs
 | a :: as, xs => match eat a xs with
  | some ys => zuv as ys
  | none => none
end
def isNil : Option (List Value) → Bool
 | some [] => true
 | _ => false
def zug (z : AV) (v : Value) : Bool :=
 if z1w z then (match v with | .agg cs => isNil (eat z cs.toList) | _ => false) else isNil (eat z [v])
def zsi (P : Program) (t : Nat) : Bool := (P.fieldsOf t).all (fun f => f.name != "_") && !P.stoodInHeld t
def zk5 (P : Program) (t : Nat) (i : TI) : Bool :=
 match P.info? t, P.underlying t with
 | some j, some d => j.size == i.size && (j.bytes == i.bytes && (decide (i.kind = TK.of d) && ((match i.zero with
   | none => true
   | some z => match j.zero with
    | some v => zug z v
    | none => false) && ((!i.eqf || !P.eqGuardType P.depth t) && (!i.sok || zsi P t)))))
 | _, _ => false
theorem tiOk {P : Program} {t : Nat} {i : TI} (h : zk5 P t i = true) :
  ∃ j d, P.info? t = some j ∧ P.underlying t = some d ∧ i.size = j.size ∧ i.bytes = j.bytes ∧ i.kind = TK.of d ∧ (∀ z, i.zero = some z → ∃ v, j.zero = some v ∧ zug z v = true) ∧
   (i.eqf = true → P.eqGuardType P.depth t = false) ∧ (i.sok = true → zsi P t = true) := by
 unfold zk5 at h
 split at h
 ·rename_i j d h1 h2;simp only [Bool.and_eq_true, beq_iff_eq, decide_eq_true_eq, Bool.or_eq_true, Bool.not_eq_true'] at h;obtain ⟨a, b, c, e, f, g⟩ := h;refine ⟨j, d, h1, h2, a.symm, b.symm, c, fun z hz => ?_, fun hq => by simpa [hq] using f, fun hq => by simpa [hq] using g⟩
  rw [hz] at e;simp only at e
  split at e
  ·rename_i v hv; exact ⟨v, hv, e⟩
  ·simp at e
 ·simp at h
def zsp (P : Program) (f : FuncId) (e : Array Value → Sem Value) : Prop :=
 ∀ (args : Array Value) (w : World), (callFunc f args).run P w = ((e args).run P w).andThen fun v w' => .ok (.value v) w'
def sub64Entry : Array Value → Sem Value := fun args => do
 let (x, y, b) ← Extern.MathBitsCarry.three "Sub64" args
 pure (Extern.MathBitsCarry.pair ((x + Extern.MathBitsCarry.m64 - y - b) % Extern.MathBitsCarry.m64) (if x < y + b then 1 else 0))
def zpm (P : Program) (f : FuncId) : Prop :=
 match P.funcs[f]? with
 | some fn => (fn.name == "runtime.NumGoroutine") = false ∧ fn.body.isSome = true
 | none => False
def z12n (P : Program) (f : FuncId) : Bool :=
 match P.funcs[f]? with
 | some fn => !(fn.name == "runtime.NumGoroutine") && fn.body.isSome
 | none => false
structure Env (P : Program) where
 ty : Nat → Option TI
 g : Nat → Option (List AV)
 x : Nat → FK
 go : Nat → Bool
 tyOk : ∀ t i, ty t = some i → zk5 P t i = true
 addOk : ∀ f, x f = .add64 → zsp P f add64Entry
 subOk : ∀ f, x f = .sub64 → zsp P f sub64Entry
 goOk : ∀ f, go f = true → zpm P f
 follows : P.follows .mixedOrders = true
theorem z1dx {P : Program} {f : FuncId} (h : z12n P f = true) : zpm P f := by
 unfold z12n at h;unfold zpm
 split at h
 ·rename_i fn hf;simp only [Bool.and_eq_true, Bool.not_eq_true'] at h;exact h
 ·simp at h
theorem z1e4 {P : Program} {l : List (Option TI)} (h : ((List.range l.length).all fun t => match l[t]? with | some (some i) => zk5 P t i | _ => true) = true) :
  ∀ t i, (l[t]?).join = some i → zk5 P t i = true := by
 intro t i ht;have hi : l[t]? = some (some i) := by
  cases hl : l[t]? with
  | none => rw [hl] at ht; simp at ht
  | some x => rw [hl] at ht; simp at ht; rw [ht]
 have hlt : t < l.length := (List.getElem?_eq_some_iff.1 hi).1;have := List.all_eq_true.1 h t (List.mem_range.2 hlt);rw [hi] at this;exact this
def zf {α : Type} (f : α) : {g : α // g = f} := Classical.choice ⟨⟨f, rfl⟩⟩
def zo7 : Prop := (zf False).val
theorem z14k : zo7 = False := by rw [zo7, (zf False).property]
def cnd (b : Bool) (p : Prop) : Prop := match b with
 | true => p
 | false => zo7
theorem z1r {p : Prop} : cnd true p = p := rfl
theorem zd {b : Bool} {p : Prop} : cnd b p ↔ b = true ∧ p := by cases b <;> simp [cnd, z14k]
def za (b : Bool) (x y : Prop) : Prop := match b with
 | true => x
 | false => y
theorem zq {b : Bool} {x y : Prop} : za b x y ↔ (b = true → x) ∧ (b = false → y) := by cases b <;> simp [za]
def ifW (b want : Bool) (x y : Prop) : Prop := match want with
 | true => za b x y
 | false => za b y x
theorem zq2 {b want : Bool} {x y : Prop} : ifW b want x y ↔ (b = want → x) ∧ (b = !want → y) := by cases b <;> cases want <;> simp [ifW, za]
def ltB (a b : Nat) : Bool := Nat.ble (a + 1) b
def leB (a b : Nat) : Bool := Nat.ble a b
def inB (n : Int) (len : Nat) : Bool := ((n.toNat : Int) == n) && ltB n.toNat len
theorem z93 {a b : Nat} : Nat.ble a b = true ↔ a ≤ b := ⟨Nat.le_of_ble_eq_true, Nat.ble_eq_true_of_le⟩
theorem z1z {a b : Nat} : ltB a b = true ↔ a < b := z93
theorem zh {a b : Nat} : leB a b = true ↔ a ≤ b := z93
theorem z32 {n : Int} {len : Nat} : inB n len = true ↔ 0 ≤ n ∧ n < len := by
 simp only [inB, Bool.and_eq_true, beq_iff_eq, z1z]; omega
theorem zih {a b : Nat} (h : a < b) : ltB a b = true := z1z.2 h
theorem zp {a b : Nat} (h : a ≤ b) : leB a b = true := zh.2 h
theorem z44 {n : Int} {len : Nat} (h : 0 ≤ n) (h' : n < len) : inB n len = true := z32.2 ⟨h, h'⟩
def AV.toI : AV → Option (IntKind × Int)
 | .int k n => some (k, n)
 | .u8 x => some (.u8, x.toNat)
 | .u32 x => some (.u32, x.toNat)
 | .u64 x => some (.u64, x.toNat)
 | _ => none
theorem z6q {ρ : Rho} {I : Imm} {w : World} {a : AV} {v : Value} {k : IntKind} {n : Int} (h : a.toI = some (k, n)) (r : rel ρ I w a v) : v = .int k n := by
 cases a <;> simp only [AV.toI, Option.some.injEq, Prod.mk.injEq, reduceCtorEq] at h
 case int => rw [zj] at r; obtain ⟨rfl, rfl⟩ := h; exact r
 case u8 => rw [zu] at r; obtain ⟨rfl, rfl⟩ := h; exact r
 case u32 => rw [zo] at r; obtain ⟨rfl, rfl⟩ := h; exact r
 case u64 => rw [zn] at r; obtain ⟨rfl, rfl⟩ := h; exact r
def shl8 (a : UInt8) (n : Nat) : UInt8 := UInt8.ofNat (a.toNat * 2 ^ n)
def z9i (a : UInt32) (n : Nat) : UInt32 := UInt32.ofNat (a.toNat * 2 ^ n)
def z2n (a : UInt64) (n : Nat) : UInt64 := UInt64.ofNat (a.toNat * 2 ^ n)
def z4e (a : UInt8) (n : Nat) : UInt8 := UInt8.ofNat (a.toNat / 2 ^ n)
def zb1 (a : UInt32) (n : Nat) : UInt32 := UInt32.ofNat (a.toNat / 2 ^ n)
def ze (a : UInt64) (n : Nat) : UInt64 := UInt64.ofNat (a.toNat / 2 ^ n)
def fits (n : Nat) : Bool := Nat.ble n 9223372036854775807
theorem zz1 {n : Nat} (h : fits n = true) : n ≤ 9223372036854775807 := z93.1 h
theorem zov {z : Int} (h : -9223372036854775808 ≤ z) (h2 : z ≤ 9223372036854775807) : IntKind.i64.wrap z = z := by
 rw [IntKind.wrap_i64]; omega
def wrN (n : Nat) : Int := match fits n with
 | true => .ofNat n
 | false => IntKind.i64.wrap (.ofNat n)
def wrM (n : Nat) : Int := match fits n with
 | true => .negSucc n
 | false => IntKind.i64.wrap (.negSucc n)
theorem z1fi (n : Nat) : wrN n = IntKind.i64.wrap (.ofNat n) := by
 unfold wrN
 split
 ·rename_i h;have := zz1 h;have e : Int.ofNat n = (n : Int) := rfl;rw [e, zov (by omega) (by omega)]
 ·rfl
theorem z1f1 (n : Nat) : wrM n = IntKind.i64.wrap (.negSucc n) := by
 unfold wrM
 split
 ·rename_i h;have := zz1 h;rw [zov (by omega) (by omega)]
 ·rfl
def wr (k : IntKind) (z : Int) : Int :=
 match k with
 | .i64 => match z with
  | .ofNat n => wrN n
  | .negSucc n => wrM n
 | k => k.wrap z
theorem z6v (k : IntKind) (z : Int) : wr k z = k.wrap z := by
 cases k
 case i64 =>
  cases z with
  | ofNat n => exact z1fi n
  | negSucc n => exact z1f1 n
 all_goals rfl
def ltI (x y : Int) : Bool :=
 match x with
 | .ofNat a => match y with
  | .ofNat b => Nat.ble (a + 1) b
  | .negSucc _ => false
 | .negSucc a => match y with
  | .ofNat _ => true
  | .negSucc b => Nat.ble (b + 1) a
theorem z3w (x y : Int) : ltI x y = true ↔ x < y := by
 cases x <;> cases y <;> rename_i a b
 ·have e1 : Int.ofNat a = (a : Int) := rfl;have e2 : Int.ofNat b = (b : Int) := rfl;show Nat.ble (a + 1) b = true ↔ _;rw [z93, e1, e2]; omega
 ·have e1 : Int.ofNat a = (a : Int) := rfl;rw [e1];exact ⟨fun h => by simp [ltI] at h, fun h => by omega⟩
 ·have e2 : Int.ofNat b = (b : Int) := rfl;rw [e2];exact ⟨fun _ => by omega, fun _ => rfl⟩
 ·show Nat.ble (b + 1) a = true ↔ _;rw [z93]; omega
theorem z1o (x y : Int) : ltI x y = decide (x < y) := by
 by_cases h : x < y
 ·rw [decide_eq_true h]; exact (z3w x y).2 h
 ·rw [decide_eq_false h];exact Bool.eq_false_iff.2 fun hl => h ((z3w x y).1 hl)
def subN (a b : Nat) : Int := match Nat.ble b a with
 | true => .ofNat (a - b)
 | false => .negSucc (b - a - 1)
theorem z1e0 (a b : Nat) : subN a b = (a : Int) - b := by
 unfold subN
 split
 ·rename_i h;have := z93.1 h;show ((a - b : Nat) : Int) = _;omega
 ·rename_i h;have : ¬ b ≤ a := fun e => by rw [z93.2 e] at h; exact Bool.noConfusion h
  rw [Int.negSucc_eq]; omega
def z6r (x y : Int) : Int := match x with
 | .ofNat a => match y with
  | .ofNat b => subN a b
  | .negSucc b => .ofNat (a + b + 1)
 | .negSucc a => match y with
  | .ofNat b => .negSucc (a + b)
  | .negSucc b => subN b a
theorem z4p (x y : Int) : z6r x y = x - y := by
 cases x <;> cases y <;> rename_i a b <;> simp only [z6r, z1e0, Int.negSucc_eq, Int.ofNat_eq_natCast] <;> omega
theorem z1jj (x y : Int) : (!decide (y < x)) = decide (x ≤ y) := by
 by_cases h : x ≤ y
 ·rw [decide_eq_true h, decide_eq_false (by omega)]; rfl
 ·rw [decide_eq_false h, decide_eq_true (by omega)]; rfl
def cvt (k : IntKind) (a : AV) : Option AV :=
 match k, a with
 | .u8, .u8 x => some (.u8 x)
 | .u8, .u32 x => some (.u8 x.toUInt8)
 | .u8, .u64 x => some (.u8 x.toUInt8)
 | .u8, .int _ n => some (.u8 (UInt8.ofNat (n % 256).toNat))
 | .u32, .u8 x => some (.u32 x.toUInt32)
 | .u32, .u32 x => some (.u32 x)
 | .u32, .u64 x => some (.u32 x.toUInt32)
 | .u32, .int _ n => some (.u32 (UInt32.ofNat (n % 4294967296).toNat))
 | .u64, .u8 x => some (.u64 x.toUInt64)
 | .u64, .u32 x => some (.u64 x.toUInt64)
 | .u64, .u64 x => some (.u64 x)
 | .u64, .int _ n => some (.u64 (UInt64.ofNat (n % 18446744073709551616).toNat))
 | .i64, .u8 x => some (.int .i64 x.toNat)
 | .i64, .u32 x => some (.int .i64 x.toNat)
 | k, a => match a.toI with
  | some (_, n) => some (.int k (wr k n))
  | none => none
def eqK (k k' : IntKind) : Bool := decide (k = k')
def zjn (op : BinOp) (a b : AV) : Option (Bool × AV) :=
 match op, a, b with
 | .add, .u8 x, .u8 y => some (true, .u8 (x + y))
 | .sub, .u8 x, .u8 y => some (true, .u8 (x - y))
 | .mul, .u8 x, .u8 y => some (true, .u8 (x * y))
 | .and, .u8 x, .u8 y => some (true, .u8 (x &&& y))
 | .or, .u8 x, .u8 y => some (true, .u8 (x ||| y))
 | .xor, .u8 x, .u8 y => some (true, .u8 (x ^^^ y))
 | .andNot, .u8 x, .u8 y => some (true, .u8 (x &&& ~~~y))
 | .quo, .u8 x, .u8 y => some (y != 0, .u8 (x / y))
 | .rem, .u8 x, .u8 y => some (y != 0, .u8 (x % y))
 | .add, .u32 x, .u32 y => some (true, .u32 (x + y))
 | .sub, .u32 x, .u32 y => some (true, .u32 (x - y))
 | .mul, .u32 x, .u32 y => some (true, .u32 (x * y))
 | .and, .u32 x, .u32 y => some (true, .u32 (x &&& y))
 | .or, .u32 x, .u32 y => some (true, .u32 (x ||| y))
 | .xor, .u32 x, .u32 y => some (true, .u32 (x ^^^ y))
 | .andNot, .u32 x, .u32 y => some (true, .u32 (x &&& ~~~y))
 | .add, .u64 x, .u64 y => some (true, .u64 (x + y))
 | .sub, .u64 x, .u64 y => some (true, .u64 (x - y))
 | .mul, .u64 x, .u64 y => some (true, .u64 (x * y))
 | .and, .u64 x, .u64 y => some (true, .u64 (x &&& y))
 | .or, .u64 x, .u64 y => some (true, .u64 (x ||| y))
 | .xor, .u64 x, .u64 y => some (true, .u64 (x ^^^ y))
 | .andNot, .u64 x, .u64 y => some (true, .u64 (x &&& ~~~y))
 | .add, .int k x, .int k' y => some (eqK k' k, .int k (wr k (x + y)))
 | .sub, .int k x, .int k' y => some (eqK k' k, .int k (wr k (z6r x y)))
 | .mul, .int k x, .int k' y => some (eqK k' k, .int k (wr k (x * y)))
 | .quo, .int k x, .int k' y => some (eqK k' k && y != 0, .int k (wr k (x.tdiv y)))
 | .rem, .int k x, .int k' y => some (eqK k' k && y != 0, .int k (x.tmod y))
 | .and, .int k x, .int k' y => some (eqK k' k, .int k (bits .and k x y))
 | .or, .int k x, .int k' y => some (eqK k' k, .int k (bits .or k x y))
 | .xor, .int k x, .int k' y => some (eqK k' k, .int k (bits .xor k x y))
 | .andNot, .int k x, .int k' y => some (eqK k' k, .int k (bits .andNot k x y))
 | _, _, _ => none
def nnB (n : Int) : Bool := (n.toNat : Int) == n
theorem z3e {n : Int} : nnB n = true ↔ 0 ≤ n := by simp only [nnB, beq_iff_eq]; omega
def zfz (op : BinOp) (a b : AV) : Option (Bool × AV) :=
 match b.toI with
 | none => none
 | some (_, n) =>
  match op, a with
  | .shl, .u8 x => some (nnB n, .u8 (shl8 x n.toNat))
  | .shl, .u32 x => some (nnB n, .u32 (z9i x n.toNat))
  | .shl, .u64 x => some (nnB n, .u64 (z2n x n.toNat))
  | .shr, .u8 x => some (nnB n, .u8 (z4e x n.toNat))
  | .shr, .u32 x => some (nnB n, .u32 (zb1 x n.toNat))
  | .shr, .u64 x => some (nnB n, .u64 (ze x n.toNat))
  | .shl, .int .i64 x => some (nnB n, .int .i64 (wr .i64 (x * 2 ^ min n.toNat 64)))
  | .shr, .int .i64 x => some (nnB n, .int .i64 (x.fdiv (2 ^ min n.toNat 64)))
  | _, _ => none
def cmpI (op : BinOp) (x y : Int) : Option Bool :=
 match op with
 | .eql => some (x == y)
 | .neq => some (x != y)
 | .lss => some (ltI x y)
 | .leq => some (!ltI y x)
 | .gtr => some (ltI y x)
 | .geq => some (!ltI x y)
 | _ => none
def zw9 (op : BinOp) (a b : AV) : Option (Bool × AV) :=
 match a.toI, b.toI with
 | some (k, x), some (k', y) => match cmpI op x y with
  | some r => some (eqK k' k, .bool r)
  | none => none
 | _, _ => none
def zv1 : List AV → AV
 | [.b8 n l] => .b8 n l
 | [.w32 n l] => .w32 n l
 | [.w64 n l] => .w64 n l
 | [.n64 n l] => .n64 n l
 | [.agg l] => .agg l
 | l => .agg l
def AV.cells : AV → List AV
 | .agg l => l
 | v => [v]
mutual
def zjp : AV → Nat → List AV
 | .b8 m l, n => [.b8 (m - n) (l.drop n)]
 | .w32 m l, n => [.w32 (m - n) (l.drop n)]
 | .w64 m l, n => [.w64 (m - n) (l.drop n)]
 | .n64 m l, n => [.n64 (m - n) (l.drop n)]
 | .agg l, n => z56 l n
 | _, _ => []
def z56 : List AV → Nat → List AV
 | [], _ => []
 | a :: as, n => bif n == 0 then a :: as else bif leB (szA a) n then z56 as (n - szA a) else zjp a n ++ as
end
mutual
def zfu : AV → Nat → List AV
 | .b8 _ l, n => [.b8 n (l.take n)]
 | .w32 _ l, n => [.w32 n (l.take n)]
 | .w64 _ l, n => [.w64 n (l.take n)]
 | .n64 _ l, n => [.n64 n (l.take n)]
 | .agg l, n => z6x l n
 | _, _ => []
def z6x : List AV → Nat → List AV
 | [], _ => []
 | a :: as, n => bif n == 0 then [] else bif leB (szA a) n then a :: z6x as (n - szA a) else zfu a n
end
mutual
def headA : AV → Option AV
 | .b8 m l => bif m == 0 then none else some (.u8 (l.getD 0 0))
 | .w32 m l => bif m == 0 then none else some (.u32 (l.getD 0 0))
 | .w64 m l => bif m == 0 then none else some (.u64 (l.getD 0 0))
 | .n64 m l => bif m == 0 then none else some (.int .i64 (l.getD 0 0))
 | .agg l => zkd l
 | a => some a
def zkd : List AV → Option AV
 | [] => none
 | a :: _ => headA a
end
def z13c (c : List AV) (off n : Nat) (i : Int) : Option AV :=
 match z56 c off with
 | .b8 m l :: _ => bif leB n m then some (.u8 (l.getD i.toNat 0)) else none
 | .w32 m l :: _ => bif leB n m then some (.u32 (l.getD i.toNat 0)) else none
 | .w64 m l :: _ => bif leB n m then some (.u64 (l.getD i.toNat 0)) else none
 | .n64 m l :: _ => bif leB n m then some (.int .i64 (l.getD i.toNat 0)) else none
 | _ => zkd (z56 c (off + i.toNat))
def ofs (off : Nat) (i : Int) : Nat := bif off == 0 then i.toNat else off + i.toNat
theorem zbb (off : Nat) (i : Int) : ofs off i = off + i.toNat := by
 unfold ofs;cases h : off == 0
 ·rfl
 ·have : off = 0 := by simpa using h
  simp [this]
def zt3 (c : List AV) (off n : Nat) (i : Int) : Option (Bool × AV) :=
 match c with
 | [.b8 m l] => some (leB (off + n) m, .u8 (l.getD (ofs off i) 0))
 | [.w32 m l] => some (leB (off + n) m, .u32 (l.getD (ofs off i) 0))
 | [.w64 m l] => some (leB (off + n) m, .u64 (l.getD (ofs off i) 0))
 | [.n64 m l] => some (leB (off + n) m, .int .i64 (l.getD (ofs off i) 0))
 | c => match z13c c off n i with
  | some v => some (true, v)
  | none => none
def z4u (H : Heap) (id : Nat) : Option (List AV) :=
 match H[id]? with
 | some (.blk c _) => some c
 | some (.grow8 l _) => some [.b8 l.length l]
 | some (.grow _ rows _) => some rows
 | _ => none
def zg3 (H : Heap) : AV → Option (List AV × Nat)
 | .ptr id off => match z4u H id with
  | some c => some (c, off)
  | none => none
 | .vp c i => some (c, i)
 | _ => none
def zdj (H : Heap) : AV → Option (List AV × Nat × Nat × Int)
 | .pix id off n i => match z4u H id with
  | some c => some (c, off, n, i)
  | none => none
 | .vpx c off n i => some (c, off, n, i)
 | _ => none
def zpe (n : Nat) : AV → Option AV
 | .ptr id off => some (.ptr id (off + n))
 | .vp c i => some (.vp c (i + n))
 | _ => none
def zel (ti : TI) (c : List AV) (off : Nat) : Option (Bool × AV) :=
 bif ti.kind.isAgg then some (leB (off + ti.size) (szL c), zv1 (z6x (z56 c off) ti.size))
 else match zkd (z56 c off) with
  | some a => some (true, a)
  | none => none
def z11s (b : Bool) (x y : AV) : AV :=
 match x, y with
 | .bool p, .bool q => .bool (cond b p q)
 | x, y => cond b x y
section
variable {P : Program} (G : Env P)
def zea (ti : TI) (H : Heap) (a : AV) : Option (Bool × AV) :=
 match zg3 H a with
 | some (c, off) => zel ti c off
 | none => match zdj H a with
  | some (c, off, n, i) => bif ti.kind.isAgg then none else zt3 c off n i
  | none => none
def zh3 (te : TI) (len : Nat) (n : Int) : AV → Option AV
 | .ptr id off => bif te.size == 1 && !te.kind.isAgg then some (.pix id off len n) else some (.ptr id (off + n.toNat * te.size))
 | .vp c off => bif te.size == 1 && !te.kind.isAgg then some (.vpx c off len n) else some (.vp c (off + n.toNat * te.size))
 | _ => none
def zgx (ti : TI) (x : AV) (n : Int) : Option (Bool × AV) :=
 match ti.kind, x with
 | .arr len e, x => match G.ty e with
  | some te => match zh3 te len n x with
   | some v => some (inB n len, v)
   | none => none
  | none => none
 | .slice e, .sl id off k len => match G.ty e with
  | some te => match zh3 te len n (.ptr id off) with
   | some v => some (inB n len && k == te.size, v)
   | none => none
  | none => none
 | .slice e, .vec8 _ l => match G.ty e with
  | some te => some (inB n l.length && te.size == 1, .vpx [.b8 l.length l] 0 l.length n)
  | none => none
 | .slice e, .vec _ k rows => match G.ty e with
  | some te => some (inB n rows.length && te.size == k, .vp (rows.getD n.toNat .any).cells 0)
  | none => none
 | .slice e, .vecr _ k m f => match G.ty e with
  | some te => some (inB n m && te.size == k, .vp (f n.toNat) 0)
  | none => none
 | .slice e, .slv _ k m f => match G.ty e with
  | some te => some (inB n m && te.size == k, .vp (f n.toNat) 0)
  | none => none
 | _, _ => none
def zwm (ti : TI) (x : AV) (n : Int) : Option (Bool × AV) :=
 match ti.kind, x with
 | .arr len e, .b8 m l => match G.ty e with
  | some te => some ((inB n len && len == m) && (te.size == 1 && !te.kind.isAgg), .u8 (l.getD n.toNat 0))
  | none => none
 | .arr len e, .w32 m l => match G.ty e with
  | some te => some ((inB n len && len == m) && (te.size == 1 && !te.kind.isAgg), .u32 (l.getD n.toNat 0))
  | none => none
 | .arr len e, .w64 m l => match G.ty e with
  | some te => some ((inB n len && len == m) && (te.size == 1 && !te.kind.isAgg), .u64 (l.getD n.toNat 0))
  | none => none
 | .arr len e, .n64 m l => match G.ty e with
  | some te => bif te.kind.isAgg then some (inB n len && leB (len * te.size) m, .n64 te.size ((l.drop (n.toNat * te.size)).take te.size)) else some ((inB n len && len == m) && (te.size == 1 && !te.kind.isAgg), .int .i64 (l.getD n.toNat 0))
  | none => none
 | .arr len e, .agg l => match G.ty e with
  | some te => match zel te l (n.toNat * te.size) with
   | some (c, v) => some (inB n len && c, v)
   | none => none
  | none => none
 | .string, .str s => some (inB n s.length, .u8 (s.getD n.toNat 0))
 | _, _ => none
def zws (ti : TI) (x : AV) (f : Nat) : Option (Bool × AV) :=
 match ti.kind with
 | .str fs => match fs[f]? with
  | some (off, ft) => match G.ty ft with
   | some tf => bif z1w x then zel tf x.cells off else none
   | none => none
  | none => none
 | _ => none
def aUn (op : UnOp) (x : AV) : Option AV :=
 match op, x with
 | .not, .bool b => some (.bool !b)
 | .neg, .u64 x => some (.u64 (0 - x))
 | .neg, .int k n => some (.int k (wr k (z6r 0 n)))
 | .xor, .u32 x => some (.u32 (~~~x))
 | .xor, .u64 x => some (.u64 (~~~x))
 | _, _ => none
def zga (op : BinOp) (a b : AV) : Option (Bool × AV) :=
 match op, a, b with
 | .eql, .bool x, .bool y => some (true, .bool (x == y))
 | .neq, .bool x, .bool y => some (true, .bool (x != y))
 | _, _, _ => none
def zwe (op : BinOp) (a b : AV) : Option (Bool × AV) :=
 match op, a, b with
 | .add, .str x, .str y => some (ltB (x.length + y.length) 9223372036854775808, .str (x ++ y))
 | .eql, .str x, .str y => some (true, .bool (x == y))
 | .neq, .str x, .str y => some (true, .bool (x != y))
 | .lss, .str x, .str y => some (true, .bool (Op.bytesLess x y))
 | .leq, .str x, .str y => some (true, .bool (Op.bytesLess x y || x == y))
 | .gtr, .str x, .str y => some (true, .bool !(Op.bytesLess x y || x == y))
 | .geq, .str x, .str y => some (true, .bool !(Op.bytesLess x y))
 | _, _, _ => none
def TK.isInt : TK → Bool
 | .int _ => true
 | _ => false
def zlo (k : TK) (a b : AV) : Option Bool :=
 match k, a, b with
 | .int _, .u8 x, .u8 y => some (x == y)
 | .int _, .u32 x, .u32 y => some (x == y)
 | .int _, .u64 x, .u64 y => some (x == y)
 | .int _, .int k x, .int k' y => bif eqK k k' then some (x == y) else none
 | .bool, .bool x, .bool y => some (x == y)
 | .string, .str x, .str y => some (x == y)
 | _, _, _ => none
def zni (f : AV → AV → Option (Bool × Bool)) (te : TI) (xs ys : List AV) : Nat → Nat → Option (Bool × Bool)
 | 0, _ => some (true, true)
 | n + 1, i => match zel te xs (i * te.size), zel te ys (i * te.size) with
  | some (c, a), some (c', b) => match f a b, zni f te xs ys n (i + 1) with
   | some (d, r), some (d', s) => some ((c && c') && (d && d'), r && s)
   | _, _ => none
  | _, _ => none
def zoj (f : Nat → AV → AV → Option (Bool × Bool)) (xs ys : List AV) : List (Nat × Nat) → Option (Bool × Bool)
 | [] => some (true, true)
 | (off, ft) :: fs => match G.ty ft with
  | some tf => match zel tf xs off, zel tf ys off with
   | some (c, a), some (c', b) => match f ft a b, zoj f xs ys fs with
    | some (d, r), some (d', s) => some ((c && c') && (d && d'), r && s)
    | _, _ => none
   | _, _ => none
  | none => none
def zh9 : Nat → Nat → AV → AV → Option (Bool × Bool)
 | 0, _, _, _ => none
 | d + 1, t, a, b => match G.ty t with
  | none => none
  | some ti => match ti.kind, a, b with
   | .arr n e, .b8 m l, .b8 m' l' => match G.ty e with
    | some te => some ((te.size == 1 && te.kind.isInt) && (n == m && n == m'), l == l')
    | none => none
   | .arr n e, .w32 m l, .w32 m' l' => match G.ty e with
    | some te => some ((te.size == 1 && te.kind.isInt) && (n == m && n == m'), l == l')
    | none => none
   | .arr n e, .w64 m l, .w64 m' l' => match G.ty e with
    | some te => some ((te.size == 1 && te.kind.isInt) && (n == m && n == m'), l == l')
    | none => none
   | .arr n e, .agg xs, .agg ys => match G.ty e with
    | some te => zni (zh9 d e) te xs ys n 0
    | none => none
   | .str fs, .agg xs, .agg ys => match zoj G (zh9 d) xs ys fs with
    | some (c, r) => some (ti.sok && c, r)
    | none => none
   | k, a, b => match zlo k a b with
    | some r => some (true, r)
    | none => none
def zmr (op : BinOp) (t : Nat) (ti : TI) (a b : AV) : Option (Bool × AV) :=
 match op with
 | .eql => match zh9 G 8 t a b with
  | some (c, r) => some (ti.eqf && c, .bool r)
  | none => none
 | .neq => match zh9 G 8 t a b with
  | some (c, r) => some (ti.eqf && c, .bool (!r))
  | none => none
 | _ => none
def aBin (op : BinOp) (t : Nat) (a b : AV) : Option (Bool × AV) :=
 match zjn op a b with
 | some r => some r
 | none => match (match op with
   | .shl => zfz op a b
   | .shr => zfz op a b
   | _ => zw9 op a b) with
  | some r => some r
  | none => match G.ty t with
   | some ti => match ti.kind with
    | .bool => zga op a b
    | .string => zwe op a b
    | .arr _ _ => zmr G op t ti a b
    | .str _ => zmr G op t ti a b
    | _ => none
   | none => none
def zm4 (x y c : UInt64) : UInt64 := if x.toNat + y.toNat + c.toNat < 18446744073709551616 then 0 else 1
def ziz (x y c : UInt64) : UInt64 := if x.toNat < y.toNat + c.toNat then 1 else 0
def zg : UInt64 → UInt64 → UInt64 → UInt64 := (zf zm4).val
def z39 : UInt64 → UInt64 → UInt64 → UInt64 := (zf ziz).val
theorem zhn (x y c : UInt64) : zg x y c = if x.toNat + y.toNat + c.toNat < 18446744073709551616 then 0 else 1 := by
 rw [zg, (zf zm4).property, zm4]
theorem zew (x y c : UInt64) : z39 x y c = if x.toNat < y.toNat + c.toNat then 1 else 0 := by
 rw [z39, (zf ziz).property, ziz]
theorem z6b (x y c : UInt64) : leB (zg x y c).toNat 1 = true := by
 rw [zhn]; split <;> rfl
theorem zap (x y c : UInt64) : leB (z39 x y c).toNat 1 = true := by
 rw [zew]; split <;> rfl
def z3s (c : UInt64) : Bool := leB c.toNat 1
def aext (k : FK) (args : List AV) : Option (Bool × AV) :=
 match k, args with
 | .add64, [.u64 x, .u64 y, .u64 c] => some (z3s c, .tup [.u64 (x + y + c), .u64 (zg x y c)])
 | .sub64, [.u64 x, .u64 y, .u64 c] => some (z3s c, .tup [.u64 (x - y - c), .u64 (z39 x y c)])
 | _, _ => none
def alen (k : TK) (x : AV) : Option AV :=
 match k, x with
 | .slice _, .vec8 _ l => some (.int .i64 l.length)
 | .slice _, .vec _ _ rows => some (.int .i64 rows.length)
 | .slice _, .vecr _ _ m _ => some (.int .i64 m)
 | .slice _, .slv _ _ m _ => some (.int .i64 m)
 | .slice _, .sl _ _ _ n => some (.int .i64 n)
 | .string, .str s => some (.int .i64 s.length)
 | _, _ => none
def zkv (mx : Bool) (args : List AV) : Option AV :=
 match args with
 | [.int .i64 x, .int .i64 y] => some (.int .i64 (bif mx then max x y else min x y))
 | _ => none
def known : AV → Bool
 | .any => false
 | .raw v => v.oneCell'
 | _ => true
def zo3 : AV → Nat → AV → Option AV
 | .b8 m l, off, .u8 x => some (.b8 m (l.set off x))
 | .w32 m l, off, .u32 x => some (.w32 m (l.set off x))
 | .w64 m l, off, .u64 x => some (.w64 m (l.set off x))
 | .b8 m l, off, .b8 s l2 => some (.b8 m (l.take off ++ (l2 ++ l.drop (off + s))))
 | .w64 m l, off, .w64 s l2 => some (.w64 m (l.take off ++ (l2 ++ l.drop (off + s))))
 | .w32 m l, off, .w32 s l2 => some (.w32 m (l.take off ++ (l2 ++ l.drop (off + s))))
 | _, _, _ => none
mutual
def setA : AV → Nat → AV → AV
 | .agg l, off, v => .agg (za0 l off v)
 | a, off, v => match zo3 a off v with
  | some r => r
  | none => .agg (zfu a off ++ (v :: zjp a (off + szA v)))
def za0 : List AV → Nat → AV → List AV
 | [], _, _ => []
 | a :: as, off, v =>
  bif leB (szA a) off then a :: za0 as (off - szA a) v
  else bif leB (off + szA v) (szA a) then (bif off == 0 && szA v == szA a then v :: as else setA a off v :: as)
  else (bif off == 0 then [] else zfu a off) ++ (v :: z56 as (off + szA v - szA a))
end
def setX (c : List AV) (off n : Nat) (i : Int) (v : AV) : Option (List AV) :=
 match c with
 | [] => none
 | a :: as =>
  bif leB (szA a) off then (match setX as (off - szA a) n i v with
   | some l => some (a :: l)
   | none => none)
  else bif off == 0 then (match a, v with
   | .b8 m l, .u8 x => bif leB n m then some (.b8 m (l.set i.toNat x) :: as) else none
   | .w32 m l, .u32 x => bif leB n m then some (.w32 m (l.set i.toNat x) :: as) else none
   | .w64 m l, .u64 x => bif leB n m then some (.w64 m (l.set i.toNat x) :: as) else none
   | _, v => some (za0 (a :: as) i.toNat v))
  else some (za0 (a :: as) (off + i.toNat) v)
def z12g (c : List AV) (off n : Nat) (i : Int) (v : AV) : Option (List AV) :=
 match c, v with
 | [.b8 m l], .u8 x => some [.b8 m (l.set (ofs off i) x)]
 | [.w32 m l], .u32 x => some [.w32 m (l.set (ofs off i) x)]
 | [.w64 m l], .u64 x => some [.w64 m (l.set (ofs off i) x)]
 | c, v => setX c off n i v
def zax (place : Nat → Option (Nat × Nat)) (cells : List AV) : List (Nat × AV) → Option (Bool × List AV)
 | [] => some (true, cells)
 | (i, v) :: rest =>
  match place i with
  | none => none
  | some (off, size) =>
   match zax place (za0 cells off v) rest with
   | some (c, l) => some ((known v && (szA v == size && (leB (off + size) (szL cells) && size != 0))) && c, l)
   | none => none
def zin (fs : List (Nat × Nat)) (i : Nat) : Option (Nat × Nat) :=
 match fs[i]? with
 | some (off, ft) => match G.ty ft with
  | some tf => some (off, tf.size)
  | none => none
 | none => none
def z85 (n i : Nat) : Option (Nat × Nat) := some (i * n, n)
def z133 (fs : List (Nat × Nat)) : Bool := fs.all fun f => (G.ty f.2).isSome
def ztd (t : Nat) (parts : List (Nat × AV)) : Option (Bool × AV) :=
 match G.ty t with
 | some ti => match ti.zero with
  | some z => match ti.kind with
   | .arr _ e => match G.ty e with
    | some ie => match zax (z85 ie.size) z.cells parts with
     | some (c, l) => some (z1w z && c, zv1 l)
     | none => none
    | none => none
   | .str fs => match zax (zin G fs) z.cells parts with
    | some (c, l) => some ((z1w z && z133 G fs) && c, zv1 l)
    | none => none
   | _ => none
  | none => none
 | none => none
def z3q (H : Heap) : AV → Option (Bool × List UInt8)
 | .vec8 _ l => some (true, l)
 | .sl id off k len => match H[id]? with
  | some (.grow8 l _) => some (k == 1 && leB (off + len) l.length, (l.drop off).take len)
  | some (.blk c _) => match z6x (z56 c off) len with
   | [.b8 m l] => some (k == 1 && m == len, l)
   | _ => none
  | _ => none
 | _ => none
end
end Go.V
namespace Go.Cha
open Go Go.V
def z4c (x : UInt32) (n m : Nat) : UInt32 := z9i x n ||| zb1 x m
def zsn (a b d n m : Nat) (l : List UInt32) : List UInt32 :=
 (l.set a (l.getD a 0 + l.getD b 0)).set d (z4c ((l.set a (l.getD a 0 + l.getD b 0)).getD d 0 ^^^ (l.set a (l.getD a 0 + l.getD b 0)).getD a 0) n m)
def z7m (a b c d : Nat) (l : List UInt32) : List UInt32 := zsn c d b 7 25 (zsn a b d 8 24 (zsn c d b 12 20 (zsn a b d 16 16 l)))
def zzj (l : List UInt32) : List UInt32 :=
 z7m 3 4 9 14 (z7m 2 7 8 13 (z7m 1 6 11 12 (z7m 0 5 10 15 (z7m 3 7 11 15 (z7m 2 6 10 14 (z7m 1 5 9 13 (z7m 0 4 8 12 l)))))))
def zg4 (w : List UInt32) : Nat → List UInt32
 | 0 => w
 | n + 1 => zzj (zg4 w n)
def z9y (b : List UInt8) (i : Nat) : UInt32 := (((b.getD i 0).toUInt32 ||| z9i (b.getD (i + 1) 0).toUInt32 8) ||| z9i (b.getD (i + 2) 0).toUInt32 16) ||| z9i (b.getD (i + 3) 0).toUInt32 24
def startS (key : List UInt8) (c : UInt32) (nonce : List UInt8) : List UInt32 :=
 [0x61707865, 0x3320646e, 0x79622d32, 0x6b206574, z9y key 0, z9y key 4, z9y key 8, z9y key 12, z9y key 16, z9y key 20, z9y key 24, z9y key 28, c, z9y nonce 0, z9y nonce 4, z9y nonce 8]
def outS (w f : List UInt32) : List UInt8 := (List.range 16).flatMap fun i => (List.range 4).map fun k => (zb1 (w.getD i 0 + f.getD i 0) (8 * k)).toUInt8
def zw4 (key : List UInt8) (c : UInt32) (nonce : List UInt8) : List UInt8 := outS (zg4 (startS key c nonce) 10) (startS key c nonce)
def blockS : List UInt8 → UInt32 → List UInt8 → List UInt8 := (zf zw4).val
theorem zrb (key : List UInt8) (c : UInt32) (nonce : List UInt8) : blockS key c nonce = zw4 key c nonce := by rw [blockS, (zf zw4).property]
theorem zs4 (key : List UInt8) (c : UInt32) (nonce : List UInt8) : (blockS key c nonce).length = 64 := by rw [zrb]; rfl
end Go.Cha
namespace Go.V
open Go
section
variable {P : Program} {ρ : Rho} {I : Imm} {H : Heap} {w : World}
theorem run_underlying {P : Program} {t : Nat} {d : TypeDesc} (h : P.underlying t = some d) (w : World) : (underlying t).run P w = .ok d w := by
 simp [underlying, h]
theorem run_typeInfo {P : Program} {t : Nat} {i : TypeInfo} (h : P.info? t = some i) (w : World) : (typeInfo t).run P w = .ok i w := by
 simp [typeInfo, h]
theorem run_sizeOf {P : Program} {t : Nat} {i : TypeInfo} (h : P.info? t = some i) (w : World) : (sizeOf t).run P w = .ok i.size w := by
 simp [sizeOf, run_typeInfo h]
theorem z5j {P : Program} {t : Nat} {d : TypeDesc} (h : P.underlying t = some d) (w : World) : (isAgg t).run P w = .ok (TK.of d).isAgg w := by
 cases d <;> simp [isAgg, run_underlying h, TK.of, TK.isAgg]
theorem z8i {P : Program} {w : World} {k yk : IntKind} {x y : Int} (h : 0 ≤ y) :
  (Op.shift .shl k x yk y).run P w = .ok (.int k (k.wrap (x * 2 ^ min y.toNat k.bits))) w := by
 have : ¬ y < 0 := by omega
 simp [Op.shift, this]
theorem z8h {P : Program} {w : World} {k yk : IntKind} {x y : Int} (h : 0 ≤ y) :
  (Op.shift .shr k x yk y).run P w = .ok (.int k (x.fdiv (2 ^ min y.toNat k.bits))) w := by
 have : ¬ y < 0 := by omega
 simp [Op.shift, this]
theorem zmg {k : IntKind} (hk : k.signed = false) (n : Nat) (h : n < 2 ^ k.bits) : k.wrap (n : Int) = n := by
 have h' : (n : Int) < 2 ^ k.bits := by exact_mod_cast h
 simp only [IntKind.wrap, hk, Bool.false_and, Bool.false_eq_true, if_false];exact Int.emod_eq_of_lt (by omega) h'
theorem ofInt_u8 (x : UInt8) : BitVec.ofInt 8 (x.toNat : Int) = x.toBitVec := by
 rw [BitVec.ofInt_natCast]; apply BitVec.eq_of_toNat_eq; simp
theorem ofInt_u32 (x : UInt32) : BitVec.ofInt 32 (x.toNat : Int) = x.toBitVec := by
 rw [BitVec.ofInt_natCast]; apply BitVec.eq_of_toNat_eq; simp
theorem ofInt_u64 (x : UInt64) : BitVec.ofInt 64 (x.toNat : Int) = x.toBitVec := by
 rw [BitVec.ofInt_natCast]; apply BitVec.eq_of_toNat_eq; simp
theorem wrap_u8 (v : BitVec 8) : IntKind.u8.wrap (v.toNat : Int) = v.toNat := zmg rfl _ v.isLt
theorem wrap_u32 (v : BitVec 32) : IntKind.u32.wrap (v.toNat : Int) = v.toNat := zmg rfl _ v.isLt
theorem wrap_u64 (v : BitVec 64) : IntKind.u64.wrap (v.toNat : Int) = v.toNat := zmg rfl _ v.isLt
theorem zkn (op : BinOp) (x y : UInt8) : bits op .u8 x.toNat y.toNat =
  ((match op with | .and => x &&& y | .or => x ||| y | .xor => x ^^^ y | _ => x &&& ~~~y).toNat : Int) := by
 have hx := ofInt_u8 x;have hy := ofInt_u8 y;simp only [bits, IntKind.bits, hx, hy];cases op <;> exact wrap_u8 _
theorem zdl (op : BinOp) (x y : UInt32) : bits op .u32 x.toNat y.toNat =
  ((match op with | .and => x &&& y | .or => x ||| y | .xor => x ^^^ y | _ => x &&& ~~~y).toNat : Int) := by
 have hx := ofInt_u32 x;have hy := ofInt_u32 y;simp only [bits, IntKind.bits, hx, hy];cases op <;> exact wrap_u32 _
theorem zd4 (op : BinOp) (x y : UInt64) : bits op .u64 x.toNat y.toNat =
  ((match op with | .and => x &&& y | .or => x ||| y | .xor => x ^^^ y | _ => x &&& ~~~y).toNat : Int) := by
 have hx := ofInt_u64 x;have hy := ofInt_u64 y;simp only [bits, IntKind.bits, hx, hy];cases op <;> exact wrap_u64 _
theorem za8 (n : Int) : IntKind.u8.wrap n = n % 256 := by simp [IntKind.wrap, IntKind.bits, IntKind.signed]
theorem zbd (n : Int) : IntKind.u32.wrap n = n % 4294967296 := by simp [IntKind.wrap, IntKind.bits, IntKind.signed]
theorem z8v (n : Int) : IntKind.u64.wrap n = n % 18446744073709551616 := by simp [IntKind.wrap, IntKind.bits, IntKind.signed]
theorem z142 {op : UnOp} {x v : AV} {vx : Value} (rx : rel ρ I w x vx) (h : aUn op x = some v) : ∃ y, (Op.unary op vx).run P w = .ok y w ∧ rel ρ I w v y := by
 unfold aUn at h
 split at h <;> simp only [Option.some.injEq, reduceCtorEq] at h <;> subst h <;> (simp only [zu, zo, zn, zj, zl, zi] at rx; subst rx)
 ·exact ⟨_, by simp [Op.unary]; rfl, by simp [zu, zo, zn, zj, zl, zi]⟩
 ·refine ⟨_, by simp [Op.unary, Op.intArith]; rfl, ?_⟩
  rename_i x;simp only [zu, zo, zn, zj, zl, zi, Value.int.injEq, true_and, UInt64.toNat_sub, z8v];have := x.toNat_lt;simp;omega
 ·exact ⟨_, by simp [Op.unary, Op.intArith]; rfl, by simp [z6v, z4p, zu, zo, zn, zj, zl, zi]⟩
 ·rename_i x;refine ⟨.int .u32 (bits .xor .u32 IntKind.u32.max x.toNat), rfl, ?_⟩;have h1 : IntKind.u32.max = ((4294967295 : UInt32).toNat : Int) := by decide
  rw [h1, zdl];simp only [zu, zo, zn, zj, zl, zi, Value.int.injEq, true_and]
  congr 2
 ·rename_i x;refine ⟨.int .u64 (bits .xor .u64 IntKind.u64.max x.toNat), rfl, ?_⟩;have h1 : IntKind.u64.max = ((18446744073709551615 : UInt64).toNat : Int) := by decide
  rw [h1, zd4];simp only [zu, zo, zn, zj, zl, zi, Value.int.injEq, true_and]
  congr 2
theorem z14d {op : BinOp} {t : Nat} {x y : AV} {vx vy : Value} (rx : rel ρ I w x vx) (ry : rel ρ I w y vy) {p : Bool × AV} (h : zjn op x y = some p) (hp : p.1 = true) :
  ∃ z, (binOp op t vx vy).run P w = .ok z w ∧ rel ρ I w p.2 z := by
 unfold zjn at h
 split at h <;> simp only [Option.some.injEq, reduceCtorEq] at h <;> subst h <;> (simp only [zu, zo, zn, zj, zl, zi] at rx ry; subst rx ry) <;> simp only [bne_iff_ne, Bool.and_eq_true, eqK, decide_eq_true_eq, z1z] at hp
 case h_1 x y => exact ⟨.int .u8 _, rfl, by simp only [zu, zo, zn, zj, zl, zi, Value.int.injEq, true_and, za8, UInt8.toNat_add]; simp⟩
 case h_2 x y => exact ⟨.int .u8 _, rfl, by simp only [zu, zo, zn, zj, zl, zi, Value.int.injEq, true_and, za8, UInt8.toNat_sub]; have := x.toNat_lt; have := y.toNat_lt; omega⟩
 case h_3 x y => exact ⟨.int .u8 _, rfl, by simp only [zu, zo, zn, zj, zl, zi, Value.int.injEq, true_and, za8, UInt8.toNat_mul]; simp⟩
 case h_4 x y => exact ⟨.int .u8 (bits .and .u8 x.toNat y.toNat), rfl, by rw [zkn]; simp [zu, zo, zn, zj, zl, zi]⟩
 case h_5 x y => exact ⟨.int .u8 (bits .or .u8 x.toNat y.toNat), rfl, by rw [zkn]; simp [zu, zo, zn, zj, zl, zi]⟩
 case h_6 x y => exact ⟨.int .u8 (bits .xor .u8 x.toNat y.toNat), rfl, by rw [zkn]; simp [zu, zo, zn, zj, zl, zi]⟩
 case h_7 x y => exact ⟨.int .u8 (bits .andNot .u8 x.toNat y.toNat), rfl, by rw [zkn]; simp [zu, zo, zn, zj, zl, zi]⟩
 case h_8 x y =>
  have hy : y.toNat ≠ 0 := fun e => hp (UInt8.toNat_inj.1 e)
  refine ⟨.int .u8 (IntKind.u8.wrap ((x.toNat : Int).tdiv y.toNat)), by simp [binOp, Op.intDiv, hy], ?_⟩
  simp only [zu, zo, zn, zj, zl, zi, Value.int.injEq, true_and, za8, UInt8.toNat_div];rw [← Int.ofNat_tdiv];have h1 := x.toNat_lt;have h2 := Nat.div_le_self x.toNat y.toNat;show ((x.toNat / y.toNat : Nat) : Int) % 256 = ((x.toNat / y.toNat : Nat) : Int);generalize x.toNat / y.toNat = q at *;omega
 case h_9 x y =>
  have hy : y.toNat ≠ 0 := fun e => hp (UInt8.toNat_inj.1 e)
  refine ⟨.int .u8 ((x.toNat : Int).tmod y.toNat), by simp [binOp, Op.intDiv, hy], ?_⟩
  simp only [zu, zo, zn, zj, zl, zi, Value.int.injEq, true_and, UInt8.toNat_mod];rw [← Int.ofNat_tmod]
 case h_10 x y => exact ⟨.int .u32 _, rfl, by simp only [zu, zo, zn, zj, zl, zi, Value.int.injEq, true_and, zbd, UInt32.toNat_add]; simp⟩
 case h_11 x y => exact ⟨.int .u32 _, rfl, by simp only [zu, zo, zn, zj, zl, zi, Value.int.injEq, true_and, zbd, UInt32.toNat_sub]; have := x.toNat_lt; have := y.toNat_lt; omega⟩
 case h_12 x y => exact ⟨.int .u32 _, rfl, by simp only [zu, zo, zn, zj, zl, zi, Value.int.injEq, true_and, zbd, UInt32.toNat_mul]; simp⟩
 case h_13 x y => exact ⟨.int .u32 (bits .and .u32 x.toNat y.toNat), rfl, by rw [zdl]; simp [zu, zo, zn, zj, zl, zi]⟩
 case h_14 x y => exact ⟨.int .u32 (bits .or .u32 x.toNat y.toNat), rfl, by rw [zdl]; simp [zu, zo, zn, zj, zl, zi]⟩
 case h_15 x y => exact ⟨.int .u32 (bits .xor .u32 x.toNat y.toNat), rfl, by rw [zdl]; simp [zu, zo, zn, zj, zl, zi]⟩
 case h_16 x y => exact ⟨.int .u32 (bits .andNot .u32 x.toNat y.toNat), rfl, by rw [zdl]; simp [zu, zo, zn, zj, zl, zi]⟩
 case h_17 x y => exact ⟨.int .u64 _, rfl, by simp only [zu, zo, zn, zj, zl, zi, Value.int.injEq, true_and, z8v, UInt64.toNat_add]; simp⟩
 case h_18 x y => exact ⟨.int .u64 _, rfl, by simp only [zu, zo, zn, zj, zl, zi, Value.int.injEq, true_and, z8v, UInt64.toNat_sub]; have := x.toNat_lt; have := y.toNat_lt; omega⟩
 case h_19 x y => exact ⟨.int .u64 _, rfl, by simp only [zu, zo, zn, zj, zl, zi, Value.int.injEq, true_and, z8v, UInt64.toNat_mul]; simp⟩
 case h_20 x y => exact ⟨.int .u64 (bits .and .u64 x.toNat y.toNat), rfl, by rw [zd4]; simp [zu, zo, zn, zj, zl, zi]⟩
 case h_21 x y => exact ⟨.int .u64 (bits .or .u64 x.toNat y.toNat), rfl, by rw [zd4]; simp [zu, zo, zn, zj, zl, zi]⟩
 case h_22 x y => exact ⟨.int .u64 (bits .xor .u64 x.toNat y.toNat), rfl, by rw [zd4]; simp [zu, zo, zn, zj, zl, zi]⟩
 case h_23 x y => exact ⟨.int .u64 (bits .andNot .u64 x.toNat y.toNat), rfl, by rw [zd4]; simp [zu, zo, zn, zj, zl, zi]⟩
 case h_24 k x k' y => subst hp; exact ⟨_, by simp [binOp, Op.intArith]; rfl, by simp [z6v, z4p, zu, zo, zn, zj, zl, zi]⟩
 case h_25 k x k' y => subst hp; exact ⟨_, by simp [binOp, Op.intArith]; rfl, by simp [z6v, z4p, zu, zo, zn, zj, zl, zi]⟩
 case h_26 k x k' y => subst hp; exact ⟨_, by simp [binOp, Op.intArith]; rfl, by simp [z6v, z4p, zu, zo, zn, zj, zl, zi]⟩
 case h_27 k x k' y => obtain ⟨rfl, hp⟩ := hp; exact ⟨_, by simp [binOp, Op.intDiv, hp]; rfl, by simp [z6v, z4p, zu, zo, zn, zj, zl, zi]⟩
 case h_28 k x k' y => obtain ⟨rfl, hp⟩ := hp; exact ⟨_, by simp [binOp, Op.intDiv, hp]; rfl, by simp [zu, zo, zn, zj, zl, zi]⟩
 case h_29 k x k' y => subst hp; exact ⟨.int k' (bits .and k' x y), by simp [binOp, intBits_and], by simp [zu, zo, zn, zj, zl, zi]⟩
 case h_30 k x k' y => subst hp; exact ⟨.int k' (bits .or k' x y), by simp [binOp, intBits_or], by simp [zu, zo, zn, zj, zl, zi]⟩
 case h_31 k x k' y => subst hp; exact ⟨.int k' (bits .xor k' x y), by simp [binOp, intBits_xor], by simp [zu, zo, zn, zj, zl, zi]⟩
 case h_32 k x k' y => subst hp; exact ⟨.int k' (bits .andNot k' x y), by simp [binOp, intBits_andNot], by simp [zu, zo, zn, zj, zl, zi]⟩
theorem z1du {op : BinOp} (hop : op ≠ .shl ∧ op ≠ .shr) {t : Nat} {x y : AV} {vx vy : Value} (rx : rel ρ I w x vx) (ry : rel ρ I w y vy) {p : Bool × AV} (h : zw9 op x y = some p) (hp : p.1 = true) :
  ∃ z, (binOp op t vx vy).run P w = .ok z w ∧ rel ρ I w p.2 z := by
 unfold zw9 at h
 split at h
 ·rename_i k a k' b ha hb;have e1 := z6q ha rx;have e2 := z6q hb ry;subst e1 e2
  split at h
  case h_2 => simp at h
  rename_i r hr;simp only [Option.some.injEq] at h;subst h;simp only [eqK, decide_eq_true_eq] at hp;subst hp;cases op <;> simp only [cmpI, Option.some.injEq, reduceCtorEq] at hr <;> subst hr <;> exact ⟨.bool _, by simp [binOp, Op.intCmp]; rfl, by simp [z1o, z1jj, zu, zo, zn, zj, zl, zi]⟩
 ·simp at h
theorem zqn {op : BinOp} {t : Nat} {x y : AV} {vx vy : Value} (rx : rel ρ I w x vx) (ry : rel ρ I w y vy) {p : Bool × AV} (h : zfz op x y = some p) (hp : p.1 = true) :
  ∃ z, (binOp op t vx vy).run P w = .ok z w ∧ rel ρ I w p.2 z := by
 unfold zfz at h
 split at h
 ·simp at h
 ·rename_i k n hb;have e2 := z6q hb ry;subst e2
  split at h <;> simp only [Option.some.injEq, reduceCtorEq] at h <;> subst h <;> (simp only [zu, zo, zn, zj, zl, zi] at rx; subst rx) <;> simp only [z3e] at hp
  case h_1 x =>
   refine ⟨_, z8i (x := (x.toNat : Int)) (yk := k) hp, ?_⟩;simp only [zu, zo, zn, zj, zl, zi, Value.int.injEq, true_and, za8, shl8, UInt8.toNat_ofNat', IntKind.bits];rcases Nat.lt_or_ge n.toNat 8 with hn | hn
   ·rw [Nat.min_eq_left (by omega), Int.natCast_emod, Int.natCast_mul, Int.natCast_pow]; rfl
   ·rw [Nat.min_eq_right hn];obtain ⟨q, hq⟩ := Nat.exists_eq_add_of_le hn;rw [hq, Nat.pow_add, ← Nat.mul_assoc, Nat.mul_assoc x.toNat, Nat.mul_comm (2 ^ 8), ← Nat.mul_assoc, Nat.mul_mod_left];omega
  case h_2 x =>
   refine ⟨_, z8i (x := (x.toNat : Int)) (yk := k) hp, ?_⟩;simp only [zu, zo, zn, zj, zl, zi, Value.int.injEq, true_and, zbd, z9i, UInt32.toNat_ofNat', IntKind.bits];rcases Nat.lt_or_ge n.toNat 32 with hn | hn
   ·rw [Nat.min_eq_left (by omega), Int.natCast_emod, Int.natCast_mul, Int.natCast_pow]; rfl
   ·rw [Nat.min_eq_right hn];obtain ⟨q, hq⟩ := Nat.exists_eq_add_of_le hn;rw [hq, Nat.pow_add, ← Nat.mul_assoc, Nat.mul_assoc x.toNat, Nat.mul_comm (2 ^ 32), ← Nat.mul_assoc, Nat.mul_mod_left];omega
  case h_3 x =>
   refine ⟨_, z8i (x := (x.toNat : Int)) (yk := k) hp, ?_⟩;simp only [zu, zo, zn, zj, zl, zi, Value.int.injEq, true_and, z8v, z2n, UInt64.toNat_ofNat', IntKind.bits];rcases Nat.lt_or_ge n.toNat 64 with hn | hn
   ·rw [Nat.min_eq_left (by omega), Int.natCast_emod, Int.natCast_mul, Int.natCast_pow]; rfl
   ·rw [Nat.min_eq_right hn];obtain ⟨q, hq⟩ := Nat.exists_eq_add_of_le hn;rw [hq, Nat.pow_add, ← Nat.mul_assoc, Nat.mul_assoc x.toNat, Nat.mul_comm (2 ^ 64), ← Nat.mul_assoc, Nat.mul_mod_left];omega
  case h_4 x =>
   refine ⟨_, z8h (x := (x.toNat : Int)) (yk := k) hp, ?_⟩;simp only [zu, zo, zn, zj, zl, zi, Value.int.injEq, true_and, z4e, UInt8.toNat_ofNat', IntKind.bits];have hx := x.toNat_lt;have e : x.toNat / 2 ^ n.toNat % 2 ^ 8 = x.toNat / 2 ^ min n.toNat 8 := by
    rw [Nat.mod_eq_of_lt (Nat.lt_of_le_of_lt (Nat.div_le_self _ _) hx)];rcases Nat.lt_or_ge n.toNat 8 with hn | hn
    ·rw [Nat.min_eq_left (by omega)]
    ·rw [Nat.min_eq_right hn, Nat.div_eq_of_lt hx, Nat.div_eq_of_lt (Nat.lt_of_lt_of_le hx (Nat.pow_le_pow_right (by decide) hn))]
   rw [e, Int.fdiv_eq_ediv_of_nonneg _ (Int.pow_nonneg (by decide))]
   push_cast; rfl
  case h_5 x =>
   refine ⟨_, z8h (x := (x.toNat : Int)) (yk := k) hp, ?_⟩;simp only [zu, zo, zn, zj, zl, zi, Value.int.injEq, true_and, zb1, UInt32.toNat_ofNat', IntKind.bits];have hx := x.toNat_lt;have e : x.toNat / 2 ^ n.toNat % 2 ^ 32 = x.toNat / 2 ^ min n.toNat 32 := by
    rw [Nat.mod_eq_of_lt (Nat.lt_of_le_of_lt (Nat.div_le_self _ _) hx)];rcases Nat.lt_or_ge n.toNat 32 with hn | hn
    ·rw [Nat.min_eq_left (by omega)]
    ·rw [Nat.min_eq_right hn, Nat.div_eq_of_lt hx, Nat.div_eq_of_lt (Nat.lt_of_lt_of_le hx (Nat.pow_le_pow_right (by decide) hn))]
   rw [e, Int.fdiv_eq_ediv_of_nonneg _ (Int.pow_nonneg (by decide))]
   push_cast; rfl
  case h_6 x =>
   refine ⟨_, z8h (x := (x.toNat : Int)) (yk := k) hp, ?_⟩;simp only [zu, zo, zn, zj, zl, zi, Value.int.injEq, true_and, ze, UInt64.toNat_ofNat', IntKind.bits];have hx := x.toNat_lt;have e : x.toNat / 2 ^ n.toNat % 2 ^ 64 = x.toNat / 2 ^ min n.toNat 64 := by
    rw [Nat.mod_eq_of_lt (Nat.lt_of_le_of_lt (Nat.div_le_self _ _) hx)];rcases Nat.lt_or_ge n.toNat 64 with hn | hn
    ·rw [Nat.min_eq_left (by omega)]
    ·rw [Nat.min_eq_right hn, Nat.div_eq_of_lt hx, Nat.div_eq_of_lt (Nat.lt_of_lt_of_le hx (Nat.pow_le_pow_right (by decide) hn))]
   rw [e, Int.fdiv_eq_ediv_of_nonneg _ (Int.pow_nonneg (by decide))]
   push_cast; rfl
  case h_7 x => exact ⟨_, by simp [binOp]; exact z8i hp, by simp [z6v, z4p, zu, zo, zn, zj, zl, zi, IntKind.bits]⟩
  case h_8 x => exact ⟨_, by simp [binOp]; exact z8h hp, by simp [zu, zo, zn, zj, zl, zi, IntKind.bits]⟩
theorem z11m {op : BinOp} {t : Nat} (ht : P.underlying t = some .bool) {x y : AV} {vx vy : Value} (rx : rel ρ I w x vx) (ry : rel ρ I w y vy) {p : Bool × AV} (h : zga op x y = some p) :
  ∃ z, (binOp op t vx vy).run P w = .ok z w ∧ rel ρ I w p.2 z := by
 unfold zga at h
 split at h <;> simp only [Option.some.injEq, reduceCtorEq] at h <;> subst h <;> (simp only [zu, zo, zn, zj, zl, zi] at rx ry; subst rx ry)
 ·exact ⟨_, run_eql_bool w t _ _ ht, by simp [zu, zo, zn, zj, zl, zi]⟩
 ·exact ⟨_, run_neq_bool w t _ _ ht, by simp [zu, zo, zn, zj, zl, zi, bne]⟩
theorem toList_mk (l : List UInt8) : (⟨l.toArray⟩ : ByteArray).toList = l := by
 rw [ByteArray.toList_eq]
theorem z1d5 {op : BinOp} {t : Nat} {x y : AV} {vx vy : Value} (rx : rel ρ I w x vx) (ry : rel ρ I w y vy) {p : Bool × AV} (h : zwe op x y = some p) (hp : p.1 = true) :
  ∃ z, (binOp op t vx vy).run P w = .ok z w ∧ rel ρ I w p.2 z := by
 have step : ∀ (x y : List UInt8), (binOp op t (.string ⟨x.toArray⟩) (.string ⟨y.toArray⟩)).run P w = (Op.stringOp op ⟨x.toArray⟩ ⟨y.toArray⟩).run P w := by
  intro x y; cases op <;> rfl
 unfold zwe at h
 split at h <;> simp only [Option.some.injEq, reduceCtorEq] at h <;> subst h <;> (simp only [zu, zo, zn, zj, zl, zi] at rx ry; subst rx ry) <;> simp only [bne_iff_ne, Bool.and_eq_true, eqK, decide_eq_true_eq, z1z] at hp <;> rw [step]
 case h_1 x y =>
  refine ⟨.string (⟨x.toArray⟩ ++ ⟨y.toArray⟩), ?_, ?_⟩
  ·have h1 : IntKind.i64.max = 9223372036854775807 := by decide
   have h2 : ¬ ((((⟨x.toArray⟩ : ByteArray).size + (⟨y.toArray⟩ : ByteArray).size : Nat) : Int) > IntKind.i64.max) := by
    simp only [ByteArray.size, List.size_toArray, h1];omega
   unfold Op.stringOp;simp only [if_neg h2];rfl
  ·simp only [zu, zo, zn, zj, zl, zi, Value.string.injEq];apply ByteArray.ext;simp
 case h_2 x y => exact ⟨.bool _, by simp only [Op.stringOp, toList_mk]; rfl, by simp [zu, zo, zn, zj, zl, zi]⟩
 case h_3 x y => exact ⟨.bool _, by simp only [Op.stringOp, toList_mk]; rfl, by simp [zu, zo, zn, zj, zl, zi, bne]⟩
 case h_4 x y => exact ⟨.bool _, by simp only [Op.stringOp, toList_mk]; rfl, by simp [zu, zo, zn, zj, zl, zi]⟩
 case h_5 x y => exact ⟨.bool _, by simp only [Op.stringOp, toList_mk]; rfl, by simp [zu, zo, zn, zj, zl, zi]⟩
 case h_6 x y => exact ⟨.bool _, by simp only [Op.stringOp, toList_mk]; rfl, by simp [zu, zo, zn, zj, zl, zi]⟩
 case h_7 x y => exact ⟨.bool _, by simp only [Op.stringOp, toList_mk]; rfl, by simp [zu, zo, zn, zj, zl, zi]⟩
theorem z1db {k : IntKind} {s d : Nat} {ds : TypeDesc} (hs : P.underlying s = some ds) (hd : P.underlying d = some (.int k)) {x v : AV} {vx : Value} (rx : rel ρ I w x vx) (h : cvt k x = some v) :
  ∃ z, (convert s d vx).run P w = .ok z w ∧ rel ρ I w v z := by
 have key : ∀ (k' : IntKind) (n : Int), vx = .int k' n → (convert s d vx).run P w = .ok (.int k (k.wrap n)) w := by
  rintro k' n rfl;simp [convert, run_underlying hs, run_underlying hd, Conv.intToInt]
 unfold cvt at h
 split at h
 case h_15 =>
  split at h
  ·rename_i k1 n hn;simp only [Option.some.injEq] at h;subst h;exact ⟨_, key _ _ (z6q hn rx), by simp [z6v, z4p, zu, zo, zn, zj, zl, zi]⟩
  ·simp at h
 all_goals simp only [Option.some.injEq] at h
 all_goals subst h
 all_goals (simp only [zu, zo, zn, zj, zl, zi] at rx; refine ⟨_, key _ _ rx, ?_⟩; simp only [zu, zo, zn, zj, zl, zi, Value.int.injEq, true_and, za8, zbd, z8v])
 case h_1 x => have := x.toNat_lt; omega
 case h_2 x => rw [UInt32.toNat_toUInt8]; omega
 case h_3 x => rw [UInt64.toNat_toUInt8]; omega
 case h_4 n => rw [UInt8.toNat_ofNat']; omega
 case h_5 x => have := x.toNat_lt; rw [UInt8.toNat_toUInt32]; omega
 case h_6 x => have := x.toNat_lt; omega
 case h_7 x => rw [UInt64.toNat_toUInt32]; omega
 case h_8 n => rw [UInt32.toNat_ofNat']; omega
 case h_9 x => have := x.toNat_lt; rw [UInt8.toNat_toUInt64]; omega
 case h_10 x => have := x.toNat_lt; rw [UInt32.toNat_toUInt64]; omega
 case h_11 x => have := x.toNat_lt; omega
 case h_12 n => rw [UInt64.toNat_ofNat']; omega
 case h_13 x => have := x.toNat_lt; simp only [IntKind.wrap, IntKind.bits, IntKind.signed]; simp; omega
 case h_14 x => have := x.toNat_lt; simp only [IntKind.wrap, IntKind.bits, IntKind.signed]; simp; omega
end
section
variable {P : Program} {ρ : Rho} {I : Imm} {w : World}
theorem zah (l : List UInt8) (n : Nat) : (v8 l).drop n = v8 (l.drop n) := by simp [v8]
theorem zmh (l : List UInt32) (n : Nat) : (v32 l).drop n = v32 (l.drop n) := by simp [v32]
theorem zi4 (l : List Int) (n : Nat) : (zae l).drop n = zae (l.drop n) := by simp [zae]
theorem zj0 (l : List Int) (n : Nat) : (zae l).take n = zae (l.take n) := by simp [zae]
theorem zm3 {l : List Int} {i : Nat} (h : i < l.length) : (zae l)[i]? = some (.int .i64 (l.getD i 0)) := by simp [zae, List.getD, h]
theorem zli (l : List UInt64) (n : Nat) : (v64 l).drop n = v64 (l.drop n) := by simp [v64]
theorem za9 (l : List UInt8) (n : Nat) : (v8 l).take n = v8 (l.take n) := by simp [v8]
theorem zmj (l : List UInt32) (n : Nat) : (v32 l).take n = v32 (l.take n) := by simp [v32]
theorem zln (l : List UInt64) (n : Nat) : (v64 l).take n = v64 (l.take n) := by simp [v64]
theorem zbi (l l' : List UInt8) : v8 l ++ v8 l' = v8 (l ++ l') := by simp [v8]
theorem z12p (l l' : List UInt32) : v32 l ++ v32 l' = v32 (l ++ l') := by simp [v32]
theorem z12x (l l' : List UInt64) : v64 l ++ v64 l' = v64 (l ++ l') := by simp [v64]
theorem zmw {l : List UInt8} {i : Nat} (h : i < l.length) : (v8 l)[i]? = some (.int .u8 (l.getD i 0).toNat) := by simp [v8, List.getD, h]
theorem zq4 {l : List UInt32} {i : Nat} (h : i < l.length) : (v32 l)[i]? = some (.int .u32 (l.getD i 0).toNat) := by simp [v32, List.getD, h]
theorem zq5 {l : List UInt64} {i : Nat} (h : i < l.length) : (v64 l)[i]? = some (.int .u64 (l.getD i 0).toNat) := by simp [v64, List.getD, h]
theorem zwk (l : List UInt8) (i : Nat) (x : UInt8) : (v8 l).set i (.int .u8 x.toNat) = v8 (l.set i x) := by simp [v8, List.map_set]
theorem zpp (l : List UInt32) (i : Nat) (x : UInt32) : (v32 l).set i (.int .u32 x.toNat) = v32 (l.set i x) := by simp [v32, List.map_set]
theorem zpj (l : List UInt64) (i : Nat) (x : UInt64) : (v64 l).set i (.int .u64 x.toNat) = v64 (l.set i x) := by simp [v64, List.map_set]
theorem ze7 {a b : Nat} (h : leB a b = false) : b < a := by
 apply Nat.lt_of_not_le; intro hc; rw [zp hc] at h; cases h
theorem z6c {n : Nat} (h : (n == 0) = false) : 0 < n := by
 have : n ≠ 0 := by simpa using h
 omega
theorem zsc {a : AV} {ys : List Value} (ha : z1w a = false) (h : R ρ I w a ys) : ∃ x, ys = [x] ∧ rel ρ I w a x := by
 cases a <;> simp only [z1w, reduceCtorEq] at ha
 case any => obtain ⟨x, rfl⟩ := h; exact ⟨x, rfl, zf9⟩
 case raw v => cases h; exact ⟨v, rfl, zfm.2 rfl⟩
 case int k n => cases h; exact ⟨_, rfl, zj.2 rfl⟩
 case u8 x => cases h; exact ⟨_, rfl, zu.2 rfl⟩
 case u32 x => cases h; exact ⟨_, rfl, zo.2 rfl⟩
 case u64 x => cases h; exact ⟨_, rfl, zn.2 rfl⟩
 case bool b => cases h; exact ⟨_, rfl, zl.2 rfl⟩
 case str s => cases h; exact ⟨_, rfl, zi.2 rfl⟩
 all_goals (have h' := h; obtain ⟨v, rfl, _⟩ := h'; exact ⟨v, rfl, h⟩)
theorem zjq {a : AV} {x : Value} (ha : z1w a = false) (h : rel ρ I w a x) : R ρ I w a [x] := by
 cases a <;> simp only [z1w, reduceCtorEq] at ha
 case any => exact ⟨x, rfl⟩
 all_goals exact h
theorem znu {a : AV} {x : Value} (ha : z1w a = true) : rel ρ I w a x ↔ ∃ cs : Array Value, x = .agg cs ∧ R ρ I w a cs.toList := by
 cases a <;> simp only [z1w, reduceCtorEq] at ha <;> exact Iff.rfl
mutual
theorem z1ed : ∀ (a : AV) (ys : List Value) (n : Nat), R ρ I w a ys → 0 < n → n < szA a → RL ρ I w (zjp a n) (ys.drop n)
 | .b8 m l, _, n, ⟨h, h'⟩, _, hn => by
  subst h;exact ⟨_, [], by simp [zah], ⟨rfl, by simp [h']⟩, rfl⟩
 | .w32 m l, _, n, ⟨h, h'⟩, _, hn => by
  subst h;exact ⟨_, [], by simp [zmh], ⟨rfl, by simp [h']⟩, rfl⟩
 | .w64 m l, _, n, ⟨h, h'⟩, _, hn => by
  subst h;exact ⟨_, [], by simp [zli], ⟨rfl, by simp [h']⟩, rfl⟩
 | .n64 m l, _, n, ⟨h, h'⟩, _, hn => by
  subst h;exact ⟨_, [], by simp [zi4], ⟨rfl, by simp [h']⟩, rfl⟩
 | .agg l, _, n, h, _, hn => z62 l _ n h
 | .any, _, _, _, h1, h2 | .raw _, _, _, _, h1, h2 | .int _ _, _, _, _, h1, h2 | .u8 _, _, _, _, h1, h2 | .u32 _, _, _, _, h1, h2 | .u64 _, _, _, _, h1, h2 | .bool _, _, _, _, h1, h2 | .str _, _, _, _, h1, h2
 | .ptr _ _, _, _, _, h1, h2 | .pix _ _ _ _, _, _, _, h1, h2 | .sl _ _ _ _, _, _, _, h1, h2 | .vec8 _ _, _, _, _, h1, h2 | .vec _ _ _, _, _, _, h1, h2 | .vecr _ _ _ _, _, _, _, h1, h2 | .slv _ _ _ _, _, _, _, h1, h2 | .vp _ _, _, _, _, h1, h2 | .vpx _ _ _ _, _, _, _, h1, h2
 | .fn _ _ _, _, _, _, h1, h2 | .tup _, _, _, _, h1, h2 => by simp only [szA] at h2; omega
theorem z62 : ∀ (c : List AV) (vs : List Value) (n : Nat), RL ρ I w c vs → RL ρ I w (z56 c n) (vs.drop n)
 | [], _, n, h => by cases h; simp [z56, RL]
 | a :: as, _, n, ⟨ys, zs, h0, h1, h2⟩ => by
  subst h0;have hl := z3o a ys h1;simp only [z56];cases hn : n == 0 with
  | true =>
   simp only [cond_true];obtain rfl : n = 0 := by simpa using hn
   exact ⟨ys, zs, by simp, h1, h2⟩
  | false =>
   simp only [cond_false];have hp := z6c hn;cases hs : leB (szA a) n with
   | true =>
    simp only [cond_true];have hle := zh.1 hs;have := z62 as zs (n - szA a) h2;rw [List.drop_append, List.drop_eq_nil_of_le (by omega), List.nil_append, hl]
    exact this
   | false =>
    simp only [cond_false];have hlt := ze7 hs;rw [List.drop_append_of_le_length (by omega)]
    exact z7j (z1ed a ys n h1 hp hlt) h2
end
mutual
theorem zzb : ∀ (a : AV) (ys : List Value) (n : Nat), R ρ I w a ys → 0 < n → n < szA a → RL ρ I w (zfu a n) (ys.take n)
 | .b8 m l, _, n, ⟨h, h'⟩, _, hn => by
  subst h;simp only [szA] at hn;exact ⟨_, [], by simp [za9], ⟨rfl, by simp [h']; omega⟩, rfl⟩
 | .w32 m l, _, n, ⟨h, h'⟩, _, hn => by
  subst h;simp only [szA] at hn;exact ⟨_, [], by simp [zmj], ⟨rfl, by simp [h']; omega⟩, rfl⟩
 | .w64 m l, _, n, ⟨h, h'⟩, _, hn => by
  subst h;simp only [szA] at hn;exact ⟨_, [], by simp [zln], ⟨rfl, by simp [h']; omega⟩, rfl⟩
 | .n64 m l, _, n, ⟨h, h'⟩, _, hn => by
  subst h;simp only [szA] at hn;exact ⟨_, [], by simp [zj0], ⟨rfl, by simp [h']; omega⟩, rfl⟩
 | .agg l, _, n, h, _, hn => zad l _ n h
 | .any, _, _, _, h1, h2 | .raw _, _, _, _, h1, h2 | .int _ _, _, _, _, h1, h2 | .u8 _, _, _, _, h1, h2 | .u32 _, _, _, _, h1, h2 | .u64 _, _, _, _, h1, h2 | .bool _, _, _, _, h1, h2 | .str _, _, _, _, h1, h2
 | .ptr _ _, _, _, _, h1, h2 | .pix _ _ _ _, _, _, _, h1, h2 | .sl _ _ _ _, _, _, _, h1, h2 | .vec8 _ _, _, _, _, h1, h2 | .vec _ _ _, _, _, _, h1, h2 | .vecr _ _ _ _, _, _, _, h1, h2 | .slv _ _ _ _, _, _, _, h1, h2 | .vp _ _, _, _, _, h1, h2 | .vpx _ _ _ _, _, _, _, h1, h2
 | .fn _ _ _, _, _, _, h1, h2 | .tup _, _, _, _, h1, h2 => by simp only [szA] at h2; omega
theorem zad : ∀ (c : List AV) (vs : List Value) (n : Nat), RL ρ I w c vs → RL ρ I w (z6x c n) (vs.take n)
 | [], _, n, h => by cases h; simp [z6x, RL]
 | a :: as, _, n, ⟨ys, zs, h0, h1, h2⟩ => by
  subst h0;have hl := z3o a ys h1;simp only [z6x];cases hn : n == 0 with
  | true =>
   simp only [cond_true];obtain rfl : n = 0 := by simpa using hn
   simp [RL]
  | false =>
   simp only [cond_false];have hp := z6c hn;cases hs : leB (szA a) n with
   | true =>
    simp only [cond_true];have hle := zh.1 hs;rw [List.take_append, List.take_of_length_le (by omega), hl]
    exact ⟨ys, _, rfl, h1, zad as zs (n - szA a) h2⟩
   | false =>
    simp only [cond_false];have hlt := ze7 hs;rw [List.take_append_of_le_length (by omega)]
    exact zzb a ys n h1 hp hlt
end
mutual
theorem zxf : ∀ (a : AV) (ys : List Value) (v : AV), R ρ I w a ys → headA a = some v → ∃ x xs, ys = x :: xs ∧ rel ρ I w v x ∧ z1w v = false
 | .b8 m l, _, v, ⟨h, h'⟩, hv => by
  subst h;simp only [headA] at hv;cases hm : m == 0 <;> rw [hm] at hv <;> simp only [cond_true, cond_false, reduceCtorEq, Option.some.injEq] at hv
  subst hv;have := z6c hm
  match l, h' with
  | [], h' => simp at h'; omega
  | x :: l, _ => exact ⟨_, _, rfl, zu.2 rfl, rfl⟩
 | .w32 m l, _, v, ⟨h, h'⟩, hv => by
  subst h;simp only [headA] at hv;cases hm : m == 0 <;> rw [hm] at hv <;> simp only [cond_true, cond_false, reduceCtorEq, Option.some.injEq] at hv
  subst hv;have := z6c hm
  match l, h' with
  | [], h' => simp at h'; omega
  | x :: l, _ => exact ⟨_, _, rfl, zo.2 rfl, rfl⟩
 | .w64 m l, _, v, ⟨h, h'⟩, hv => by
  subst h;simp only [headA] at hv;cases hm : m == 0 <;> rw [hm] at hv <;> simp only [cond_true, cond_false, reduceCtorEq, Option.some.injEq] at hv
  subst hv;have := z6c hm
  match l, h' with
  | [], h' => simp at h'; omega
  | x :: l, _ => exact ⟨_, _, rfl, zn.2 rfl, rfl⟩
 | .n64 m l, _, v, ⟨h, h'⟩, hv => by
  subst h;simp only [headA] at hv;cases hm : m == 0 <;> rw [hm] at hv <;> simp only [cond_true, cond_false, reduceCtorEq, Option.some.injEq] at hv
  subst hv;have := z6c hm
  match l, h' with
  | [], h' => simp at h'; omega
  | x :: l, _ => exact ⟨_, _, rfl, zj.2 rfl, rfl⟩
 | .agg l, _, v, h, hv => zer l _ v h (by simpa only [headA] using hv)
 | .any, _, _, h, hv | .raw _, _, _, h, hv | .int _ _, _, _, h, hv | .u8 _, _, _, h, hv | .u32 _, _, _, h, hv | .u64 _, _, _, h, hv | .bool _, _, _, h, hv | .str _, _, _, h, hv
 | .ptr _ _, _, _, h, hv | .pix _ _ _ _, _, _, h, hv | .sl _ _ _ _, _, _, h, hv | .vec8 _ _, _, _, h, hv | .vec _ _ _, _, _, h, hv | .vecr _ _ _ _, _, _, h, hv | .slv _ _ _ _, _, _, h, hv | .vp _ _, _, _, h, hv | .vpx _ _ _ _, _, _, h, hv
 | .fn _ _ _, _, _, h, hv | .tup _, _, _, h, hv => by
  simp only [headA, Option.some.injEq] at hv;subst hv;obtain ⟨x, rfl, hr⟩ := zsc rfl h;exact ⟨x, [], rfl, hr, rfl⟩
theorem zer : ∀ (c : List AV) (vs : List Value) (v : AV), RL ρ I w c vs → zkd c = some v → ∃ x xs, vs = x :: xs ∧ rel ρ I w v x ∧ z1w v = false
 | [], _, _, _, hv => by simp [zkd] at hv
 | a :: as, _, v, ⟨ys, zs, h0, h1, h2⟩, hv => by
  subst h0;obtain ⟨x, xs, rfl, hr, hi⟩ := zxf a ys v h1 (by simpa only [zkd] using hv)
  exact ⟨x, xs ++ zs, rfl, hr, hi⟩
end
theorem zgq {l : List AV} {cs : List Value} (h : RL ρ I w l cs) : rel ρ I w (zv1 l) (.agg cs.toArray) := by
 have one : ∀ a, RL ρ I w [a] cs → R ρ I w a cs := by
  rintro a ⟨ys, zs, h0, h1, h2⟩;cases h2;simpa [h0] using h1
 unfold zv1
 split
 ·exact ⟨_, rfl, one _ h⟩
 ·exact ⟨_, rfl, one _ h⟩
 ·exact ⟨_, rfl, one _ h⟩
 ·exact ⟨_, rfl, one _ h⟩
 ·exact ⟨_, rfl, one _ h⟩
 ·exact ⟨_, rfl, h⟩
theorem zrj {vs : List Value} {off : Nat} {x : Value} {xs : List Value} (h : vs.drop off = x :: xs) : vs[off]? = some x := by
 have := congrArg (·[0]?) h;simpa using this
theorem zn0 {ti : TI} {c : List AV} {vs : List Value} {off : Nat} {p : Bool × AV} (h : RL ρ I w c vs) (hc : zel ti c off = some p) (hp : p.1 = true) :
  (ti.kind.isAgg = true → off + ti.size ≤ vs.length ∧ rel ρ I w p.2 (.agg ((vs.drop off).take ti.size).toArray)) ∧
  (ti.kind.isAgg = false → ∃ x, vs[off]? = some x ∧ rel ρ I w p.2 x ∧ z1w p.2 = false) := by
 unfold zel at hc;cases hk : ti.kind.isAgg with
 | true =>
  rw [hk] at hc;simp only [cond_true, Option.some.injEq] at hc;subst hc;refine ⟨fun _ => ⟨?_, zgq (zad _ _ _ (z62 _ _ _ h))⟩, fun h => (by cases h)⟩
  have := zh.1 hp
  rwa [z3g _ _ h]
 | false =>
  rw [hk] at hc;simp only [cond_false] at hc
  split at hc
  ·rename_i a ha;simp only [Option.some.injEq] at hc;subst hc;obtain ⟨x, xs, h1, h2, h3⟩ := zer _ _ _ (z62 c vs off h) ha;exact ⟨fun h => (by cases h), fun _ => ⟨x, zrj h1, h2, h3⟩⟩
  ·simp at hc
theorem z5w {a : AV} {as : List AV} {vs : List Value} (h : RL ρ I w (a :: as) vs) : ∃ ys zs, vs = ys ++ zs ∧ R ρ I w a ys ∧ RL ρ I w as zs := z12.1 h
theorem zwv {c : List AV} {vs : List Value} {off n : Nat} {i : Int} {v : AV} (h : RL ρ I w c vs) (hi : 0 ≤ i ∧ i < n) (hc : z13c c off n i = some v) :
  ∃ x, vs[off + i.toNat]? = some x ∧ rel ρ I w v x ∧ z1w v = false := by
 have hd := z62 c vs off h;have key : ∀ (ys zs : List Value) (x : Value), vs.drop off = ys ++ zs → ys[i.toNat]? = some x → vs[off + i.toNat]? = some x := by
  intro ys zs x h1 h2;rw [← List.getElem?_drop, h1, List.getElem?_append_left (List.getElem?_eq_some_iff.1 h2).1, h2]
 unfold z13c at hc
 split at hc
 ·rename_i m l as hh;rw [hh] at hd;obtain ⟨ys, zs, h0, ⟨rfl, h1⟩, _⟩ := z5w hd;cases hn : leB n m <;> rw [hn] at hc <;> simp only [cond_true, cond_false, reduceCtorEq, Option.some.injEq] at hc
  subst hc;have := zh.1 hn;exact ⟨_, key _ _ _ h0 (zmw (by omega)), zu.2 rfl, rfl⟩
 ·rename_i m l as hh;rw [hh] at hd;obtain ⟨ys, zs, h0, ⟨rfl, h1⟩, _⟩ := z5w hd;cases hn : leB n m <;> rw [hn] at hc <;> simp only [cond_true, cond_false, reduceCtorEq, Option.some.injEq] at hc
  subst hc;have := zh.1 hn;exact ⟨_, key _ _ _ h0 (zq4 (by omega)), zo.2 rfl, rfl⟩
 ·rename_i m l as hh;rw [hh] at hd;obtain ⟨ys, zs, h0, ⟨rfl, h1⟩, _⟩ := z5w hd;cases hn : leB n m <;> rw [hn] at hc <;> simp only [cond_true, cond_false, reduceCtorEq, Option.some.injEq] at hc
  subst hc;have := zh.1 hn;exact ⟨_, key _ _ _ h0 (zq5 (by omega)), zn.2 rfl, rfl⟩
 ·rename_i m l as hh;rw [hh] at hd;obtain ⟨ys, zs, h0, ⟨rfl, h1⟩, _⟩ := z5w hd;cases hn : leB n m <;> rw [hn] at hc <;> simp only [cond_true, cond_false, reduceCtorEq, Option.some.injEq] at hc
  subst hc;have := zh.1 hn;exact ⟨_, key _ _ _ h0 (zm3 (by omega)), zj.2 rfl, rfl⟩
 ·obtain ⟨x, xs, h1, h2, h3⟩ := zer _ _ _ (z62 c vs (off + i.toNat) h) hc;exact ⟨x, zrj h1, h2, h3⟩
theorem ztn {c : List AV} {vs : List Value} {off n : Nat} {i : Int} {p : Bool × AV} (h : RL ρ I w c vs) (hi : 0 ≤ i ∧ i < n) (hc : zt3 c off n i = some p) (hp : p.1 = true) :
  ∃ x, vs[off + i.toNat]? = some x ∧ rel ρ I w p.2 x := by
 unfold zt3 at hc
 split at hc
 ·simp only [Option.some.injEq] at hc;subst hc;have := zh.1 hp;obtain ⟨ys, zs, rfl, ⟨rfl, h1⟩, h2⟩ := z5w h;cases h2;rw [List.append_nil, zbb];exact ⟨_, zmw (by omega), zu.2 rfl⟩
 ·simp only [Option.some.injEq] at hc;subst hc;have := zh.1 hp;obtain ⟨ys, zs, rfl, ⟨rfl, h1⟩, h2⟩ := z5w h;cases h2;rw [List.append_nil, zbb];exact ⟨_, zq4 (by omega), zo.2 rfl⟩
 ·simp only [Option.some.injEq] at hc;subst hc;have := zh.1 hp;obtain ⟨ys, zs, rfl, ⟨rfl, h1⟩, h2⟩ := z5w h;cases h2;rw [List.append_nil, zbb];exact ⟨_, zq5 (by omega), zn.2 rfl⟩
 ·simp only [Option.some.injEq] at hc;subst hc;have := zh.1 hp;obtain ⟨ys, zs, rfl, ⟨rfl, h1⟩, h2⟩ := z5w h;cases h2;rw [List.append_nil, zbb];exact ⟨_, zm3 (by omega), zj.2 rfl⟩
 ·split at hc
  ·rename_i v hv;simp only [Option.some.injEq] at hc;subst hc;obtain ⟨x, h1, h2, _⟩ := zwv h hi hv;exact ⟨x, h1, h2⟩
  ·simp at hc
def z18 (c : List Value) (off : Nat) (l : List Value) : List Value := c.take off ++ (l ++ c.drop (off + l.length))
theorem z82 {c l : List Value} {off : Nat} (h : off + l.length ≤ c.length) : (z18 c off l).length = c.length := by
 simp [z18]; omega
theorem zd1 {ys zs xs : List Value} {off : Nat} (h : off + xs.length ≤ ys.length) : z18 (ys ++ zs) off xs = z18 ys off xs ++ zs := by
 simp only [z18];rw [List.take_append_of_le_length (by omega), List.drop_append_of_le_length (by omega)]
 simp
theorem zrv {ys zs xs : List Value} {off : Nat} (h : ys.length ≤ off) : z18 (ys ++ zs) off xs = ys ++ z18 zs (off - ys.length) xs := by
 simp only [z18];rw [List.take_append, List.take_of_length_le (by omega), List.drop_append, List.drop_eq_nil_of_le (by omega), List.nil_append, List.append_assoc,
  show off + xs.length - ys.length = off - ys.length + xs.length by omega]
theorem z6p {c : List Value} {off : Nat} (x : Value) (h : off < c.length) : z18 c off [x] = c.set off x := by
 rw [List.set_eq_take_append_cons_drop, if_pos h];simp [z18]
theorem zv7 {a : AV} {ys : List Value} {off : Nat} {v r : AV} {xs : List Value} (h : R ρ I w a ys) (hv : R ρ I w v xs) (hs : zo3 a off v = some r) (hle : off + szA v ≤ szA a) :
  R ρ I w r (z18 ys off xs) := by
 have hl := z3o _ _ h;have hx := z3o _ _ hv;unfold zo3 at hs
 split at hs <;> simp only [Option.some.injEq, reduceCtorEq] at hs <;> subst hs
 ·obtain ⟨rfl, h1⟩ := h;cases hv;simp only [szA] at hle;rw [z6p _ (by rw [z1k]; omega), zwk]
  exact ⟨rfl, by simpa using h1⟩
 ·obtain ⟨rfl, h1⟩ := h;cases hv;simp only [szA] at hle;rw [z6p _ (by rw [zbx]; omega), zpp]
  exact ⟨rfl, by simpa using h1⟩
 ·obtain ⟨rfl, h1⟩ := h;cases hv;simp only [szA] at hle;rw [z6p _ (by rw [zca]; omega), zpj]
  exact ⟨rfl, by simpa using h1⟩
 ·obtain ⟨rfl, h1⟩ := h;obtain ⟨rfl, h2⟩ := hv;simp only [szA] at hle;refine ⟨by simp only [z18, za9, zah, zbi, z1k, h2], by simp; omega⟩
 ·obtain ⟨rfl, h1⟩ := h;obtain ⟨rfl, h2⟩ := hv;simp only [szA] at hle;refine ⟨by simp only [z18, zln, zli, z12x, zca, h2], by simp; omega⟩
 ·obtain ⟨rfl, h1⟩ := h;obtain ⟨rfl, h2⟩ := hv;simp only [szA] at hle;refine ⟨by simp only [z18, zmj, zmh, z12p, zbx, h2], by simp; omega⟩
theorem zec {a : AV} {ys : List Value} {off : Nat} {v : AV} {xs : List Value} (h : R ρ I w a ys) (hv : R ρ I w v xs) (hle : off + szA v ≤ szA a) (hd : ∀ n, RL ρ I w (zjp a n) (ys.drop n)) (hf : ∀ n, n ≤ szA a → RL ρ I w (zfu a n) (ys.take n)) :
  R ρ I w (match zo3 a off v with | some r => r | none => .agg (zfu a off ++ (v :: zjp a (off + szA v)))) (z18 ys off xs) := by
 split
 ·rename_i r hr; exact zv7 h hv hr hle
 ·have hx := z3o _ _ hv;simp only [z18, hx];exact z7j (hf off (by omega)) (z12.2 ⟨xs, _, rfl, hv, hd _⟩)
mutual
theorem z1jk : ∀ (a : AV) (ys : List Value) (off : Nat) (v : AV) (xs : List Value), R ρ I w a ys → R ρ I w v xs → off + szA v ≤ szA a → 0 < szA v → z1w a = true → R ρ I w (setA a off v) (z18 ys off xs)
 | .agg l, ys, off, v, xs, h, hv, hle, h0, _ => by
  simp only [setA];exact zd9 l ys off v xs h hv (by simpa only [szA] using hle) h0
 | .b8 m l, _, off, v, xs, h, hv, hle, _, _ => by
  obtain ⟨rfl, h'⟩ := h;exact zec (a := .b8 m l) ⟨rfl, h'⟩ hv hle (fun n => ⟨_, [], by simp [zah], ⟨rfl, by simp [h']⟩, rfl⟩) (fun n hn => ⟨_, [], by simp [za9], ⟨rfl, by simp only [szA] at hn; simp [h']; omega⟩, rfl⟩)
 | .w32 m l, _, off, v, xs, h, hv, hle, _, _ => by
  obtain ⟨rfl, h'⟩ := h;exact zec (a := .w32 m l) ⟨rfl, h'⟩ hv hle (fun n => ⟨_, [], by simp [zmh], ⟨rfl, by simp [h']⟩, rfl⟩) (fun n hn => ⟨_, [], by simp [zmj], ⟨rfl, by simp only [szA] at hn; simp [h']; omega⟩, rfl⟩)
 | .w64 m l, _, off, v, xs, h, hv, hle, _, _ => by
  obtain ⟨rfl, h'⟩ := h;exact zec (a := .w64 m l) ⟨rfl, h'⟩ hv hle (fun n => ⟨_, [], by simp [zli], ⟨rfl, by simp [h']⟩, rfl⟩) (fun n hn => ⟨_, [], by simp [zln], ⟨rfl, by simp only [szA] at hn; simp [h']; omega⟩, rfl⟩)
 | .n64 m l, _, off, v, xs, h, hv, hle, _, _ => by
  obtain ⟨rfl, h'⟩ := h;exact zec (a := .n64 m l) ⟨rfl, h'⟩ hv hle (fun n => ⟨_, [], by simp [zi4], ⟨rfl, by simp [h']⟩, rfl⟩) (fun n hn => ⟨_, [], by simp [zj0], ⟨rfl, by simp only [szA] at hn; simp [h']; omega⟩, rfl⟩)
 | .any, _, _, _, _, _, _, _, _, h | .raw _, _, _, _, _, _, _, _, _, h | .int _ _, _, _, _, _, _, _, _, _, h | .u8 _, _, _, _, _, _, _, _, _, h | .u32 _, _, _, _, _, _, _, _, _, h | .u64 _, _, _, _, _, _, _, _, _, h | .bool _, _, _, _, _, _, _, _, _, h | .str _, _, _, _, _, _, _, _, _, h
 | .ptr _ _, _, _, _, _, _, _, _, _, h | .pix _ _ _ _, _, _, _, _, _, _, _, _, h | .sl _ _ _ _, _, _, _, _, _, _, _, _, h | .vec8 _ _, _, _, _, _, _, _, _, _, h | .vec _ _ _, _, _, _, _, _, _, _, _, h | .vp _ _, _, _, _, _, _, _, _, _, h | .vpx _ _ _ _, _, _, _, _, _, _, _, _, h
 | .fn _ _ _, _, _, _, _, _, _, _, _, h | .tup _, _, _, _, _, _, _, _, _, h => by simp [z1w] at h
theorem zd9 : ∀ (c : List AV) (vs : List Value) (off : Nat) (v : AV) (xs : List Value), RL ρ I w c vs → R ρ I w v xs → off + szA v ≤ szL c → 0 < szA v → RL ρ I w (za0 c off v) (z18 vs off xs)
 | [], vs, off, v, xs, h, hv, hle, _ => by
  cases h;have hx := z3o _ _ hv;simp only [szL] at hle;have : xs = [] := List.eq_nil_of_length_eq_zero (by omega)
  subst this;simp [za0, z18, RL]
 | a :: as, _, off, v, xs, ⟨ys, zs, h0, h1, h2⟩, hv, hle, hz => by
  subst h0;have hl := z3o a ys h1;have hx := z3o v xs hv;simp only [szL] at hle;simp only [za0];cases hs : leB (szA a) off with
  | true =>
   simp only [cond_true];have hle' := zh.1 hs;rw [zrv (by omega), hl]
   exact z12.2 ⟨ys, _, rfl, h1, zd9 as zs (off - szA a) v xs h2 hv (by omega) hz⟩
  | false =>
   simp only [cond_false];have hlt := ze7 hs;cases ht : leB (off + szA v) (szA a) with
   | true =>
    simp only [cond_true];have hin := zh.1 ht;rw [zd1 (by omega)]
    cases he : (off == 0 && szA v == szA a) with
    | true =>
     simp only [cond_true];simp only [Bool.and_eq_true, beq_iff_eq] at he;obtain ⟨rfl, he⟩ := he;have : z18 ys 0 xs = xs := by simp [z18]; omega
     rw [this];exact z12.2 ⟨xs, zs, rfl, hv, h2⟩
    | false =>
     simp only [cond_false];refine z12.2 ⟨_, zs, rfl, ?_, h2⟩;cases hi : z1w a with
     | true => exact z1jk a ys off v xs h1 hv hin hz hi
     | false =>
      exfalso;obtain ⟨x, rfl, _⟩ := zsc hi h1;simp only [List.length_singleton] at hl;simp only [Bool.and_eq_false_iff, beq_eq_false_iff_ne] at he;have hsv : szA v = 0 := by omega
      have : off = 0 := by omega
      omega
   | false =>
    simp only [cond_false];have hout := ze7 ht;have e : z18 (ys ++ zs) off xs = ys.take off ++ (xs ++ zs.drop (off + szA v - szA a)) := by
     simp only [z18, hx];rw [List.take_append_of_le_length (by omega), List.drop_append, List.drop_eq_nil_of_le (by omega), List.nil_append, hl]
    rw [e];refine z7j ?_ (z12.2 ⟨xs, _, rfl, hv, z62 as zs _ h2⟩);cases ho : off == 0 with
    | true =>
     obtain rfl : off = 0 := by simpa using ho
     simp [RL]
    | false => exact zzb a ys off h1 (z6c ho) hlt
end
end
theorem zvm {n m : Int} (hm : 0 < m) : (if n.tmod m < 0 then n.tmod m + m else n.tmod m) = n % m := by
 rcases Int.lt_or_le n 0 with h | h
 ·have h1 := Int.neg_tmod (a := -n) (b := m);rw [Int.neg_neg, Int.tmod_eq_emod_of_nonneg (a := -n) (by omega)] at h1
  have h3 := Int.emod_nonneg (-n) (show m ≠ 0 by omega)
  have h4 := Int.emod_lt_of_pos (-n) hm;have h5 := Int.neg_emod (a := n) (b := m);have h6 := Int.emod_nonneg n (show m ≠ 0 by omega)
  have h7 := Int.emod_lt_of_pos n hm;rw [h1];have e1 : m * (n / m) + n % m = n := Int.mul_ediv_add_emod n m;have e2 : m * (-n / m) + -n % m = -n := Int.mul_ediv_add_emod (-n) m;have e3 : m * (n / m + -n / m) + (n % m + -n % m) = 0 := by rw [Int.mul_add]; omega
  generalize n / m + -n / m = q at e3;have hq : q = 0 ∨ q = -1 := by
   rcases Int.lt_or_le q (-1) with hq | hq
   ·have := Int.mul_le_mul_of_nonneg_left (show q ≤ -2 by omega) (show 0 ≤ m by omega)
    omega
   ·rcases Int.lt_or_le 0 q with hq' | hq'
    ·have := Int.mul_le_mul_of_nonneg_left (show 1 ≤ q by omega) (show 0 ≤ m by omega)
     omega
    ·omega
  rcases hq with rfl | rfl
  ·rw [Int.mul_zero] at e3; split <;> omega
  ·split <;> omega
 ·rw [Int.tmod_eq_emod_of_nonneg h];have := Int.emod_nonneg n (show m ≠ 0 by omega)
  rw [if_neg (by omega)]
theorem z10i {n : Int} (h : -9223372036854775808 ≤ n) (h2 : n ≤ 9223372036854775807) : IntKind.i64.wrap n = n := by
 have := IntKind.wrap_i64 n;rw [this]; omega
theorem z2f {z : Int} (h : -9223372036854775808 ≤ z) (h2 : z ≤ 9223372036854775807) : wr .i64 z = z := by rw [z6v, z10i h h2]
theorem z5g {x y : Int} (h : x < y) : ltI x y = true := by rw [z1o, decide_eq_true h]
theorem z4l {x y : Int} (h : y ≤ x) : ltI x y = false := by rw [z1o, decide_eq_false (by omega)]
theorem zo5 {x y : Int} (h : ltI x y = true) : x < y := (z3w x y).1 h
theorem zqs {x y : Int} (h : ltI x y = false) : y ≤ x := by
 rcases Int.lt_or_le x y with h1 | h1
 ·rw [z5g h1] at h; exact Bool.noConfusion h
 ·exact h1
theorem z1fu {a b : Nat} (h : ltB a b = true) : a < b := z1z.1 h
theorem z3h {a b : Nat} (h : ltB a b = false) : b ≤ a := by
 rcases Nat.lt_or_ge a b with h1 | h1
 ·rw [zih h1] at h; exact Bool.noConfusion h
 ·exact h1
theorem z3m {a b : Nat} (h : b ≤ a) : ltB a b = false := by
 cases e : ltB a b
 ·rfl
 ·have := z1fu e; omega
theorem ofs0 (n : Nat) : ofs 0 (n : Int) = n := rfl
end Go.V
namespace Go.Fld
open Go Go.V
def val (a0 a1 a2 a3 : UInt64) : Nat := a0.toNat + 18446744073709551616 * a1.toNat + 340282366920938463463374607431768211456 * a2.toNat + 6277101735386680763835789423207666416102355444464034512896 * a3.toNat
def fe (n : Nat) : List UInt64 := [UInt64.ofNat n, UInt64.ofNat (n / 18446744073709551616), UInt64.ofNat (n / 340282366920938463463374607431768211456), UInt64.ofNat (n / 6277101735386680763835789423207666416102355444464034512896)]
def top : Nat := 115792089237316195423570985008687907853269984665640564039457584007913129639936
def prm : Nat := 57896044618658097711785492504343953926634992332820282019728792003956564819949
theorem z25 (a : UInt64) : a.toNat < 18446744073709551616 := a.toNat_lt
theorem ofNat_eq {a : UInt64} {n : Nat} (h : n % 18446744073709551616 = a.toNat) : UInt64.ofNat n = a := by
 apply UInt64.toNat.inj; rw [UInt64.toNat_ofNat']; exact h
theorem z45 (n : Nat) : (UInt64.ofNat n).toNat = n % 18446744073709551616 := UInt64.toNat_ofNat'
theorem ztm (a0 a1 a2 a3 : UInt64) : fe (val a0 a1 a2 a3) = [a0, a1, a2, a3] := by
 have := z25 a0; have := z25 a1; have := z25 a2; have := z25 a3
 unfold fe val;rw [ofNat_eq (a := a0), ofNat_eq (a := a1), ofNat_eq (a := a2), ofNat_eq (a := a3)] <;> omega
theorem z6l (a0 a1 a2 a3 : UInt64) : val a0 a1 a2 a3 < top := by
 have := z25 a0; have := z25 a1; have := z25 a2; have := z25 a3
 unfold val top; omega
theorem z154 {n : Nat} (h : n < top) : ∃ a0 a1 a2 a3, n = val a0 a1 a2 a3 := by
 refine ⟨UInt64.ofNat n, UInt64.ofNat (n / 18446744073709551616), UInt64.ofNat (n / 340282366920938463463374607431768211456), UInt64.ofNat (n / 6277101735386680763835789423207666416102355444464034512896), ?_⟩;unfold top at h;unfold val;simp only [z45];omega
theorem zh1 (x y c : UInt64) (hc : c.toNat ≤ 1) :
  (x - y - c).toNat + y.toNat + c.toNat = x.toNat + 18446744073709551616 * (z39 x y c).toNat ∧ (z39 x y c).toNat ≤ 1 := by
 have := z25 x; have := z25 y
 have h : (z39 x y c).toNat = if x.toNat < y.toNat + c.toNat then 1 else 0 := by
  rw [zew]; split <;> rfl
 rw [h, UInt64.toNat_sub, UInt64.toNat_sub]
 split <;> constructor <;> omega
theorem z6g (x y c : UInt64) (hc : c.toNat ≤ 1) :
  (x + y + c).toNat + 18446744073709551616 * (zg x y c).toNat = x.toNat + y.toNat + c.toNat ∧ (zg x y c).toNat ≤ 1 := by
 have := z25 x; have := z25 y
 have h : (zg x y c).toNat = if 18446744073709551616 ≤ x.toNat + y.toNat + c.toNat then 1 else 0 := by
  rw [zhn]; split
  ·rw [if_neg (by omega)]; rfl
  ·rw [if_pos (by omega)]; rfl
 rw [h, UInt64.toNat_add, UInt64.toNat_add]
 split <;> constructor <;> omega
theorem z1c4 {a : Nat} (h1 : ¬ a < prm) (h2 : a - prm < prm) : a % prm = a - prm := by
 rw [Nat.mod_eq_sub_mod (Nat.le_of_not_lt h1), Nat.mod_eq_of_lt h2]
theorem zy4 {a : Nat} (h : a < top) : a - prm - prm < prm := by
 have e : top = 2 * prm + 38 := by decide
 have e2 : 38 < prm := by decide
 omega
theorem z17i {a : Nat} (h : a < top) (h1 : ¬ a < prm) (h2 : ¬ a - prm < prm) : a % prm = a - prm - prm := by
 rw [Nat.mod_eq_sub_mod (Nat.le_of_not_lt h1), Nat.mod_eq_sub_mod (Nat.le_of_not_lt h2), Nat.mod_eq_of_lt (zy4 h)]
def plusN (a n : Nat) : Nat := if a + n < top then a + n else a + n - top + 38
theorem zpq (a0 a1 a2 a3 b0 b1 b2 b3 c : UInt64) (hc : c.toNat ≤ 1) : ∃ k, (zg a3 b3 (zg a2 b2 (zg a1 b1 (zg a0 b0 c)))).toNat = k ∧ k ≤ 1 ∧
  val (a0 + b0 + c) (a1 + b1 + zg a0 b0 c) (a2 + b2 + zg a1 b1 (zg a0 b0 c)) (a3 + b3 + zg a2 b2 (zg a1 b1 (zg a0 b0 c))) + top * k = val a0 a1 a2 a3 + val b0 b1 b2 b3 + c.toNat := by
 have p0 := z6g a0 b0 c hc;have p1 := z6g a1 b1 _ p0.2;have p2 := z6g a2 b2 _ p1.2;have p3 := z6g a3 b3 _ p2.2;refine ⟨_, rfl, p3.2, ?_⟩;generalize zg a0 b0 c = c0 at *;generalize zg a1 b1 c0 = c1 at *;generalize zg a2 b2 c1 = c2 at *;generalize zg a3 b3 c2 = c3 at *;unfold val top;omega
theorem zzv (c : UInt64) {k : Nat} (h : c.toNat = k) (hk : k ≤ 1) : (38 * c).toNat = 38 * k := by
 rw [UInt64.toNat_mul, h, show (38 : UInt64).toNat = 38 from rfl]; omega
theorem zju : top = 2 * prm + 38 := by decide
theorem zz8 {a n : Nat} (ha : a < top) (hn : n < 18446744073709551616) : plusN a n < top := by
 have g : top = 115792089237316195423570985008687907853269984665640564039457584007913129639936 := rfl;unfold plusN; split <;> omega
theorem ztz (a n : Nat) : plusN a n % prm = (a + n) % prm := by
 unfold plusN
 split
 ·rfl
 ·have e : a + n = (a + n - top + 38) + prm * 2 := by have := zju; omega
  generalize a + n - top + 38 = z at e ⊢;rw [e, Nat.add_mul_mod_self_left]
theorem z117 (a k : Nat) : (a + 38 * k) % prm = (a + top * k) % prm := by
 rw [show a + top * k = (a + 38 * k) + prm * (2 * k) by rw [zju, Nat.add_mul, ← Nat.mul_assoc prm 2 k, Nat.mul_comm prm 2]; omega, Nat.add_mul_mod_self_left]
theorem mul64_hi (x y : UInt64) :
  ze x 32 * ze y 32 +
                ze (ze x 32 * (y &&& 4294967295) + ze ((x &&& 4294967295) * (y &&& 4294967295)) 32) 32 +
              ze
               ((ze x 32 * (y &&& 4294967295) + ze ((x &&& 4294967295) * (y &&& 4294967295)) 32 &&&
                 4294967295) +
                (x &&& 4294967295) * ze y 32)
               32 = UInt64.ofNat (x.toNat * y.toNat / 18446744073709551616) := by
 have hx := z25 x;have hy := z25 y;have sh : ∀ z : UInt64, (ze z 32).toNat = z.toNat / 4294967296 := by
  intro z; have := z25 z; unfold ze; rw [z45]; omega
 have lo : ∀ z : UInt64, (z &&& 4294967295).toNat = z.toNat % 4294967296 := by
  intro z;rw [UInt64.toNat_and];exact Nat.and_two_pow_sub_one_eq_mod _ 32
 apply UInt64.toNat.inj;rw [z45];simp only [UInt64.toNat_add, UInt64.toNat_mul, sh, lo];have ex : x.toNat = 4294967296 * (x.toNat / 4294967296) + x.toNat % 4294967296 := by omega
 have ey : y.toNat = 4294967296 * (y.toNat / 4294967296) + y.toNat % 4294967296 := by omega
 have hb : x.toNat / 4294967296 < 4294967296 := by omega
 have hd : y.toNat / 4294967296 < 4294967296 := by omega
 have ha : x.toNat % 4294967296 < 4294967296 := by omega
 have hc : y.toNat % 4294967296 < 4294967296 := by omega
 generalize x.toNat / 4294967296 = b at *;generalize x.toNat % 4294967296 = a at *;generalize y.toNat / 4294967296 = d at *;generalize y.toNat % 4294967296 = c at *;have e : x.toNat * y.toNat = a * c + 4294967296 * (b * c) + 4294967296 * (a * d) + 18446744073709551616 * (b * d) := by
  rw [ex, ey]; grind
 rw [e];have m : ∀ u v : Nat, u < 4294967296 → v < 4294967296 → u * v ≤ 18446744065119617025 := fun u v hu hv => Nat.le_trans (Nat.mul_le_mul (Nat.le_of_lt_succ hu) (Nat.le_of_lt_succ hv)) (by decide)
 have m1 := m a c ha hc;have m2 := m b c hb hc;have m3 := m a d ha hd;have m4 := m b d hb hd;generalize a * c = p at *;generalize b * c = q at *;generalize a * d = r at *;generalize b * d = s at *;omega
theorem z128 (a0 a1 a2 a3 b0 b1 b2 b3 : Nat) :
  (a0 + 18446744073709551616 * a1 + 340282366920938463463374607431768211456 * a2 + 6277101735386680763835789423207666416102355444464034512896 * a3) *
  (b0 + 18446744073709551616 * b1 + 340282366920938463463374607431768211456 * b2 + 6277101735386680763835789423207666416102355444464034512896 * b3) =
  (a0 * b0 + 18446744073709551616 * (a0 * b1) + 340282366920938463463374607431768211456 * (a0 * b2) + 6277101735386680763835789423207666416102355444464034512896 * (a0 * b3)) +
  18446744073709551616 * (a1 * b0 + 18446744073709551616 * (a1 * b1) + 340282366920938463463374607431768211456 * (a1 * b2) + 6277101735386680763835789423207666416102355444464034512896 * (a1 * b3)) +
  340282366920938463463374607431768211456 * (a2 * b0 + 18446744073709551616 * (a2 * b1) + 340282366920938463463374607431768211456 * (a2 * b2) + 6277101735386680763835789423207666416102355444464034512896 * (a2 * b3)) +
  6277101735386680763835789423207666416102355444464034512896 * (a3 * b0 + 18446744073709551616 * (a3 * b1) + 340282366920938463463374607431768211456 * (a3 * b2) + 6277101735386680763835789423207666416102355444464034512896 * (a3 * b3)) := by
 grind
theorem z1ef {a0 a1 a2 a3 b0 b1 b2 b3 : UInt64} {l00 c00 l01 c01 l02 c02 l03 c03 l10 c10 l11 c11 l12 c12 l13 c13 l20 c20 l21 c21 l22 c22 l23 c23 l30 c30 l31 c31 l32 c32 l33 c33 r0 d0 r1 d1 r2 d2 r3 d3 : UInt64}
  (e00 : l00.toNat + 18446744073709551616 * c00.toNat = a0.toNat * b0.toNat + UInt64.toNat 0 + UInt64.toNat 0)
  (e01 : l01.toNat + 18446744073709551616 * c01.toNat = a0.toNat * b1.toNat + UInt64.toNat 0 + c00.toNat)
  (e02 : l02.toNat + 18446744073709551616 * c02.toNat = a0.toNat * b2.toNat + UInt64.toNat 0 + c01.toNat)
  (e03 : l03.toNat + 18446744073709551616 * c03.toNat = a0.toNat * b3.toNat + UInt64.toNat 0 + c02.toNat)
  (e10 : l10.toNat + 18446744073709551616 * c10.toNat = a1.toNat * b0.toNat + l01.toNat + UInt64.toNat 0)
  (e11 : l11.toNat + 18446744073709551616 * c11.toNat = a1.toNat * b1.toNat + l02.toNat + c10.toNat)
  (e12 : l12.toNat + 18446744073709551616 * c12.toNat = a1.toNat * b2.toNat + l03.toNat + c11.toNat)
  (e13 : l13.toNat + 18446744073709551616 * c13.toNat = a1.toNat * b3.toNat + c03.toNat + c12.toNat)
  (e20 : l20.toNat + 18446744073709551616 * c20.toNat = a2.toNat * b0.toNat + l11.toNat + UInt64.toNat 0)
  (e21 : l21.toNat + 18446744073709551616 * c21.toNat = a2.toNat * b1.toNat + l12.toNat + c20.toNat)
  (e22 : l22.toNat + 18446744073709551616 * c22.toNat = a2.toNat * b2.toNat + l13.toNat + c21.toNat)
  (e23 : l23.toNat + 18446744073709551616 * c23.toNat = a2.toNat * b3.toNat + c13.toNat + c22.toNat)
  (e30 : l30.toNat + 18446744073709551616 * c30.toNat = a3.toNat * b0.toNat + l21.toNat + UInt64.toNat 0)
  (e31 : l31.toNat + 18446744073709551616 * c31.toNat = a3.toNat * b1.toNat + l22.toNat + c30.toNat)
  (e32 : l32.toNat + 18446744073709551616 * c32.toNat = a3.toNat * b2.toNat + l23.toNat + c31.toNat)
  (e33 : l33.toNat + 18446744073709551616 * c33.toNat = a3.toNat * b3.toNat + c23.toNat + c32.toNat)
  (f0 : r0.toNat + 18446744073709551616 * d0.toNat = l31.toNat * UInt64.toNat 38 + l00.toNat + UInt64.toNat 0)
  (f1 : r1.toNat + 18446744073709551616 * d1.toNat = l32.toNat * UInt64.toNat 38 + l10.toNat + d0.toNat)
  (f2 : r2.toNat + 18446744073709551616 * d2.toNat = l33.toNat * UInt64.toNat 38 + l20.toNat + d1.toNat)
  (f3 : r3.toNat + 18446744073709551616 * d3.toNat = c33.toNat * UInt64.toNat 38 + l30.toNat + d2.toNat) :
  (38 * d3).toNat = 38 * d3.toNat ∧ d3.toNat ≤ 38 ∧ (val r0 r1 r2 r3 + 38 * d3.toNat) % prm = (val a0 a1 a2 a3 * val b0 b1 b2 b3) % prm := by
 have z0 : UInt64.toNat 0 = 0 := rfl;have z38 : UInt64.toNat 38 = 38 := rfl;simp only [z0, z38, Nat.add_zero] at e00 e01 e02 e03 e10 e11 e12 e13 e20 e21 e22 e23 e30 e31 e32 e33 f0 f1 f2 f3;have h1 : val l00 l10 l20 l30 + top * val l31 l32 l33 c33 = val a0 a1 a2 a3 * val b0 b1 b2 b3 := by
  unfold val top;rw [z128];omega
 have h2 : val r0 r1 r2 r3 + top * d3.toNat = val l00 l10 l20 l30 + 38 * val l31 l32 l33 c33 := by
  unfold val top;omega
 have x1 := z6l l00 l10 l20 l30;have x2 := z6l l31 l32 l33 c33;have x3 := z6l r0 r1 r2 r3;have hd : d3.toNat ≤ 38 := by
  have g : top = 115792089237316195423570985008687907853269984665640564039457584007913129639936 := rfl;rw [g] at h2 x1 x2 x3;clear h1 e00 e01 e02 e03 e10 e11 e12 e13 e20 e21 e22 e23 e30 e31 e32 e33 f0 f1 f2 f3;omega
 refine ⟨?_, hd, ?_⟩
 ·rw [UInt64.toNat_mul, z38]; omega
 ·rw [z117, h2, z117, h1]
def orB (x : UInt64) (c : UInt8) (n : Nat) : UInt64 := x ||| z2n c.toUInt64 n
theorem lt8 (c : UInt8) : c.toNat < 256 := c.toNat_lt
theorem z90 (x : UInt64) (c : UInt8) (n : Nat) (hn : n ≤ 56) (hx : x.toNat < 2 ^ n) : (orB x c n).toNat = x.toNat + c.toNat * 2 ^ n ∧ (orB x c n).toNat < 2 ^ (n + 8) := by
 have hc := lt8 c;have h1 : (z2n c.toUInt64 n).toNat = 2 ^ n * c.toNat := by
  unfold z2n;rw [z45, UInt8.toNat_toUInt64, Nat.mod_eq_of_lt, Nat.mul_comm]
  calc c.toNat * 2 ^ n ≤ 255 * 2 ^ 56 := Nat.mul_le_mul (by omega) (Nat.pow_le_pow_right (by decide) hn)
   _ < 18446744073709551616 := by decide
 have h2 : (orB x c n).toNat = x.toNat + c.toNat * 2 ^ n := by
  unfold orB;rw [UInt64.toNat_or, h1, Nat.or_comm, ← Nat.two_pow_add_eq_or_of_lt hx, Nat.mul_comm, Nat.add_comm]
 refine ⟨h2, ?_⟩;rw [h2, Nat.pow_add];have : c.toNat * 2 ^ n ≤ 255 * 2 ^ n := Nat.mul_le_mul (by omega) (Nat.le_refl _)
 omega
theorem zse (c0 c1 c2 c3 c4 c5 c6 c7 : UInt8) : (orB (orB (orB (orB (orB (orB (orB (orB 0 c0 0) c1 8) c2 16) c3 24) c4 32) c5 40) c6 48) c7 56).toNat =
  c0.toNat + 256 * c1.toNat + 65536 * c2.toNat + 16777216 * c3.toNat + 4294967296 * c4.toNat + 1099511627776 * c5.toNat + 281474976710656 * c6.toNat + 72057594037927936 * c7.toNat := by
 have p0 := z90 0 c0 0 (by decide) (by decide)
 have p1 := z90 _ c1 8 (by decide) p0.2
 have p2 := z90 _ c2 16 (by decide) p1.2
 have p3 := z90 _ c3 24 (by decide) p2.2
 have p4 := z90 _ c4 32 (by decide) p3.2
 have p5 := z90 _ c5 40 (by decide) p4.2
 have p6 := z90 _ c6 48 (by decide) p5.2
 have p7 := z90 _ c7 56 (by decide) p6.2
 rw [p7.1, p6.1, p5.1, p4.1, p3.1, p2.1, p1.1, p0.1];rw [show (0 : UInt64).toNat = 0 from rfl]
 omega
def leB : List UInt8 → Nat
 | [] => 0
 | c :: l => c.toNat + 256 * leB l
theorem z1im (x : UInt64) : (x &&& 9223372036854775807).toNat = x.toNat % 9223372036854775808 := by
 rw [UInt64.toNat_and];exact Nat.and_two_pow_sub_one_eq_mod _ 63
def zm7 : Nat → Nat → List UInt8 → List UInt8
 | 0, _, _ => []
 | n + 1, i, t => t.getD i 0 :: zm7 n (i + 1) t
theorem zr3 : ∀ (n i : Nat) (t : List UInt8), t.length = i + n → t.drop i = zm7 n i t
 | 0, i, t, h => by rw [zm7, List.drop_eq_nil_of_le (by omega)]
 | n + 1, i, t, h => by
  rw [zm7, ← zr3 n (i + 1) t (by omega), List.drop_eq_getElem_cons (by omega)]
  simp [List.getD, show i < t.length by omega]
theorem z1ji {t : List UInt8} {n : Nat} (h : t.length = n) : t = zm7 n 0 t := by
 have := zr3 n 0 t (by omega)
 simpa using this
def za7 (c0 c1 c2 c3 c4 c5 c6 c7 : UInt8) : Nat := c0.toNat + 256 * c1.toNat + 65536 * c2.toNat + 16777216 * c3.toNat + 4294967296 * c4.toNat + 1099511627776 * c5.toNat + 281474976710656 * c6.toNat + 72057594037927936 * c7.toNat
theorem zkh (c0 c1 c2 c3 c4 c5 c6 c7 : UInt8) : za7 c0 c1 c2 c3 c4 c5 c6 c7 < 18446744073709551616 := by
 have := lt8 c0; have := lt8 c1; have := lt8 c2; have := lt8 c3; have := lt8 c4; have := lt8 c5; have := lt8 c6; have := lt8 c7
 unfold za7; omega
theorem z1j9 (c0 c1 c2 c3 c4 c5 c6 c7 : UInt8) (l : List UInt8) : leB (c0 :: c1 :: c2 :: c3 :: c4 :: c5 :: c6 :: c7 :: l) = za7 c0 c1 c2 c3 c4 c5 c6 c7 + 18446744073709551616 * leB l := by
 simp only [leB, za7]; omega
theorem z1eq {b : List UInt8} (hb : b.length = 32) : leB b = za7 (b.getD 0 0) (b.getD 1 0) (b.getD 2 0) (b.getD 3 0) (b.getD 4 0) (b.getD 5 0) (b.getD 6 0) (b.getD 7 0) + 18446744073709551616 * (za7 (b.getD 8 0) (b.getD 9 0) (b.getD 10 0) (b.getD 11 0) (b.getD 12 0) (b.getD 13 0) (b.getD 14 0) (b.getD 15 0) + 18446744073709551616 * (za7 (b.getD 16 0) (b.getD 17 0) (b.getD 18 0) (b.getD 19 0) (b.getD 20 0) (b.getD 21 0) (b.getD 22 0) (b.getD 23 0) + 18446744073709551616 * za7 (b.getD 24 0) (b.getD 25 0) (b.getD 26 0) (b.getD 27 0) (b.getD 28 0) (b.getD 29 0) (b.getD 30 0) (b.getD 31 0))) := by
 have h : leB b = leB (zm7 32 0 b) := congrArg leB (z1ji hb);rw [h];simp only [zm7, z1j9, Nat.zero_add, Nat.reduceAdd, show leB [] = 0 from rfl, Nat.mul_zero, Nat.add_zero]
theorem z19g {b : List UInt8} (hb : b.length = 32) : val (orB (orB (orB (orB (orB (orB (orB (orB 0 (b.getD 0 0) 0) (b.getD 1 0) 8) (b.getD 2 0) 16) (b.getD 3 0) 24) (b.getD 4 0) 32) (b.getD 5 0) 40) (b.getD 6 0) 48) (b.getD 7 0) 56) (orB (orB (orB (orB (orB (orB (orB (orB 0 (b.getD 8 0) 0) (b.getD 9 0) 8) (b.getD 10 0) 16) (b.getD 11 0) 24) (b.getD 12 0) 32) (b.getD 13 0) 40) (b.getD 14 0) 48) (b.getD 15 0) 56) (orB (orB (orB (orB (orB (orB (orB (orB 0 (b.getD 16 0) 0) (b.getD 17 0) 8) (b.getD 18 0) 16) (b.getD 19 0) 24) (b.getD 20 0) 32) (b.getD 21 0) 40) (b.getD 22 0) 48) (b.getD 23 0) 56) ((orB (orB (orB (orB (orB (orB (orB (orB 0 (b.getD 24 0) 0) (b.getD 25 0) 8) (b.getD 26 0) 16) (b.getD 27 0) 24) (b.getD 28 0) 32) (b.getD 29 0) 40) (b.getD 30 0) 48) (b.getD 31 0) 56) &&& 9223372036854775807) = leB b % 57896044618658097711785492504343953926634992332820282019728792003956564819968 := by
 rw [z1eq hb];unfold val;rw [z1im, zse, zse, zse, zse];have h0 := zkh (b.getD 0 0) (b.getD 1 0) (b.getD 2 0) (b.getD 3 0) (b.getD 4 0) (b.getD 5 0) (b.getD 6 0) (b.getD 7 0);have h1 := zkh (b.getD 8 0) (b.getD 9 0) (b.getD 10 0) (b.getD 11 0) (b.getD 12 0) (b.getD 13 0) (b.getD 14 0) (b.getD 15 0);have h2 := zkh (b.getD 16 0) (b.getD 17 0) (b.getD 18 0) (b.getD 19 0) (b.getD 20 0) (b.getD 21 0) (b.getD 22 0) (b.getD 23 0);have h3 := zkh (b.getD 24 0) (b.getD 25 0) (b.getD 26 0) (b.getD 27 0) (b.getD 28 0) (b.getD 29 0) (b.getD 30 0) (b.getD 31 0);simp only [← za7.eq_1];generalize za7 (b.getD 0 0) (b.getD 1 0) (b.getD 2 0) (b.getD 3 0) (b.getD 4 0) (b.getD 5 0) (b.getD 6 0) (b.getD 7 0) = s0 at *;generalize za7 (b.getD 8 0) (b.getD 9 0) (b.getD 10 0) (b.getD 11 0) (b.getD 12 0) (b.getD 13 0) (b.getD 14 0) (b.getD 15 0) = s1 at *;generalize za7 (b.getD 16 0) (b.getD 17 0) (b.getD 18 0) (b.getD 19 0) (b.getD 20 0) (b.getD 21 0) (b.getD 22 0) (b.getD 23 0) = s2 at *;generalize za7 (b.getD 24 0) (b.getD 25 0) (b.getD 26 0) (b.getD 27 0) (b.getD 28 0) (b.getD 29 0) (b.getD 30 0) (b.getD 31 0) = s3 at *;omega
end Go.Fld
namespace Go.Cha
open Go Go.V
def turned (F : Nat → UInt8) (n : Nat) (b : List UInt8) : List UInt8 := b.mapIdx fun i x => if i < n then x ^^^ F i else x
theorem z8g (F : Nat → UInt8) (n : Nat) (b : List UInt8) : (turned F n b).length = b.length := by simp [turned]
theorem z68 (F : Nat → UInt8) (n : Nat) (b : List UInt8) (i : Nat) : (turned F n b)[i]? = b[i]?.map fun x => if i < n then x ^^^ F i else x := by
 simp [turned, List.getElem?_mapIdx]
theorem zxn (F : Nat → UInt8) (b : List UInt8) : turned F 0 b = b := by
 apply List.ext_getElem?; intro i
 rw [z68];cases b[i]? <;> simp
theorem zx1 {F : Nat → UInt8} {n : Nat} {b : List UInt8} (_h : n < b.length) : (turned F n b).set n ((turned F n b).getD n 0 ^^^ F n) = turned F (n + 1) b := by
 apply List.ext_getElem?; intro i
 rw [List.getElem?_set, z68, List.getD_eq_getElem?_getD, z68, z68, z8g]
 by_cases e : n = i
 ·subst e;rw [if_pos rfl, if_pos _h];have : b[n]? = some b[n] := List.getElem?_eq_getElem _h;rw [this];simp
 ·rw [if_neg e];cases b[i]? with
  | none => rfl
  | some x =>
   simp only [Option.map_some]
   by_cases h : i < n
   ·rw [if_pos h, if_pos (by omega)]
   ·rw [if_neg h, if_neg (by omega)]
theorem zeo {F : Nat → UInt8} {n : Nat} {b : List UInt8} (h : b.length ≤ n) : turned F n b = turned F b.length b := by
 apply List.ext_getElem?; intro i
 rw [z68, z68]
 by_cases e : i < b.length
 ·simp [e, show i < n by omega]
 ·have : b[i]? = none := List.getElem?_eq_none (by omega)
  rw [this]; rfl
theorem zvc (F : Nat → UInt8) (n : Nat) (b : List UInt8) : turned F n (turned F n b) = b := by
 apply List.ext_getElem?; intro i
 rw [z68, z68];cases b[i]? with
 | none => rfl
 | some x =>
  simp only [Option.map_some]
  split
  ·rw [UInt8.xor_assoc, UInt8.xor_self, UInt8.xor_zero]
  ·rfl
def keyAt (key : List UInt8) (c : UInt32) (nonce : List UInt8) (i : Nat) : UInt8 := (blockS key (c + UInt32.ofNat (i / 64)) nonce).getD (i % 64) 0
def streamN (key : List UInt8) (c : UInt32) (nonce : List UInt8) (n : Nat) (b : List UInt8) : List UInt8 := turned (keyAt key c nonce) n b
def streamS (key : List UInt8) (c : UInt32) (nonce b : List UInt8) : List UInt8 := turned (keyAt key c nonce) b.length b
theorem zfx (key : List UInt8) (c : UInt32) (nonce : List UInt8) (n : Nat) (b : List UInt8) : (streamN key c nonce n b).length = b.length := z8g ..
theorem z52 (key : List UInt8) (c : UInt32) (nonce b : List UInt8) : (streamS key c nonce b).length = b.length := z8g ..
theorem zs3 (key : List UInt8) (c : UInt32) (nonce b : List UInt8) : streamS key c nonce (streamS key c nonce b) = b := by
 unfold streamS; rw [z8g, zvc]
end Go.Cha