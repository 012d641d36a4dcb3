/- The abstract layer (second state), part D: the model agrees with the numbers. -/
import Derived.Test.YtfjmpdoidkblcaaDoorVB
set_option linter.unusedSimpArgs false
set_option linter.unusedVariables false
namespace Go.V
open Go

section
variable {P : Program} {ρ : Rho} {I : Imm} {H : Heap} {w : World}

theorem run_underlying {P : Program} {t : Nat} {d : TypeDesc} (h : P.underlying t = some d) (w : World) : (underlying t).run P w = .ok d w := by
  simp [underlying, h]
theorem run_typeInfo {P : Program} {t : Nat} {i : TypeInfo} (h : P.info? t = some i) (w : World) : (typeInfo t).run P w = .ok i w := by
  simp [typeInfo, h]
theorem run_sizeOf {P : Program} {t : Nat} {i : TypeInfo} (h : P.info? t = some i) (w : World) : (sizeOf t).run P w = .ok i.size w := by
  simp [sizeOf, run_typeInfo h]
theorem run_isAgg {P : Program} {t : Nat} {d : TypeDesc} (h : P.underlying t = some d) (w : World) : (isAgg t).run P w = .ok (TK.of d).isAgg w := by
  cases d <;> simp [isAgg, run_underlying h, TK.of, TK.isAgg]

theorem run_shift_shl {P : Program} {w : World} {k yk : IntKind} {x y : Int} (h : 0 ≤ y) :
    (Op.shift .shl k x yk y).run P w = .ok (.int k (k.wrap (x * 2 ^ min y.toNat k.bits))) w := by
  have : ¬ y < 0 := by omega
  simp [Op.shift, this]

theorem run_shift_shr {P : Program} {w : World} {k yk : IntKind} {x y : Int} (h : 0 ≤ y) :
    (Op.shift .shr k x yk y).run P w = .ok (.int k (x.fdiv (2 ^ min y.toNat k.bits))) w := by
  have : ¬ y < 0 := by omega
  simp [Op.shift, this]


theorem wrap_nat {k : IntKind} (hk : k.signed = false) (n : Nat) (h : n < 2 ^ k.bits) : k.wrap (n : Int) = n := by
  have h' : (n : Int) < 2 ^ k.bits := by exact_mod_cast h
  simp only [IntKind.wrap, hk, Bool.false_and, Bool.false_eq_true, if_false]
  exact Int.emod_eq_of_lt (by omega) h'

theorem ofInt_u8 (x : UInt8) : BitVec.ofInt 8 (x.toNat : Int) = x.toBitVec := by
  rw [BitVec.ofInt_natCast]; apply BitVec.eq_of_toNat_eq; simp
theorem ofInt_u32 (x : UInt32) : BitVec.ofInt 32 (x.toNat : Int) = x.toBitVec := by
  rw [BitVec.ofInt_natCast]; apply BitVec.eq_of_toNat_eq; simp
theorem ofInt_u64 (x : UInt64) : BitVec.ofInt 64 (x.toNat : Int) = x.toBitVec := by
  rw [BitVec.ofInt_natCast]; apply BitVec.eq_of_toNat_eq; simp

theorem wrap_u8 (v : BitVec 8) : IntKind.u8.wrap (v.toNat : Int) = v.toNat := wrap_nat rfl _ v.isLt
theorem wrap_u32 (v : BitVec 32) : IntKind.u32.wrap (v.toNat : Int) = v.toNat := wrap_nat rfl _ v.isLt
theorem wrap_u64 (v : BitVec 64) : IntKind.u64.wrap (v.toNat : Int) = v.toNat := wrap_nat rfl _ v.isLt

theorem bits_u8 (op : BinOp) (x y : UInt8) : bits op .u8 x.toNat y.toNat =
    ((match op with | .and => x &&& y | .or => x ||| y | .xor => x ^^^ y | _ => x &&& ~~~y).toNat : Int) := by
  have hx := ofInt_u8 x
  have hy := ofInt_u8 y
  simp only [bits, IntKind.bits, hx, hy]
  cases op <;> exact wrap_u8 _
theorem bits_u32 (op : BinOp) (x y : UInt32) : bits op .u32 x.toNat y.toNat =
    ((match op with | .and => x &&& y | .or => x ||| y | .xor => x ^^^ y | _ => x &&& ~~~y).toNat : Int) := by
  have hx := ofInt_u32 x
  have hy := ofInt_u32 y
  simp only [bits, IntKind.bits, hx, hy]
  cases op <;> exact wrap_u32 _
theorem bits_u64 (op : BinOp) (x y : UInt64) : bits op .u64 x.toNat y.toNat =
    ((match op with | .and => x &&& y | .or => x ||| y | .xor => x ^^^ y | _ => x &&& ~~~y).toNat : Int) := by
  have hx := ofInt_u64 x
  have hy := ofInt_u64 y
  simp only [bits, IntKind.bits, hx, hy]
  cases op <;> exact wrap_u64 _

theorem uwrap_u8 (n : Int) : IntKind.u8.wrap n = n % 256 := by simp [IntKind.wrap, IntKind.bits, IntKind.signed]
theorem uwrap_u32 (n : Int) : IntKind.u32.wrap n = n % 4294967296 := by simp [IntKind.wrap, IntKind.bits, IntKind.signed]
theorem uwrap_u64 (n : Int) : IntKind.u64.wrap n = n % 18446744073709551616 := by simp [IntKind.wrap, IntKind.bits, IntKind.signed]

theorem run_unary {op : UnOp} {x v : AV} {vx : Value} (rx : rel ρ I w x vx) (h : aUn op x = some v) : ∃ y, (Op.unary op vx).run P w = .ok y w ∧ rel ρ I w v y := by
  unfold aUn at h
  split at h <;> simp only [Option.some.injEq, reduceCtorEq] at h <;> subst h <;> (simp only [rel_u8, rel_u32, rel_u64, rel_int, rel_bool, rel_str] at rx; subst rx)
  · exact ⟨_, by simp [Op.unary]; rfl, by simp [rel_u8, rel_u32, rel_u64, rel_int, rel_bool, rel_str]⟩
  · refine ⟨_, by simp [Op.unary, Op.intArith]; rfl, ?_⟩
    rename_i x
    simp only [rel_u8, rel_u32, rel_u64, rel_int, rel_bool, rel_str, Value.int.injEq, true_and, UInt64.toNat_sub, uwrap_u64]
    have := x.toNat_lt
    simp
    omega
  · exact ⟨_, by simp [Op.unary, Op.intArith]; rfl, by simp [rel_u8, rel_u32, rel_u64, rel_int, rel_bool, rel_str]⟩
  · rename_i x
    refine ⟨.int .u32 (bits .xor .u32 IntKind.u32.max x.toNat), rfl, ?_⟩
    have h1 : IntKind.u32.max = ((4294967295 : UInt32).toNat : Int) := by decide
    rw [h1, bits_u32]
    simp only [rel_u8, rel_u32, rel_u64, rel_int, rel_bool, rel_str, Value.int.injEq, true_and]
    congr 2
  · rename_i x
    refine ⟨.int .u64 (bits .xor .u64 IntKind.u64.max x.toNat), rfl, ?_⟩
    have h1 : IntKind.u64.max = ((18446744073709551615 : UInt64).toNat : Int) := by decide
    rw [h1, bits_u64]
    simp only [rel_u8, rel_u32, rel_u64, rel_int, rel_bool, rel_str, Value.int.injEq, true_and]
    congr 2

theorem run_arith {op : BinOp} {t : Nat} {x y : AV} {vx vy : Value} (rx : rel ρ I w x vx) (ry : rel ρ I w y vy) {p : Bool × AV} (h : aArith op x y = some p) (hp : p.1 = true) :
    ∃ z, (binOp op t vx vy).run P w = .ok z w ∧ rel ρ I w p.2 z := by
  unfold aArith at h
  split at h <;> simp only [Option.some.injEq, reduceCtorEq] at h <;> subst h <;> (simp only [rel_u8, rel_u32, rel_u64, rel_int, rel_bool, rel_str] at rx ry; subst rx ry) <;> simp only [bne_iff_ne, Bool.and_eq_true, eqK, decide_eq_true_eq, ltB_iff] at hp
  case h_1 x y => exact ⟨.int .u8 _, rfl, by simp only [rel_u8, rel_u32, rel_u64, rel_int, rel_bool, rel_str, Value.int.injEq, true_and, uwrap_u8, UInt8.toNat_add]; simp⟩
  case h_2 x y => exact ⟨.int .u8 _, rfl, by simp only [rel_u8, rel_u32, rel_u64, rel_int, rel_bool, rel_str, Value.int.injEq, true_and, uwrap_u8, UInt8.toNat_sub]; have := x.toNat_lt; have := y.toNat_lt; omega⟩
  case h_3 x y => exact ⟨.int .u8 _, rfl, by simp only [rel_u8, rel_u32, rel_u64, rel_int, rel_bool, rel_str, Value.int.injEq, true_and, uwrap_u8, UInt8.toNat_mul]; simp⟩
  case h_4 x y => exact ⟨.int .u8 (bits .and .u8 x.toNat y.toNat), rfl, by rw [bits_u8]; simp [rel_u8, rel_u32, rel_u64, rel_int, rel_bool, rel_str]⟩
  case h_5 x y => exact ⟨.int .u8 (bits .or .u8 x.toNat y.toNat), rfl, by rw [bits_u8]; simp [rel_u8, rel_u32, rel_u64, rel_int, rel_bool, rel_str]⟩
  case h_6 x y => exact ⟨.int .u8 (bits .xor .u8 x.toNat y.toNat), rfl, by rw [bits_u8]; simp [rel_u8, rel_u32, rel_u64, rel_int, rel_bool, rel_str]⟩
  case h_7 x y => exact ⟨.int .u8 (bits .andNot .u8 x.toNat y.toNat), rfl, by rw [bits_u8]; simp [rel_u8, rel_u32, rel_u64, rel_int, rel_bool, rel_str]⟩
  case h_8 x y =>
    have hy : y.toNat ≠ 0 := fun e => hp (UInt8.toNat_inj.1 e)
    refine ⟨.int .u8 (IntKind.u8.wrap ((x.toNat : Int).tdiv y.toNat)), by simp [binOp, Op.intDiv, hy], ?_⟩
    simp only [rel_u8, rel_u32, rel_u64, rel_int, rel_bool, rel_str, Value.int.injEq, true_and, uwrap_u8, UInt8.toNat_div]
    rw [← Int.ofNat_tdiv]
    have h1 := x.toNat_lt
    have h2 := Nat.div_le_self x.toNat y.toNat
    show ((x.toNat / y.toNat : Nat) : Int) % 256 = ((x.toNat / y.toNat : Nat) : Int)
    generalize x.toNat / y.toNat = q at *
    omega
  case h_9 x y =>
    have hy : y.toNat ≠ 0 := fun e => hp (UInt8.toNat_inj.1 e)
    refine ⟨.int .u8 ((x.toNat : Int).tmod y.toNat), by simp [binOp, Op.intDiv, hy], ?_⟩
    simp only [rel_u8, rel_u32, rel_u64, rel_int, rel_bool, rel_str, Value.int.injEq, true_and, UInt8.toNat_mod]
    rw [← Int.ofNat_tmod]
  case h_10 x y => exact ⟨.int .u32 _, rfl, by simp only [rel_u8, rel_u32, rel_u64, rel_int, rel_bool, rel_str, Value.int.injEq, true_and, uwrap_u32, UInt32.toNat_add]; simp⟩
  case h_11 x y => exact ⟨.int .u32 _, rfl, by simp only [rel_u8, rel_u32, rel_u64, rel_int, rel_bool, rel_str, Value.int.injEq, true_and, uwrap_u32, UInt32.toNat_sub]; have := x.toNat_lt; have := y.toNat_lt; omega⟩
  case h_12 x y => exact ⟨.int .u32 _, rfl, by simp only [rel_u8, rel_u32, rel_u64, rel_int, rel_bool, rel_str, Value.int.injEq, true_and, uwrap_u32, UInt32.toNat_mul]; simp⟩
  case h_13 x y => exact ⟨.int .u32 (bits .and .u32 x.toNat y.toNat), rfl, by rw [bits_u32]; simp [rel_u8, rel_u32, rel_u64, rel_int, rel_bool, rel_str]⟩
  case h_14 x y => exact ⟨.int .u32 (bits .or .u32 x.toNat y.toNat), rfl, by rw [bits_u32]; simp [rel_u8, rel_u32, rel_u64, rel_int, rel_bool, rel_str]⟩
  case h_15 x y => exact ⟨.int .u32 (bits .xor .u32 x.toNat y.toNat), rfl, by rw [bits_u32]; simp [rel_u8, rel_u32, rel_u64, rel_int, rel_bool, rel_str]⟩
  case h_16 x y => exact ⟨.int .u32 (bits .andNot .u32 x.toNat y.toNat), rfl, by rw [bits_u32]; simp [rel_u8, rel_u32, rel_u64, rel_int, rel_bool, rel_str]⟩
  case h_17 x y => exact ⟨.int .u64 _, rfl, by simp only [rel_u8, rel_u32, rel_u64, rel_int, rel_bool, rel_str, Value.int.injEq, true_and, uwrap_u64, UInt64.toNat_add]; simp⟩
  case h_18 x y => exact ⟨.int .u64 _, rfl, by simp only [rel_u8, rel_u32, rel_u64, rel_int, rel_bool, rel_str, Value.int.injEq, true_and, uwrap_u64, UInt64.toNat_sub]; have := x.toNat_lt; have := y.toNat_lt; omega⟩
  case h_19 x y => exact ⟨.int .u64 _, rfl, by simp only [rel_u8, rel_u32, rel_u64, rel_int, rel_bool, rel_str, Value.int.injEq, true_and, uwrap_u64, UInt64.toNat_mul]; simp⟩
  case h_20 x y => exact ⟨.int .u64 (bits .and .u64 x.toNat y.toNat), rfl, by rw [bits_u64]; simp [rel_u8, rel_u32, rel_u64, rel_int, rel_bool, rel_str]⟩
  case h_21 x y => exact ⟨.int .u64 (bits .or .u64 x.toNat y.toNat), rfl, by rw [bits_u64]; simp [rel_u8, rel_u32, rel_u64, rel_int, rel_bool, rel_str]⟩
  case h_22 x y => exact ⟨.int .u64 (bits .xor .u64 x.toNat y.toNat), rfl, by rw [bits_u64]; simp [rel_u8, rel_u32, rel_u64, rel_int, rel_bool, rel_str]⟩
  case h_23 x y => exact ⟨.int .u64 (bits .andNot .u64 x.toNat y.toNat), rfl, by rw [bits_u64]; simp [rel_u8, rel_u32, rel_u64, rel_int, rel_bool, rel_str]⟩
  case h_24 k x k' y => subst hp; exact ⟨_, by simp [binOp, Op.intArith]; rfl, by simp [rel_u8, rel_u32, rel_u64, rel_int, rel_bool, rel_str]⟩
  case h_25 k x k' y => subst hp; exact ⟨_, by simp [binOp, Op.intArith]; rfl, by simp [rel_u8, rel_u32, rel_u64, rel_int, rel_bool, rel_str]⟩
  case h_26 k x k' y => subst hp; exact ⟨_, by simp [binOp, Op.intArith]; rfl, by simp [rel_u8, rel_u32, rel_u64, rel_int, rel_bool, rel_str]⟩
  case h_27 k x k' y => obtain ⟨rfl, hp⟩ := hp; exact ⟨_, by simp [binOp, Op.intDiv, hp]; rfl, by simp [rel_u8, rel_u32, rel_u64, rel_int, rel_bool, rel_str]⟩
  case h_28 k x k' y => obtain ⟨rfl, hp⟩ := hp; exact ⟨_, by simp [binOp, Op.intDiv, hp]; rfl, by simp [rel_u8, rel_u32, rel_u64, rel_int, rel_bool, rel_str]⟩
  case h_29 k x k' y => subst hp; exact ⟨.int k' (bits .and k' x y), by simp [binOp, intBits_and], by simp [rel_u8, rel_u32, rel_u64, rel_int, rel_bool, rel_str]⟩
  case h_30 k x k' y => subst hp; exact ⟨.int k' (bits .or k' x y), by simp [binOp, intBits_or], by simp [rel_u8, rel_u32, rel_u64, rel_int, rel_bool, rel_str]⟩
  case h_31 k x k' y => subst hp; exact ⟨.int k' (bits .xor k' x y), by simp [binOp, intBits_xor], by simp [rel_u8, rel_u32, rel_u64, rel_int, rel_bool, rel_str]⟩
  case h_32 k x k' y => subst hp; exact ⟨.int k' (bits .andNot k' x y), by simp [binOp, intBits_andNot], by simp [rel_u8, rel_u32, rel_u64, rel_int, rel_bool, rel_str]⟩

theorem run_cmp {op : BinOp} (hop : op ≠ .shl ∧ op ≠ .shr) {t : Nat} {x y : AV} {vx vy : Value} (rx : rel ρ I w x vx) (ry : rel ρ I w y vy) {p : Bool × AV} (h : aCmp op x y = some p) (hp : p.1 = true) :
    ∃ z, (binOp op t vx vy).run P w = .ok z w ∧ rel ρ I w p.2 z := by
  unfold aCmp at h
  split at h
  · rename_i k a k' b ha hb
    have e1 := rel_toI ha rx
    have e2 := rel_toI hb ry
    subst e1 e2
    split at h
    case h_2 => simp at h
    rename_i r hr
    simp only [Option.some.injEq] at h
    subst h
    simp only [eqK, decide_eq_true_eq] at hp
    subst hp
    cases op <;> simp only [cmpI, Option.some.injEq, reduceCtorEq] at hr <;> subst hr <;> exact ⟨.bool _, by simp [binOp, Op.intCmp]; rfl, by simp [rel_u8, rel_u32, rel_u64, rel_int, rel_bool, rel_str]⟩
  · simp at h


theorem run_shift {op : BinOp} {t : Nat} {x y : AV} {vx vy : Value} (rx : rel ρ I w x vx) (ry : rel ρ I w y vy) {p : Bool × AV} (h : aShift op x y = some p) (hp : p.1 = true) :
    ∃ z, (binOp op t vx vy).run P w = .ok z w ∧ rel ρ I w p.2 z := by
  unfold aShift at h
  split at h
  · simp at h
  · rename_i k n hb
    have e2 := rel_toI hb ry
    subst e2
    split at h <;> simp only [Option.some.injEq, reduceCtorEq] at h <;> subst h <;> (simp only [rel_u8, rel_u32, rel_u64, rel_int, rel_bool, rel_str] at rx; subst rx) <;> simp only [nnB_iff] at hp
    case h_1 x =>
      refine ⟨_, run_shift_shl (x := (x.toNat : Int)) (yk := k) hp, ?_⟩
      simp only [rel_u8, rel_u32, rel_u64, rel_int, rel_bool, rel_str, Value.int.injEq, true_and, uwrap_u8, shl8, UInt8.toNat_ofNat', IntKind.bits]
      rcases Nat.lt_or_ge n.toNat 8 with hn | hn
      · rw [Nat.min_eq_left (by omega), Int.natCast_emod, Int.natCast_mul, Int.natCast_pow]; rfl
      · rw [Nat.min_eq_right hn]
        obtain ⟨q, hq⟩ := Nat.exists_eq_add_of_le hn
        rw [hq, Nat.pow_add, ← Nat.mul_assoc, Nat.mul_assoc x.toNat, Nat.mul_comm (2 ^ 8), ← Nat.mul_assoc, Nat.mul_mod_left]
        omega
    case h_2 x =>
      refine ⟨_, run_shift_shl (x := (x.toNat : Int)) (yk := k) hp, ?_⟩
      simp only [rel_u8, rel_u32, rel_u64, rel_int, rel_bool, rel_str, Value.int.injEq, true_and, uwrap_u32, shl32, UInt32.toNat_ofNat', IntKind.bits]
      rcases Nat.lt_or_ge n.toNat 32 with hn | hn
      · rw [Nat.min_eq_left (by omega), Int.natCast_emod, Int.natCast_mul, Int.natCast_pow]; rfl
      · rw [Nat.min_eq_right hn]
        obtain ⟨q, hq⟩ := Nat.exists_eq_add_of_le hn
        rw [hq, Nat.pow_add, ← Nat.mul_assoc, Nat.mul_assoc x.toNat, Nat.mul_comm (2 ^ 32), ← Nat.mul_assoc, Nat.mul_mod_left]
        omega
    case h_3 x =>
      refine ⟨_, run_shift_shl (x := (x.toNat : Int)) (yk := k) hp, ?_⟩
      simp only [rel_u8, rel_u32, rel_u64, rel_int, rel_bool, rel_str, Value.int.injEq, true_and, uwrap_u64, shl64, UInt64.toNat_ofNat', IntKind.bits]
      rcases Nat.lt_or_ge n.toNat 64 with hn | hn
      · rw [Nat.min_eq_left (by omega), Int.natCast_emod, Int.natCast_mul, Int.natCast_pow]; rfl
      · rw [Nat.min_eq_right hn]
        obtain ⟨q, hq⟩ := Nat.exists_eq_add_of_le hn
        rw [hq, Nat.pow_add, ← Nat.mul_assoc, Nat.mul_assoc x.toNat, Nat.mul_comm (2 ^ 64), ← Nat.mul_assoc, Nat.mul_mod_left]
        omega
    case h_4 x =>
      refine ⟨_, run_shift_shr (x := (x.toNat : Int)) (yk := k) hp, ?_⟩
      simp only [rel_u8, rel_u32, rel_u64, rel_int, rel_bool, rel_str, Value.int.injEq, true_and, shr8, UInt8.toNat_ofNat', IntKind.bits]
      have hx := x.toNat_lt
      have e : x.toNat / 2 ^ n.toNat % 2 ^ 8 = x.toNat / 2 ^ min n.toNat 8 := by
        rw [Nat.mod_eq_of_lt (Nat.lt_of_le_of_lt (Nat.div_le_self _ _) hx)]
        rcases Nat.lt_or_ge n.toNat 8 with hn | hn
        · rw [Nat.min_eq_left (by omega)]
        · rw [Nat.min_eq_right hn, Nat.div_eq_of_lt hx, Nat.div_eq_of_lt (Nat.lt_of_lt_of_le hx (Nat.pow_le_pow_right (by decide) hn))]
      rw [e, Int.fdiv_eq_ediv_of_nonneg _ (Int.pow_nonneg (by decide))]
      push_cast; rfl
    case h_5 x =>
      refine ⟨_, run_shift_shr (x := (x.toNat : Int)) (yk := k) hp, ?_⟩
      simp only [rel_u8, rel_u32, rel_u64, rel_int, rel_bool, rel_str, Value.int.injEq, true_and, shr32, UInt32.toNat_ofNat', IntKind.bits]
      have hx := x.toNat_lt
      have e : x.toNat / 2 ^ n.toNat % 2 ^ 32 = x.toNat / 2 ^ min n.toNat 32 := by
        rw [Nat.mod_eq_of_lt (Nat.lt_of_le_of_lt (Nat.div_le_self _ _) hx)]
        rcases Nat.lt_or_ge n.toNat 32 with hn | hn
        · rw [Nat.min_eq_left (by omega)]
        · rw [Nat.min_eq_right hn, Nat.div_eq_of_lt hx, Nat.div_eq_of_lt (Nat.lt_of_lt_of_le hx (Nat.pow_le_pow_right (by decide) hn))]
      rw [e, Int.fdiv_eq_ediv_of_nonneg _ (Int.pow_nonneg (by decide))]
      push_cast; rfl
    case h_6 x =>
      refine ⟨_, run_shift_shr (x := (x.toNat : Int)) (yk := k) hp, ?_⟩
      simp only [rel_u8, rel_u32, rel_u64, rel_int, rel_bool, rel_str, Value.int.injEq, true_and, shr64, UInt64.toNat_ofNat', IntKind.bits]
      have hx := x.toNat_lt
      have e : x.toNat / 2 ^ n.toNat % 2 ^ 64 = x.toNat / 2 ^ min n.toNat 64 := by
        rw [Nat.mod_eq_of_lt (Nat.lt_of_le_of_lt (Nat.div_le_self _ _) hx)]
        rcases Nat.lt_or_ge n.toNat 64 with hn | hn
        · rw [Nat.min_eq_left (by omega)]
        · rw [Nat.min_eq_right hn, Nat.div_eq_of_lt hx, Nat.div_eq_of_lt (Nat.lt_of_lt_of_le hx (Nat.pow_le_pow_right (by decide) hn))]
      rw [e, Int.fdiv_eq_ediv_of_nonneg _ (Int.pow_nonneg (by decide))]
      push_cast; rfl
    case h_7 x => exact ⟨_, by simp [binOp]; exact run_shift_shl hp, by simp [rel_u8, rel_u32, rel_u64, rel_int, rel_bool, rel_str, IntKind.bits]⟩
    case h_8 x => exact ⟨_, by simp [binOp]; exact run_shift_shr hp, by simp [rel_u8, rel_u32, rel_u64, rel_int, rel_bool, rel_str, IntKind.bits]⟩

theorem run_boolEq {op : BinOp} {t : Nat} (ht : P.underlying t = some .bool) {x y : AV} {vx vy : Value} (rx : rel ρ I w x vx) (ry : rel ρ I w y vy) {p : Bool × AV} (h : aBoolEq op x y = some p) :
    ∃ z, (binOp op t vx vy).run P w = .ok z w ∧ rel ρ I w p.2 z := by
  unfold aBoolEq at h
  split at h <;> simp only [Option.some.injEq, reduceCtorEq] at h <;> subst h <;> (simp only [rel_u8, rel_u32, rel_u64, rel_int, rel_bool, rel_str] at rx ry; subst rx ry)
  · exact ⟨_, run_eql_bool w t _ _ ht, by simp [rel_u8, rel_u32, rel_u64, rel_int, rel_bool, rel_str]⟩
  · exact ⟨_, run_neq_bool w t _ _ ht, by simp [rel_u8, rel_u32, rel_u64, rel_int, rel_bool, rel_str, bne]⟩

theorem toList_mk (l : List UInt8) : (⟨l.toArray⟩ : ByteArray).toList = l := by
  rw [ByteArray.toList_eq]

theorem run_str {op : BinOp} {t : Nat} {x y : AV} {vx vy : Value} (rx : rel ρ I w x vx) (ry : rel ρ I w y vy) {p : Bool × AV} (h : aStr op x y = some p) (hp : p.1 = true) :
    ∃ z, (binOp op t vx vy).run P w = .ok z w ∧ rel ρ I w p.2 z := by
  have step : ∀ (x y : List UInt8), (binOp op t (.string ⟨x.toArray⟩) (.string ⟨y.toArray⟩)).run P w = (Op.stringOp op ⟨x.toArray⟩ ⟨y.toArray⟩).run P w := by
    intro x y; cases op <;> rfl
  unfold aStr at h
  split at h <;> simp only [Option.some.injEq, reduceCtorEq] at h <;> subst h <;> (simp only [rel_u8, rel_u32, rel_u64, rel_int, rel_bool, rel_str] at rx ry; subst rx ry) <;> simp only [bne_iff_ne, Bool.and_eq_true, eqK, decide_eq_true_eq, ltB_iff] at hp <;> rw [step]
  case h_1 x y =>
    refine ⟨.string (⟨x.toArray⟩ ++ ⟨y.toArray⟩), ?_, ?_⟩
    · have h1 : IntKind.i64.max = 9223372036854775807 := by decide
      have h2 : ¬ ((((⟨x.toArray⟩ : ByteArray).size + (⟨y.toArray⟩ : ByteArray).size : Nat) : Int) > IntKind.i64.max) := by
        simp only [ByteArray.size, List.size_toArray, h1]
        omega
      unfold Op.stringOp
      simp only [if_neg h2]
      rfl
    · simp only [rel_u8, rel_u32, rel_u64, rel_int, rel_bool, rel_str, Value.string.injEq]
      apply ByteArray.ext
      simp
  case h_2 x y => exact ⟨.bool _, by simp only [Op.stringOp, toList_mk]; rfl, by simp [rel_u8, rel_u32, rel_u64, rel_int, rel_bool, rel_str]⟩
  case h_3 x y => exact ⟨.bool _, by simp only [Op.stringOp, toList_mk]; rfl, by simp [rel_u8, rel_u32, rel_u64, rel_int, rel_bool, rel_str, bne]⟩
  case h_4 x y => exact ⟨.bool _, by simp only [Op.stringOp, toList_mk]; rfl, by simp [rel_u8, rel_u32, rel_u64, rel_int, rel_bool, rel_str]⟩
  case h_5 x y => exact ⟨.bool _, by simp only [Op.stringOp, toList_mk]; rfl, by simp [rel_u8, rel_u32, rel_u64, rel_int, rel_bool, rel_str]⟩
  case h_6 x y => exact ⟨.bool _, by simp only [Op.stringOp, toList_mk]; rfl, by simp [rel_u8, rel_u32, rel_u64, rel_int, rel_bool, rel_str]⟩
  case h_7 x y => exact ⟨.bool _, by simp only [Op.stringOp, toList_mk]; rfl, by simp [rel_u8, rel_u32, rel_u64, rel_int, rel_bool, rel_str]⟩

theorem run_cvt {k : IntKind} {s d : Nat} {ds : TypeDesc} (hs : P.underlying s = some ds) (hd : P.underlying d = some (.int k)) {x v : AV} {vx : Value} (rx : rel ρ I w x vx) (h : cvt k x = some v) :
    ∃ z, (convert s d vx).run P w = .ok z w ∧ rel ρ I w v z := by
  have key : ∀ (k' : IntKind) (n : Int), vx = .int k' n → (convert s d vx).run P w = .ok (.int k (k.wrap n)) w := by
    rintro k' n rfl
    simp [convert, run_underlying hs, run_underlying hd, Conv.intToInt]
  unfold cvt at h
  split at h
  case h_15 =>
    split at h
    · rename_i k1 n hn
      simp only [Option.some.injEq] at h
      subst h
      exact ⟨_, key _ _ (rel_toI hn rx), by simp [rel_u8, rel_u32, rel_u64, rel_int, rel_bool, rel_str]⟩
    · simp at h
  all_goals simp only [Option.some.injEq] at h
  all_goals subst h
  all_goals (simp only [rel_u8, rel_u32, rel_u64, rel_int, rel_bool, rel_str] at rx; refine ⟨_, key _ _ rx, ?_⟩; simp only [rel_u8, rel_u32, rel_u64, rel_int, rel_bool, rel_str, Value.int.injEq, true_and, uwrap_u8, uwrap_u32, uwrap_u64])
  case h_1 x => have := x.toNat_lt; omega
  case h_2 x => rw [UInt32.toNat_toUInt8]; omega
  case h_3 x => rw [UInt64.toNat_toUInt8]; omega
  case h_4 n => rw [UInt8.toNat_ofNat']; omega
  case h_5 x => have := x.toNat_lt; rw [UInt8.toNat_toUInt32]; omega
  case h_6 x => have := x.toNat_lt; omega
  case h_7 x => rw [UInt64.toNat_toUInt32]; omega
  case h_8 n => rw [UInt32.toNat_ofNat']; omega
  case h_9 x => have := x.toNat_lt; rw [UInt8.toNat_toUInt64]; omega
  case h_10 x => have := x.toNat_lt; rw [UInt32.toNat_toUInt64]; omega
  case h_11 x => have := x.toNat_lt; omega
  case h_12 n => rw [UInt64.toNat_ofNat']; omega
  case h_13 x => have := x.toNat_lt; simp only [IntKind.wrap, IntKind.bits, IntKind.signed]; simp; omega
  case h_14 x => have := x.toNat_lt; simp only [IntKind.wrap, IntKind.bits, IntKind.signed]; simp; omega


end
end Go.V
