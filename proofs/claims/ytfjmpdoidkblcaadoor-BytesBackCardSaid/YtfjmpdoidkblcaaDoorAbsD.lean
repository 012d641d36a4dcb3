/- The abstract layer, part D: the model agrees with the abstract values of operations that only compute or read. -/
import Derived.Test.YtfjmpdoidkblcaaDoorAbsB
set_option linter.unusedSimpArgs false
set_option linter.unusedVariables false
namespace Go.Ab
open Go

section
variable {P : Program} {G : Glob} {ρ : Rho} {I : Imm} {H : Heap} {w : World}

theorem cell_of_heap {b o : Nat} {cs : List Value} {el : TypeId} {fr : Nat × Nat} (h : w.heap[b]? = some (.cells cs.toArray el fr)) : w.cell? ⟨b, o, none⟩ = cs[o]? := by
  simp [World.cell?, h]

theorem addr_add (b o n : Nat) : (⟨b, o, none⟩ : Addr).add n = ⟨b, o + n, none⟩ := by
  unfold Addr.add; split <;> simp_all

/-- The cells behind an address. -/
theorem cellsAt_sound (c : Conc G ρ I H w) {a : AV} {x : Value} (r : rel ρ I w a x) {l : List AV} {off : Nat} (h : cellsAt H a = some (l, off)) :
    ∃ b base vs, x = .pointer (some ⟨b, base + off, none⟩) ∧ relL ρ I w l vs ∧ (∀ (i : Nat) (y : Value), vs[i]? = some y → w.cell? ⟨b, base + i, none⟩ = some y) := by
  cases a with
  | ptr id o =>
    obtain ⟨b, hb, rfl⟩ := r
    simp only [cellsAt] at h
    split at h
    · rename_i c' f hH
      simp only [Option.some.injEq, Prod.mk.injEq] at h
      obtain ⟨rfl, rfl⟩ := h
      obtain ⟨b', el, fr, cs, g1, g2, g3, _⟩ := c.blk id _ _ hH
      obtain rfl : b = b' := by rw [hb] at g1; simpa using g1
      exact ⟨b, 0, cs, by simp, g3, fun i y hy => by rw [Nat.zero_add, cell_of_heap g2, hy]⟩
    · rename_i c' f hH
      simp only [Option.some.injEq, Prod.mk.injEq] at h
      obtain ⟨rfl, rfl⟩ := h
      rcases c.grow id _ _ hH with ⟨g1, _⟩ | ⟨b', el, fr, cs, rest, g1, g2, g3, _⟩
      · rw [hb] at g1; simp at g1
      · obtain rfl : b = b' := by rw [hb] at g1; simpa using g1
        refine ⟨b, 0, cs, by simp, g3, fun i y hy => ?_⟩
        have hi : i < cs.length := (List.getElem?_eq_some_iff.1 hy).1
        rw [Nat.zero_add, cell_of_heap g2, List.getElem?_append_left hi, hy]
    · simp at h
  | vp cells i =>
    obtain ⟨b, base, vs, rfl, g1, g2⟩ := r
    simp only [cellsAt, Option.some.injEq, Prod.mk.injEq] at h
    obtain ⟨rfl, rfl⟩ := h
    exact ⟨b, base, vs, rfl, g1, fun i y hy => (g2 i y hy).1⟩
  | _ => simp [cellsAt] at h

theorem addrAdd_sound {n : Nat} {a v : AV} {x : Value} (r : rel ρ I w a x) (h : addrAdd n a = some v) :
    ∃ b o, x = .pointer (some ⟨b, o, none⟩) ∧ rel ρ I w v (.pointer (some ⟨b, o + n, none⟩)) := by
  cases a with
  | ptr id o =>
    obtain ⟨b, hb, rfl⟩ := r
    simp only [addrAdd, Option.some.injEq] at h
    subst h
    exact ⟨b, o, rfl, b, hb, rfl⟩
  | vp cells i =>
    obtain ⟨b, base, vs, rfl, g1, g2⟩ := r
    simp only [addrAdd, Option.some.injEq] at h
    subst h
    exact ⟨b, base + i, rfl, b, base, vs, by simp [Nat.add_assoc], g1, g2⟩
  | _ => simp [addrAdd] at h

theorem run_loadAt {t : Nat} {ti : TI} (ht : tinfo P t = some ti) {b base off : Nat} {l : List AV} {vs : List Value} (hr : relL ρ I w l vs)
    (hc : ∀ (i : Nat) (y : Value), vs[i]? = some y → w.cell? ⟨b, base + i, none⟩ = some y) (hp : (aload ti l off).1) :
    ∃ x, (Instr.loadAt t (.pointer (some ⟨b, base + off, none⟩))).run P w = .ok x w ∧ rel ρ I w (aload ti l off).2 x := by
  obtain ⟨j, d, h1, h2, h3, _, h5⟩ := tinfo_some ht
  have hlen := relL_len hr
  by_cases hk : ti.kind.isAgg = true
  · simp only [aload, hk, if_true] at hp ⊢
    have hlen2 : ((vs.drop off).take ti.size).length = j.size := by rw [List.length_take, List.length_drop]; omega
    have hl := run_loadCells_list (P := P) w ⟨b, base + off, none⟩ ((vs.drop off).take ti.size) (fun i v hv => by
      rw [addr_add, Nat.add_assoc]
      refine hc (off + i) v ?_
      rw [List.getElem?_take] at hv
      split at hv
      · simpa using hv
      · simp at hv)
    rw [hlen2] at hl
    refine ⟨.agg ((vs.drop off).take ti.size).toArray, ?_, ?_⟩
    · rw [h5] at hk
      simp [Instr.loadAt, Instr.sureAddr, loadVar, run_isAgg h2, hk, run_sizeOf h1, hl]
    · exact ⟨_, rfl, by simpa using relL_take (relL_drop hr off) ti.size⟩
  · have hk' : ti.kind.isAgg = false := by simpa using hk
    simp only [aload, hk', Bool.false_eq_true, if_false] at hp ⊢
    have hv : off < vs.length := by omega
    have hcell := hc off vs[off] (by simp [hv])
    refine ⟨vs[off], ?_, ?_⟩
    · rw [h5] at hk'
      simp [Instr.loadAt, Instr.sureAddr, loadVar, run_isAgg h2, hk', hcell]
    · have := relL_getD hr off
      rwa [show vs.getD off undef = vs[off] by simp [List.getD, hv]] at this

theorem run_part {e : Nat} {l : List AV} {off : Nat} {cs : List Value} (hr : relL ρ I w l cs) {p : Prop × AV} (h : aPart P e l off = some p) (hp : p.1) :
    ∃ x, (part e cs.toArray off).run P w = .ok x w ∧ rel ρ I w p.2 x := by
  unfold aPart at h
  split at h
  · simp at h
  · rename_i te hte
    obtain ⟨j, d, h1, h2, h3, _, h5⟩ := tinfo_some hte
    have hlen := relL_len hr
    split at h
    · rename_i hk
      simp only [Option.some.injEq] at h
      subst h
      rw [h5] at hk
      refine ⟨.agg (cs.toArray.extract off (off + j.size)), by simp [part, run_isAgg h2, hk, run_sizeOf h1], _, rfl, ?_⟩
      have := relL_take (relL_drop hr off) te.size
      rw [h3] at this ⊢
      simpa [List.extract_eq_take_drop] using this
    · rename_i hk
      simp only [Option.some.injEq] at h
      subst h
      have hk' : te.kind.isAgg = false := by simpa using hk
      rw [h5] at hk'
      have hv : off < cs.length := by simp at hp; omega
      refine ⟨cs[off], by simp [part, run_isAgg h2, hk', hv], ?_⟩
      have := relL_getD hr off
      rwa [show cs.getD off undef = cs[off] by simp [List.getD, hv]] at this

theorem run_asIntOf {a : AV} {v : Value} {k : IntKind} {n : Int} (h : a.toI = some (k, n)) (r : rel ρ I w a v) : (asIntOf v).run P w = .ok (k, n) w := by
  rw [rel_toI h r]; simp [asIntOf]

theorem run_indexAt {t : Nat} {ti : TI} (ht : tinfo P t = some ti) {x i : AV} {vx vi : Value} (rx : rel ρ I w x vx) (ri : rel ρ I w i vi) {k : IntKind} {n : Int}
    (hi : i.toI = some (k, n)) {p : Prop × AV} (h : aIndexAddr P ti x n = some p) (hp : p.1) :
    ∃ y, (Instr.indexAt t vx vi).run P w = .ok y w ∧ rel ρ I w p.2 y := by
  obtain ⟨j, d, h1, h2, h3, _, h5⟩ := tinfo_some ht
  have hii : vi = .int k n := rel_toI hi ri
  subst hii
  unfold aIndexAddr at h
  split at h
  · rename_i len e hk
    rw [hk] at h5
    obtain rfl := TK.of_arr h5
    split at h
    · rename_i te hte
      obtain ⟨je, de, e1, e2, e3, _, e5⟩ := tinfo_some hte
      rw [Option.map_eq_some_iff] at h
      obtain ⟨v, hv, rfl⟩ := h
      obtain ⟨b, o, rfl, hr⟩ := addrAdd_sound rx hv
      refine ⟨_, ?_, hr⟩
      simp only at hp
      simp [Instr.indexAt, asIntOf, run_underlying h2, Instr.sureAddr, hp, run_sizeOf e1, e3, addr_add]
    · simp at h
  · rename_i e id off sz len hk
    rw [hk] at h5
    obtain rfl := TK.of_slice h5
    rw [Option.map_eq_some_iff] at h
    obtain ⟨te, hte, rfl⟩ := h
    obtain ⟨je, de, e1, e2, e3, _, e5⟩ := tinfo_some hte
    simp only at hp
    rcases rx with ⟨b, cap, g1, rfl, _⟩ | ⟨_, _, rfl, _⟩
    · refine ⟨.pointer (some ⟨b, off + n.toNat * je.size, none⟩), ?_, b, g1, by simp [e3]⟩
      simp [Instr.indexAt, asIntOf, run_underlying h2, hp, run_sizeOf e1, addr_add]
    · omega
  · rename_i e full len cells hk
    rw [hk] at h5
    obtain rfl := TK.of_slice h5
    rw [Option.map_eq_some_iff] at h
    obtain ⟨te, hte, rfl⟩ := h
    obtain ⟨je, de, e1, e2, e3, _, e5⟩ := tinfo_some hte
    simp only at hp
    obtain ⟨a, cap, rfl, g1, g2, ⟨rfl, rfl, rfl⟩ | ⟨b, off, vs, rfl, g3, g4, g5⟩⟩ := rx
    · omega
    · refine ⟨.pointer (some ⟨b, off + n.toNat * je.size, none⟩), ?_, b, off, vs, by simp [e3], g4, g5⟩
      simp [Instr.indexAt, asIntOf, run_underlying h2, hp, run_sizeOf e1, addr_add]
  · simp at h

theorem run_index {t : Nat} {ti : TI} (ht : tinfo P t = some ti) {x i : AV} {vx vi : Value} (rx : rel ρ I w x vx) (ri : rel ρ I w i vi) {k : IntKind} {n : Int}
    (hi : i.toI = some (k, n)) {p : Prop × AV} (h : aIndex P ti x n = some p) (hp : p.1) :
    ∃ y, (Instr.index t vx vi).run P w = .ok y w ∧ rel ρ I w p.2 y := by
  obtain ⟨j, d, h1, h2, h3, _, h5⟩ := tinfo_some ht
  have hii : vi = .int k n := rel_toI hi ri
  subst hii
  unfold aIndex at h
  split at h
  · rename_i len e l hk
    rw [hk] at h5
    obtain rfl := TK.of_arr h5
    split at h
    · rename_i te hte
      obtain ⟨je, de, e1, e2, e3, _, e5⟩ := tinfo_some hte
      rw [Option.map_eq_some_iff] at h
      obtain ⟨q, hq, rfl⟩ := h
      simp only at hp
      obtain ⟨cs, rfl, hr⟩ := rx
      obtain ⟨y, hy, hry⟩ := run_part (P := P) hr hq hp.2
      refine ⟨y, ?_, hry⟩
      rw [e3] at hy
      simp only [Array.toArray_toList] at hy
      simp [Instr.index, asIntOf, run_underlying h2, hp.1, run_sizeOf e1, hy]
    · simp at h
  · rename_i s hk
    rw [hk] at h5
    obtain rfl := TK.of_string h5
    simp only [Option.some.injEq] at h
    subst h
    simp only at hp
    have hs : vx = .string ⟨s.toArray⟩ := rx
    subst hs
    have hlt : n.toNat < s.length := by omega
    have : (⟨s.toArray⟩ : ByteArray)[n.toNat]? = some s[n.toNat] := by
      have hsz : (⟨s.toArray⟩ : ByteArray).size = s.length := by simp [ByteArray.size]
      rw [getElem?_pos _ _ (by rw [hsz]; exact hlt)]
      rfl
    refine ⟨.int .u8 s[n.toNat].toNat, ?_, ?_⟩
    · simp [Instr.index, asIntOf, run_underlying h2, hp.1, this]
    · simp [rel, List.getD, hlt]
  · simp at h

theorem rel_pickA {b : Bool} {x y : AV} {vx vy : Value} (hx : rel ρ I w x vx) (hy : rel ρ I w y vy) : rel ρ I w (pickA b x y) (if b then vx else vy) := by
  unfold pickA
  split
  · simp only [rel] at hx hy ⊢
    subst hx hy
    cases b <;> rfl
  · cases b
    · exact hy
    · exact hx


theorem wrap_nat {k : IntKind} (hk : k.signed = false) (n : Nat) (h : n < 2 ^ k.bits) : k.wrap (n : Int) = n := by
  have h' : (n : Int) < 2 ^ k.bits := by exact_mod_cast h
  simp only [IntKind.wrap, hk, Bool.false_and, Bool.false_eq_true, if_false]
  exact Int.emod_eq_of_lt (by omega) h'

theorem ofInt_u8 (x : UInt8) : BitVec.ofInt 8 (x.toNat : Int) = x.toBitVec := by
  rw [BitVec.ofInt_natCast]; apply BitVec.eq_of_toNat_eq; simp
theorem ofInt_u32 (x : UInt32) : BitVec.ofInt 32 (x.toNat : Int) = x.toBitVec := by
  rw [BitVec.ofInt_natCast]; apply BitVec.eq_of_toNat_eq; simp
theorem ofInt_u64 (x : UInt64) : BitVec.ofInt 64 (x.toNat : Int) = x.toBitVec := by
  rw [BitVec.ofInt_natCast]; apply BitVec.eq_of_toNat_eq; simp

theorem wrap_u8 (v : BitVec 8) : IntKind.u8.wrap (v.toNat : Int) = v.toNat := wrap_nat rfl _ v.isLt
theorem wrap_u32 (v : BitVec 32) : IntKind.u32.wrap (v.toNat : Int) = v.toNat := wrap_nat rfl _ v.isLt
theorem wrap_u64 (v : BitVec 64) : IntKind.u64.wrap (v.toNat : Int) = v.toNat := wrap_nat rfl _ v.isLt

theorem bits_u8 (op : BinOp) (x y : UInt8) : bits op .u8 x.toNat y.toNat =
    ((match op with | .and => x &&& y | .or => x ||| y | .xor => x ^^^ y | _ => x &&& ~~~y).toNat : Int) := by
  have hx := ofInt_u8 x
  have hy := ofInt_u8 y
  simp only [bits, IntKind.bits, hx, hy]
  cases op <;> exact wrap_u8 _
theorem bits_u32 (op : BinOp) (x y : UInt32) : bits op .u32 x.toNat y.toNat =
    ((match op with | .and => x &&& y | .or => x ||| y | .xor => x ^^^ y | _ => x &&& ~~~y).toNat : Int) := by
  have hx := ofInt_u32 x
  have hy := ofInt_u32 y
  simp only [bits, IntKind.bits, hx, hy]
  cases op <;> exact wrap_u32 _
theorem bits_u64 (op : BinOp) (x y : UInt64) : bits op .u64 x.toNat y.toNat =
    ((match op with | .and => x &&& y | .or => x ||| y | .xor => x ^^^ y | _ => x &&& ~~~y).toNat : Int) := by
  have hx := ofInt_u64 x
  have hy := ofInt_u64 y
  simp only [bits, IntKind.bits, hx, hy]
  cases op <;> exact wrap_u64 _

theorem uwrap_u8 (n : Int) : IntKind.u8.wrap n = n % 256 := by simp [IntKind.wrap, IntKind.bits, IntKind.signed]
theorem uwrap_u32 (n : Int) : IntKind.u32.wrap n = n % 4294967296 := by simp [IntKind.wrap, IntKind.bits, IntKind.signed]
theorem uwrap_u64 (n : Int) : IntKind.u64.wrap n = n % 18446744073709551616 := by simp [IntKind.wrap, IntKind.bits, IntKind.signed]

theorem run_unary {op : UnOp} {x v : AV} {vx : Value} (rx : rel ρ I w x vx) (h : aUn op x = some v) : ∃ y, (Op.unary op vx).run P w = .ok y w ∧ rel ρ I w v y := by
  unfold aUn at h
  split at h <;> simp only [Option.some.injEq, reduceCtorEq] at h <;> subst h <;> (simp only [rel] at rx; subst rx)
  · exact ⟨_, by simp [Op.unary]; rfl, by simp [rel]⟩
  · refine ⟨_, by simp [Op.unary, Op.intArith]; rfl, ?_⟩
    rename_i x
    simp only [rel, Value.int.injEq, true_and, UInt64.toNat_sub, uwrap_u64]
    have := x.toNat_lt
    simp
    omega
  · exact ⟨_, by simp [Op.unary, Op.intArith]; rfl, by simp [rel]⟩
  · rename_i x
    refine ⟨.int .u32 (bits .xor .u32 IntKind.u32.max x.toNat), rfl, ?_⟩
    have h1 : IntKind.u32.max = ((4294967295 : UInt32).toNat : Int) := by decide
    rw [h1, bits_u32]
    simp only [rel, Value.int.injEq, true_and]
    congr 2
  · rename_i x
    refine ⟨.int .u64 (bits .xor .u64 IntKind.u64.max x.toNat), rfl, ?_⟩
    have h1 : IntKind.u64.max = ((18446744073709551615 : UInt64).toNat : Int) := by decide
    rw [h1, bits_u64]
    simp only [rel, Value.int.injEq, true_and]
    congr 2

theorem run_arith {op : BinOp} {t : Nat} {x y : AV} {vx vy : Value} (rx : rel ρ I w x vx) (ry : rel ρ I w y vy) {p : Prop × AV} (h : aArith op x y = some p) (hp : p.1) :
    ∃ z, (binOp op t vx vy).run P w = .ok z w ∧ rel ρ I w p.2 z := by
  unfold aArith at h
  split at h <;> simp only [Option.some.injEq, reduceCtorEq] at h <;> subst h <;> (simp only [rel] at rx ry; subst rx ry) <;> simp only at hp
  case h_1 x y => exact ⟨.int .u8 _, rfl, by simp only [rel, Value.int.injEq, true_and, uwrap_u8, UInt8.toNat_add]; simp⟩
  case h_2 x y => exact ⟨.int .u8 _, rfl, by simp only [rel, Value.int.injEq, true_and, uwrap_u8, UInt8.toNat_sub]; have := x.toNat_lt; have := y.toNat_lt; omega⟩
  case h_3 x y => exact ⟨.int .u8 _, rfl, by simp only [rel, Value.int.injEq, true_and, uwrap_u8, UInt8.toNat_mul]; simp⟩
  case h_4 x y => exact ⟨.int .u8 (bits .and .u8 x.toNat y.toNat), rfl, by rw [bits_u8]; simp [rel]⟩
  case h_5 x y => exact ⟨.int .u8 (bits .or .u8 x.toNat y.toNat), rfl, by rw [bits_u8]; simp [rel]⟩
  case h_6 x y => exact ⟨.int .u8 (bits .xor .u8 x.toNat y.toNat), rfl, by rw [bits_u8]; simp [rel]⟩
  case h_7 x y => exact ⟨.int .u8 (bits .andNot .u8 x.toNat y.toNat), rfl, by rw [bits_u8]; simp [rel]⟩
  case h_8 x y =>
    have hy : y.toNat ≠ 0 := fun e => hp (UInt8.toNat_inj.1 e)
    refine ⟨.int .u8 (IntKind.u8.wrap ((x.toNat : Int).tdiv y.toNat)), by simp [binOp, Op.intDiv, hy], ?_⟩
    simp only [rel, Value.int.injEq, true_and, uwrap_u8, UInt8.toNat_div]
    rw [← Int.ofNat_tdiv]
    have h1 := x.toNat_lt
    have h2 := Nat.div_le_self x.toNat y.toNat
    show ((x.toNat / y.toNat : Nat) : Int) % 256 = ((x.toNat / y.toNat : Nat) : Int)
    generalize x.toNat / y.toNat = q at *
    omega
  case h_9 x y =>
    have hy : y.toNat ≠ 0 := fun e => hp (UInt8.toNat_inj.1 e)
    refine ⟨.int .u8 ((x.toNat : Int).tmod y.toNat), by simp [binOp, Op.intDiv, hy], ?_⟩
    simp only [rel, Value.int.injEq, true_and, UInt8.toNat_mod]
    rw [← Int.ofNat_tmod]
  case h_10 x y => exact ⟨.int .u32 _, rfl, by simp only [rel, Value.int.injEq, true_and, uwrap_u32, UInt32.toNat_add]; simp⟩
  case h_11 x y => exact ⟨.int .u32 _, rfl, by simp only [rel, Value.int.injEq, true_and, uwrap_u32, UInt32.toNat_sub]; have := x.toNat_lt; have := y.toNat_lt; omega⟩
  case h_12 x y => exact ⟨.int .u32 _, rfl, by simp only [rel, Value.int.injEq, true_and, uwrap_u32, UInt32.toNat_mul]; simp⟩
  case h_13 x y => exact ⟨.int .u32 (bits .and .u32 x.toNat y.toNat), rfl, by rw [bits_u32]; simp [rel]⟩
  case h_14 x y => exact ⟨.int .u32 (bits .or .u32 x.toNat y.toNat), rfl, by rw [bits_u32]; simp [rel]⟩
  case h_15 x y => exact ⟨.int .u32 (bits .xor .u32 x.toNat y.toNat), rfl, by rw [bits_u32]; simp [rel]⟩
  case h_16 x y => exact ⟨.int .u32 (bits .andNot .u32 x.toNat y.toNat), rfl, by rw [bits_u32]; simp [rel]⟩
  case h_17 x y => exact ⟨.int .u64 _, rfl, by simp only [rel, Value.int.injEq, true_and, uwrap_u64, UInt64.toNat_add]; simp⟩
  case h_18 x y => exact ⟨.int .u64 _, rfl, by simp only [rel, Value.int.injEq, true_and, uwrap_u64, UInt64.toNat_sub]; have := x.toNat_lt; have := y.toNat_lt; omega⟩
  case h_19 x y => exact ⟨.int .u64 _, rfl, by simp only [rel, Value.int.injEq, true_and, uwrap_u64, UInt64.toNat_mul]; simp⟩
  case h_20 x y => exact ⟨.int .u64 (bits .and .u64 x.toNat y.toNat), rfl, by rw [bits_u64]; simp [rel]⟩
  case h_21 x y => exact ⟨.int .u64 (bits .or .u64 x.toNat y.toNat), rfl, by rw [bits_u64]; simp [rel]⟩
  case h_22 x y => exact ⟨.int .u64 (bits .xor .u64 x.toNat y.toNat), rfl, by rw [bits_u64]; simp [rel]⟩
  case h_23 x y => exact ⟨.int .u64 (bits .andNot .u64 x.toNat y.toNat), rfl, by rw [bits_u64]; simp [rel]⟩
  case h_24 k x k' y => subst hp; exact ⟨_, by simp [binOp, Op.intArith]; rfl, by simp [rel]⟩
  case h_25 k x k' y => subst hp; exact ⟨_, by simp [binOp, Op.intArith]; rfl, by simp [rel]⟩
  case h_26 k x k' y => subst hp; exact ⟨_, by simp [binOp, Op.intArith]; rfl, by simp [rel]⟩
  case h_27 k x k' y => obtain ⟨rfl, hp⟩ := hp; exact ⟨_, by simp [binOp, Op.intDiv, hp]; rfl, by simp [rel]⟩
  case h_28 k x k' y => obtain ⟨rfl, hp⟩ := hp; exact ⟨_, by simp [binOp, Op.intDiv, hp]; rfl, by simp [rel]⟩
  case h_29 k x k' y => subst hp; exact ⟨.int k' (bits .and k' x y), by simp [binOp, intBits_and], by simp [rel]⟩
  case h_30 k x k' y => subst hp; exact ⟨.int k' (bits .or k' x y), by simp [binOp, intBits_or], by simp [rel]⟩
  case h_31 k x k' y => subst hp; exact ⟨.int k' (bits .xor k' x y), by simp [binOp, intBits_xor], by simp [rel]⟩
  case h_32 k x k' y => subst hp; exact ⟨.int k' (bits .andNot k' x y), by simp [binOp, intBits_andNot], by simp [rel]⟩

theorem run_cmp {op : BinOp} (hop : op ≠ .shl ∧ op ≠ .shr) {t : Nat} {x y : AV} {vx vy : Value} (rx : rel ρ I w x vx) (ry : rel ρ I w y vy) {p : Prop × AV} (h : aCmp op x y = some p) (hp : p.1) :
    ∃ z, (binOp op t vx vy).run P w = .ok z w ∧ rel ρ I w p.2 z := by
  unfold aCmp at h
  split at h
  · rename_i k a k' b ha hb
    have e1 := rel_toI ha rx
    have e2 := rel_toI hb ry
    subst e1 e2
    rw [Option.map_eq_some_iff] at h
    obtain ⟨r, hr, rfl⟩ := h
    simp only at hp
    subst hp
    cases op <;> simp only [cmpI, Option.some.injEq, reduceCtorEq] at hr <;> subst hr <;> exact ⟨.bool _, by simp [binOp, Op.intCmp]; rfl, by simp [rel]⟩
  · simp at h


theorem run_shift {op : BinOp} {t : Nat} {x y : AV} {vx vy : Value} (rx : rel ρ I w x vx) (ry : rel ρ I w y vy) {p : Prop × AV} (h : aShift op x y = some p) (hp : p.1) :
    ∃ z, (binOp op t vx vy).run P w = .ok z w ∧ rel ρ I w p.2 z := by
  unfold aShift at h
  split at h
  · simp at h
  · rename_i k n hb
    have e2 := rel_toI hb ry
    subst e2
    split at h <;> simp only [Option.some.injEq, reduceCtorEq] at h <;> subst h <;> (simp only [rel] at rx; subst rx) <;> simp only at hp
    case h_1 x =>
      refine ⟨_, run_shift_shl (x := (x.toNat : Int)) (yk := k) hp, ?_⟩
      simp only [rel, Value.int.injEq, true_and, uwrap_u8, shl8, UInt8.toNat_ofNat', IntKind.bits]
      rcases Nat.lt_or_ge n.toNat 8 with hn | hn
      · rw [Nat.min_eq_left (by omega), Int.natCast_emod, Int.natCast_mul, Int.natCast_pow]; rfl
      · rw [Nat.min_eq_right hn]
        obtain ⟨q, hq⟩ := Nat.exists_eq_add_of_le hn
        rw [hq, Nat.pow_add, ← Nat.mul_assoc, Nat.mul_assoc x.toNat, Nat.mul_comm (2 ^ 8), ← Nat.mul_assoc, Nat.mul_mod_left]
        omega
    case h_2 x =>
      refine ⟨_, run_shift_shl (x := (x.toNat : Int)) (yk := k) hp, ?_⟩
      simp only [rel, Value.int.injEq, true_and, uwrap_u32, shl32, UInt32.toNat_ofNat', IntKind.bits]
      rcases Nat.lt_or_ge n.toNat 32 with hn | hn
      · rw [Nat.min_eq_left (by omega), Int.natCast_emod, Int.natCast_mul, Int.natCast_pow]; rfl
      · rw [Nat.min_eq_right hn]
        obtain ⟨q, hq⟩ := Nat.exists_eq_add_of_le hn
        rw [hq, Nat.pow_add, ← Nat.mul_assoc, Nat.mul_assoc x.toNat, Nat.mul_comm (2 ^ 32), ← Nat.mul_assoc, Nat.mul_mod_left]
        omega
    case h_3 x =>
      refine ⟨_, run_shift_shl (x := (x.toNat : Int)) (yk := k) hp, ?_⟩
      simp only [rel, Value.int.injEq, true_and, uwrap_u64, shl64, UInt64.toNat_ofNat', IntKind.bits]
      rcases Nat.lt_or_ge n.toNat 64 with hn | hn
      · rw [Nat.min_eq_left (by omega), Int.natCast_emod, Int.natCast_mul, Int.natCast_pow]; rfl
      · rw [Nat.min_eq_right hn]
        obtain ⟨q, hq⟩ := Nat.exists_eq_add_of_le hn
        rw [hq, Nat.pow_add, ← Nat.mul_assoc, Nat.mul_assoc x.toNat, Nat.mul_comm (2 ^ 64), ← Nat.mul_assoc, Nat.mul_mod_left]
        omega
    case h_4 x =>
      refine ⟨_, run_shift_shr (x := (x.toNat : Int)) (yk := k) hp, ?_⟩
      simp only [rel, Value.int.injEq, true_and, shr8, UInt8.toNat_ofNat', IntKind.bits]
      have hx := x.toNat_lt
      have e : x.toNat / 2 ^ n.toNat % 2 ^ 8 = x.toNat / 2 ^ min n.toNat 8 := by
        rw [Nat.mod_eq_of_lt (Nat.lt_of_le_of_lt (Nat.div_le_self _ _) hx)]
        rcases Nat.lt_or_ge n.toNat 8 with hn | hn
        · rw [Nat.min_eq_left (by omega)]
        · rw [Nat.min_eq_right hn, Nat.div_eq_of_lt hx, Nat.div_eq_of_lt (Nat.lt_of_lt_of_le hx (Nat.pow_le_pow_right (by decide) hn))]
      rw [e, Int.fdiv_eq_ediv_of_nonneg _ (Int.pow_nonneg (by decide))]
      push_cast; rfl
    case h_5 x =>
      refine ⟨_, run_shift_shr (x := (x.toNat : Int)) (yk := k) hp, ?_⟩
      simp only [rel, Value.int.injEq, true_and, shr32, UInt32.toNat_ofNat', IntKind.bits]
      have hx := x.toNat_lt
      have e : x.toNat / 2 ^ n.toNat % 2 ^ 32 = x.toNat / 2 ^ min n.toNat 32 := by
        rw [Nat.mod_eq_of_lt (Nat.lt_of_le_of_lt (Nat.div_le_self _ _) hx)]
        rcases Nat.lt_or_ge n.toNat 32 with hn | hn
        · rw [Nat.min_eq_left (by omega)]
        · rw [Nat.min_eq_right hn, Nat.div_eq_of_lt hx, Nat.div_eq_of_lt (Nat.lt_of_lt_of_le hx (Nat.pow_le_pow_right (by decide) hn))]
      rw [e, Int.fdiv_eq_ediv_of_nonneg _ (Int.pow_nonneg (by decide))]
      push_cast; rfl
    case h_6 x =>
      refine ⟨_, run_shift_shr (x := (x.toNat : Int)) (yk := k) hp, ?_⟩
      simp only [rel, Value.int.injEq, true_and, shr64, UInt64.toNat_ofNat', IntKind.bits]
      have hx := x.toNat_lt
      have e : x.toNat / 2 ^ n.toNat % 2 ^ 64 = x.toNat / 2 ^ min n.toNat 64 := by
        rw [Nat.mod_eq_of_lt (Nat.lt_of_le_of_lt (Nat.div_le_self _ _) hx)]
        rcases Nat.lt_or_ge n.toNat 64 with hn | hn
        · rw [Nat.min_eq_left (by omega)]
        · rw [Nat.min_eq_right hn, Nat.div_eq_of_lt hx, Nat.div_eq_of_lt (Nat.lt_of_lt_of_le hx (Nat.pow_le_pow_right (by decide) hn))]
      rw [e, Int.fdiv_eq_ediv_of_nonneg _ (Int.pow_nonneg (by decide))]
      push_cast; rfl
    case h_7 x => exact ⟨_, by simp [binOp]; exact run_shift_shl hp, by simp [rel, IntKind.bits]⟩
    case h_8 x => exact ⟨_, by simp [binOp]; exact run_shift_shr hp, by simp [rel, IntKind.bits]⟩

theorem run_boolEq {op : BinOp} {t : Nat} (ht : P.underlying t = some .bool) {x y : AV} {vx vy : Value} (rx : rel ρ I w x vx) (ry : rel ρ I w y vy) {p : Prop × AV} (h : aBoolEq op x y = some p) :
    ∃ z, (binOp op t vx vy).run P w = .ok z w ∧ rel ρ I w p.2 z := by
  unfold aBoolEq at h
  split at h <;> simp only [Option.some.injEq, reduceCtorEq] at h <;> subst h <;> (simp only [rel] at rx ry; subst rx ry)
  · exact ⟨_, run_eql_bool w t _ _ ht, by simp [rel]⟩
  · exact ⟨_, run_neq_bool w t _ _ ht, by simp [rel, bne]⟩

theorem toList_mk (l : List UInt8) : (⟨l.toArray⟩ : ByteArray).toList = l := by
  rw [ByteArray.toList_eq]

theorem run_str {op : BinOp} {t : Nat} {x y : AV} {vx vy : Value} (rx : rel ρ I w x vx) (ry : rel ρ I w y vy) {p : Prop × AV} (h : aStr op x y = some p) (hp : p.1) :
    ∃ z, (binOp op t vx vy).run P w = .ok z w ∧ rel ρ I w p.2 z := by
  have step : ∀ (x y : List UInt8), (binOp op t (.string ⟨x.toArray⟩) (.string ⟨y.toArray⟩)).run P w = (Op.stringOp op ⟨x.toArray⟩ ⟨y.toArray⟩).run P w := by
    intro x y; cases op <;> rfl
  unfold aStr at h
  split at h <;> simp only [Option.some.injEq, reduceCtorEq] at h <;> subst h <;> (simp only [rel] at rx ry; subst rx ry) <;> simp only at hp <;> rw [step]
  case h_1 x y =>
    refine ⟨.string (⟨x.toArray⟩ ++ ⟨y.toArray⟩), ?_, ?_⟩
    · have h1 : IntKind.i64.max = 9223372036854775807 := by decide
      have h2 : ¬ ((((⟨x.toArray⟩ : ByteArray).size + (⟨y.toArray⟩ : ByteArray).size : Nat) : Int) > IntKind.i64.max) := by
        simp only [ByteArray.size, List.size_toArray, h1]
        omega
      unfold Op.stringOp
      simp only [if_neg h2]
      rfl
    · simp only [rel, Value.string.injEq]
      apply ByteArray.ext
      simp
  case h_2 x y => exact ⟨.bool _, by simp only [Op.stringOp, toList_mk]; rfl, by simp [rel]⟩
  case h_3 x y => exact ⟨.bool _, by simp only [Op.stringOp, toList_mk]; rfl, by simp [rel, bne]⟩
  case h_4 x y => exact ⟨.bool _, by simp only [Op.stringOp, toList_mk]; rfl, by simp [rel]⟩
  case h_5 x y => exact ⟨.bool _, by simp only [Op.stringOp, toList_mk]; rfl, by simp [rel]⟩
  case h_6 x y => exact ⟨.bool _, by simp only [Op.stringOp, toList_mk]; rfl, by simp [rel]⟩
  case h_7 x y => exact ⟨.bool _, by simp only [Op.stringOp, toList_mk]; rfl, by simp [rel]⟩

theorem run_cvt {k : IntKind} {s d : Nat} {ds : TypeDesc} (hs : P.underlying s = some ds) (hd : P.underlying d = some (.int k)) {x v : AV} {vx : Value} (rx : rel ρ I w x vx) (h : cvt k x = some v) :
    ∃ z, (convert s d vx).run P w = .ok z w ∧ rel ρ I w v z := by
  have key : ∀ (k' : IntKind) (n : Int), vx = .int k' n → (convert s d vx).run P w = .ok (.int k (k.wrap n)) w := by
    rintro k' n rfl
    simp [convert, run_underlying hs, run_underlying hd, Conv.intToInt]
  unfold cvt at h
  split at h
  case h_15 =>
    split at h
    · rename_i k1 n hn
      simp only [Option.some.injEq] at h
      subst h
      exact ⟨_, key _ _ (rel_toI hn rx), by simp [rel]⟩
    · simp at h
  all_goals simp only [Option.some.injEq] at h
  all_goals subst h
  all_goals (simp only [rel] at rx; refine ⟨_, key _ _ rx, ?_⟩; simp only [rel, Value.int.injEq, true_and, uwrap_u8, uwrap_u32, uwrap_u64])
  case h_1 x => have := x.toNat_lt; omega
  case h_2 x => rw [UInt32.toNat_toUInt8]; omega
  case h_3 x => rw [UInt64.toNat_toUInt8]; omega
  case h_4 n => rw [UInt8.toNat_ofNat']; omega
  case h_5 x => have := x.toNat_lt; rw [UInt8.toNat_toUInt32]; omega
  case h_6 x => have := x.toNat_lt; omega
  case h_7 x => rw [UInt64.toNat_toUInt32]; omega
  case h_8 n => rw [UInt32.toNat_ofNat']; omega
  case h_9 x => have := x.toNat_lt; rw [UInt8.toNat_toUInt64]; omega
  case h_10 x => have := x.toNat_lt; rw [UInt32.toNat_toUInt64]; omega
  case h_11 x => have := x.toNat_lt; omega
  case h_12 n => rw [UInt64.toNat_ofNat']; omega
  case h_13 x => have := x.toNat_lt; simp only [IntKind.wrap, IntKind.bits, IntKind.signed]; simp; omega
  case h_14 x => have := x.toNat_lt; simp only [IntKind.wrap, IntKind.bits, IntKind.signed]; simp; omega

end
end Go.Ab
