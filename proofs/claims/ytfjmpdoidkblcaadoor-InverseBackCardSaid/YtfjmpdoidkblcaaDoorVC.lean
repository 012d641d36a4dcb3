/- The abstract layer (second state), part C: rows of cells taken apart and written. -/
import Derived.Test.YtfjmpdoidkblcaaDoorVD
set_option linter.unusedSimpArgs false
set_option linter.unusedVariables false
namespace Go.V
open Go

section
variable {P : Program} {ρ : Rho} {I : Imm} {w : World}

theorem v8_drop (l : List UInt8) (n : Nat) : (v8 l).drop n = v8 (l.drop n) := by simp [v8]
theorem v32_drop (l : List UInt32) (n : Nat) : (v32 l).drop n = v32 (l.drop n) := by simp [v32]
theorem v64_drop (l : List UInt64) (n : Nat) : (v64 l).drop n = v64 (l.drop n) := by simp [v64]
theorem v8_take (l : List UInt8) (n : Nat) : (v8 l).take n = v8 (l.take n) := by simp [v8]
theorem v32_take (l : List UInt32) (n : Nat) : (v32 l).take n = v32 (l.take n) := by simp [v32]
theorem v64_take (l : List UInt64) (n : Nat) : (v64 l).take n = v64 (l.take n) := by simp [v64]
theorem v8_append (l l' : List UInt8) : v8 l ++ v8 l' = v8 (l ++ l') := by simp [v8]
theorem v32_append (l l' : List UInt32) : v32 l ++ v32 l' = v32 (l ++ l') := by simp [v32]
theorem v64_append (l l' : List UInt64) : v64 l ++ v64 l' = v64 (l ++ l') := by simp [v64]
theorem v8_get {l : List UInt8} {i : Nat} (h : i < l.length) : (v8 l)[i]? = some (.int .u8 (l.getD i 0).toNat) := by simp [v8, List.getD, h]
theorem v32_get {l : List UInt32} {i : Nat} (h : i < l.length) : (v32 l)[i]? = some (.int .u32 (l.getD i 0).toNat) := by simp [v32, List.getD, h]
theorem v64_get {l : List UInt64} {i : Nat} (h : i < l.length) : (v64 l)[i]? = some (.int .u64 (l.getD i 0).toNat) := by simp [v64, List.getD, h]
theorem v8_set (l : List UInt8) (i : Nat) (x : UInt8) : (v8 l).set i (.int .u8 x.toNat) = v8 (l.set i x) := by simp [v8, List.map_set]
theorem v32_set (l : List UInt32) (i : Nat) (x : UInt32) : (v32 l).set i (.int .u32 x.toNat) = v32 (l.set i x) := by simp [v32, List.map_set]
theorem v64_set (l : List UInt64) (i : Nat) (x : UInt64) : (v64 l).set i (.int .u64 x.toNat) = v64 (l.set i x) := by simp [v64, List.map_set]

theorem leB_false {a b : Nat} (h : leB a b = false) : b < a := by
  apply Nat.lt_of_not_le; intro hc; rw [leB_of hc] at h; cases h
theorem beq0_false {n : Nat} (h : (n == 0) = false) : 0 < n := by
  have : n ≠ 0 := by simpa using h
  omega

theorem R_one {a : AV} {ys : List Value} (ha : isAg a = false) (h : R ρ I w a ys) : ∃ x, ys = [x] ∧ rel ρ I w a x := by
  cases a <;> simp only [isAg, reduceCtorEq] at ha
  case any => obtain ⟨x, rfl⟩ := h; exact ⟨x, rfl, rel_any⟩
  case raw v => cases h; exact ⟨v, rfl, rel_raw.2 rfl⟩
  case int k n => cases h; exact ⟨_, rfl, rel_int.2 rfl⟩
  case u8 x => cases h; exact ⟨_, rfl, rel_u8.2 rfl⟩
  case u32 x => cases h; exact ⟨_, rfl, rel_u32.2 rfl⟩
  case u64 x => cases h; exact ⟨_, rfl, rel_u64.2 rfl⟩
  case bool b => cases h; exact ⟨_, rfl, rel_bool.2 rfl⟩
  case str s => cases h; exact ⟨_, rfl, rel_str.2 rfl⟩
  all_goals (have h' := h; obtain ⟨v, rfl, _⟩ := h'; exact ⟨v, rfl, h⟩)

theorem rel_one {a : AV} {x : Value} (ha : isAg a = false) (h : rel ρ I w a x) : R ρ I w a [x] := by
  cases a <;> simp only [isAg, reduceCtorEq] at ha
  case any => exact ⟨x, rfl⟩
  all_goals exact h

theorem rel_ag {a : AV} {x : Value} (ha : isAg a = true) : rel ρ I w a x ↔ ∃ cs : Array Value, x = .agg cs ∧ R ρ I w a cs.toList := by
  cases a <;> simp only [isAg, reduceCtorEq] at ha <;> exact Iff.rfl

mutual
theorem R_split : ∀ (a : AV) (ys : List Value) (n : Nat), R ρ I w a ys → 0 < n → n < szA a → RL ρ I w (splitA a n) (ys.drop n)
  | .b8 m l, _, n, ⟨h, h'⟩, _, hn => by
    subst h
    exact ⟨_, [], by simp [v8_drop], ⟨rfl, by simp [h']⟩, rfl⟩
  | .w32 m l, _, n, ⟨h, h'⟩, _, hn => by
    subst h
    exact ⟨_, [], by simp [v32_drop], ⟨rfl, by simp [h']⟩, rfl⟩
  | .w64 m l, _, n, ⟨h, h'⟩, _, hn => by
    subst h
    exact ⟨_, [], by simp [v64_drop], ⟨rfl, by simp [h']⟩, rfl⟩
  | .agg l, _, n, h, _, hn => RL_drop l _ n h
  | .any, _, _, _, h1, h2 | .raw _, _, _, _, h1, h2 | .int _ _, _, _, _, h1, h2 | .u8 _, _, _, _, h1, h2 | .u32 _, _, _, _, h1, h2 | .u64 _, _, _, _, h1, h2 | .bool _, _, _, _, h1, h2 | .str _, _, _, _, h1, h2
  | .ptr _ _, _, _, _, h1, h2 | .pix _ _ _ _, _, _, _, h1, h2 | .sl _ _ _ _, _, _, _, h1, h2 | .vec8 _ _, _, _, _, h1, h2 | .vec _ _ _, _, _, _, h1, h2 | .vp _ _, _, _, _, h1, h2 | .vpx _ _ _ _, _, _, _, h1, h2
  | .fn _ _ _, _, _, _, h1, h2 | .tup _, _, _, _, h1, h2 => by simp only [szA] at h2; omega
theorem RL_drop : ∀ (c : List AV) (vs : List Value) (n : Nat), RL ρ I w c vs → RL ρ I w (dropL c n) (vs.drop n)
  | [], _, n, h => by cases h; simp [dropL, RL]
  | a :: as, _, n, ⟨ys, zs, h0, h1, h2⟩ => by
    subst h0
    have hl := R_len a ys h1
    simp only [dropL]
    cases hn : n == 0 with
    | true =>
      simp only [cond_true]
      obtain rfl : n = 0 := by simpa using hn
      exact ⟨ys, zs, by simp, h1, h2⟩
    | false =>
      simp only [cond_false]
      have hp := beq0_false hn
      cases hs : leB (szA a) n with
      | true =>
        simp only [cond_true]
        have hle := leB_iff.1 hs
        have := RL_drop as zs (n - szA a) h2
        rw [List.drop_append, List.drop_eq_nil_of_le (by omega), List.nil_append, hl]
        exact this
      | false =>
        simp only [cond_false]
        have hlt := leB_false hs
        rw [List.drop_append_of_le_length (by omega)]
        exact RL_append (R_split a ys n h1 hp hlt) h2
end

mutual
theorem R_first : ∀ (a : AV) (ys : List Value) (n : Nat), R ρ I w a ys → 0 < n → n < szA a → RL ρ I w (firstA a n) (ys.take n)
  | .b8 m l, _, n, ⟨h, h'⟩, _, hn => by
    subst h
    simp only [szA] at hn
    exact ⟨_, [], by simp [v8_take], ⟨rfl, by simp [h']; omega⟩, rfl⟩
  | .w32 m l, _, n, ⟨h, h'⟩, _, hn => by
    subst h
    simp only [szA] at hn
    exact ⟨_, [], by simp [v32_take], ⟨rfl, by simp [h']; omega⟩, rfl⟩
  | .w64 m l, _, n, ⟨h, h'⟩, _, hn => by
    subst h
    simp only [szA] at hn
    exact ⟨_, [], by simp [v64_take], ⟨rfl, by simp [h']; omega⟩, rfl⟩
  | .agg l, _, n, h, _, hn => RL_take l _ n h
  | .any, _, _, _, h1, h2 | .raw _, _, _, _, h1, h2 | .int _ _, _, _, _, h1, h2 | .u8 _, _, _, _, h1, h2 | .u32 _, _, _, _, h1, h2 | .u64 _, _, _, _, h1, h2 | .bool _, _, _, _, h1, h2 | .str _, _, _, _, h1, h2
  | .ptr _ _, _, _, _, h1, h2 | .pix _ _ _ _, _, _, _, h1, h2 | .sl _ _ _ _, _, _, _, h1, h2 | .vec8 _ _, _, _, _, h1, h2 | .vec _ _ _, _, _, _, h1, h2 | .vp _ _, _, _, _, h1, h2 | .vpx _ _ _ _, _, _, _, h1, h2
  | .fn _ _ _, _, _, _, h1, h2 | .tup _, _, _, _, h1, h2 => by simp only [szA] at h2; omega
theorem RL_take : ∀ (c : List AV) (vs : List Value) (n : Nat), RL ρ I w c vs → RL ρ I w (takeL c n) (vs.take n)
  | [], _, n, h => by cases h; simp [takeL, RL]
  | a :: as, _, n, ⟨ys, zs, h0, h1, h2⟩ => by
    subst h0
    have hl := R_len a ys h1
    simp only [takeL]
    cases hn : n == 0 with
    | true =>
      simp only [cond_true]
      obtain rfl : n = 0 := by simpa using hn
      simp [RL]
    | false =>
      simp only [cond_false]
      have hp := beq0_false hn
      cases hs : leB (szA a) n with
      | true =>
        simp only [cond_true]
        have hle := leB_iff.1 hs
        rw [List.take_append, List.take_of_length_le (by omega), hl]
        exact ⟨ys, _, rfl, h1, RL_take as zs (n - szA a) h2⟩
      | false =>
        simp only [cond_false]
        have hlt := leB_false hs
        rw [List.take_append_of_le_length (by omega)]
        exact R_first a ys n h1 hp hlt
end

mutual
theorem headA_sound : ∀ (a : AV) (ys : List Value) (v : AV), R ρ I w a ys → headA a = some v → ∃ x xs, ys = x :: xs ∧ rel ρ I w v x ∧ isAg v = false
  | .b8 m l, _, v, ⟨h, h'⟩, hv => by
    subst h
    simp only [headA] at hv
    cases hm : m == 0 <;> rw [hm] at hv <;> simp only [cond_true, cond_false, reduceCtorEq, Option.some.injEq] at hv
    subst hv
    have := beq0_false hm
    match l, h' with
    | [], h' => simp at h'; omega
    | x :: l, _ => exact ⟨_, _, rfl, rel_u8.2 rfl, rfl⟩
  | .w32 m l, _, v, ⟨h, h'⟩, hv => by
    subst h
    simp only [headA] at hv
    cases hm : m == 0 <;> rw [hm] at hv <;> simp only [cond_true, cond_false, reduceCtorEq, Option.some.injEq] at hv
    subst hv
    have := beq0_false hm
    match l, h' with
    | [], h' => simp at h'; omega
    | x :: l, _ => exact ⟨_, _, rfl, rel_u32.2 rfl, rfl⟩
  | .w64 m l, _, v, ⟨h, h'⟩, hv => by
    subst h
    simp only [headA] at hv
    cases hm : m == 0 <;> rw [hm] at hv <;> simp only [cond_true, cond_false, reduceCtorEq, Option.some.injEq] at hv
    subst hv
    have := beq0_false hm
    match l, h' with
    | [], h' => simp at h'; omega
    | x :: l, _ => exact ⟨_, _, rfl, rel_u64.2 rfl, rfl⟩
  | .agg l, _, v, h, hv => headL_sound l _ v h (by simpa only [headA] using hv)
  | .any, _, _, h, hv | .raw _, _, _, h, hv | .int _ _, _, _, h, hv | .u8 _, _, _, h, hv | .u32 _, _, _, h, hv | .u64 _, _, _, h, hv | .bool _, _, _, h, hv | .str _, _, _, h, hv
  | .ptr _ _, _, _, h, hv | .pix _ _ _ _, _, _, h, hv | .sl _ _ _ _, _, _, h, hv | .vec8 _ _, _, _, h, hv | .vec _ _ _, _, _, h, hv | .vp _ _, _, _, h, hv | .vpx _ _ _ _, _, _, h, hv
  | .fn _ _ _, _, _, h, hv | .tup _, _, _, h, hv => by
    simp only [headA, Option.some.injEq] at hv
    subst hv
    obtain ⟨x, rfl, hr⟩ := R_one rfl h
    exact ⟨x, [], rfl, hr, rfl⟩
theorem headL_sound : ∀ (c : List AV) (vs : List Value) (v : AV), RL ρ I w c vs → headL c = some v → ∃ x xs, vs = x :: xs ∧ rel ρ I w v x ∧ isAg v = false
  | [], _, _, _, hv => by simp [headL] at hv
  | a :: as, _, v, ⟨ys, zs, h0, h1, h2⟩, hv => by
    subst h0
    obtain ⟨x, xs, rfl, hr, hi⟩ := headA_sound a ys v h1 (by simpa only [headL] using hv)
    exact ⟨x, xs ++ zs, rfl, hr, hi⟩
end

theorem mkAg_sound {l : List AV} {cs : List Value} (h : RL ρ I w l cs) : rel ρ I w (mkAg l) (.agg cs.toArray) := by
  have one : ∀ a, RL ρ I w [a] cs → R ρ I w a cs := by
    rintro a ⟨ys, zs, h0, h1, h2⟩
    cases h2
    simpa [h0] using h1
  unfold mkAg
  split
  · exact ⟨_, rfl, one _ h⟩
  · exact ⟨_, rfl, one _ h⟩
  · exact ⟨_, rfl, one _ h⟩
  · exact ⟨_, rfl, one _ h⟩
  · exact ⟨_, rfl, h⟩

theorem drop_head {vs : List Value} {off : Nat} {x : Value} {xs : List Value} (h : vs.drop off = x :: xs) : vs[off]? = some x := by
  have := congrArg (·[0]?) h
  simpa using this

/-- A part of a row. -/
theorem cut1_sound {ti : TI} {c : List AV} {vs : List Value} {off : Nat} {p : Bool × AV} (h : RL ρ I w c vs) (hc : cut1 ti c off = some p) (hp : p.1 = true) :
    (ti.kind.isAgg = true → off + ti.size ≤ vs.length ∧ rel ρ I w p.2 (.agg ((vs.drop off).take ti.size).toArray)) ∧
    (ti.kind.isAgg = false → ∃ x, vs[off]? = some x ∧ rel ρ I w p.2 x ∧ isAg p.2 = false) := by
  unfold cut1 at hc
  cases hk : ti.kind.isAgg with
  | true =>
    rw [hk] at hc
    simp only [cond_true, Option.some.injEq] at hc
    subst hc
    refine ⟨fun _ => ⟨?_, mkAg_sound (RL_take _ _ _ (RL_drop _ _ _ h))⟩, fun h => (by cases h)⟩
    have := leB_iff.1 hp
    rwa [RL_len _ _ h]
  | false =>
    rw [hk] at hc
    simp only [cond_false] at hc
    split at hc
    · rename_i a ha
      simp only [Option.some.injEq] at hc
      subst hc
      obtain ⟨x, xs, h1, h2, h3⟩ := headL_sound _ _ _ (RL_drop c vs off h) ha
      exact ⟨fun h => (by cases h), fun _ => ⟨x, drop_head h1, h2, h3⟩⟩
    · simp at hc

theorem RL_head {a : AV} {as : List AV} {vs : List Value} (h : RL ρ I w (a :: as) vs) : ∃ ys zs, vs = ys ++ zs ∧ R ρ I w a ys ∧ RL ρ I w as zs := RL_cons.1 h

/-- A cell at a place that may be a variable. -/
theorem cellX_sound {c : List AV} {vs : List Value} {off n : Nat} {i : Int} {v : AV} (h : RL ρ I w c vs) (hi : 0 ≤ i ∧ i < n) (hc : cellX c off n i = some v) :
    ∃ x, vs[off + i.toNat]? = some x ∧ rel ρ I w v x ∧ isAg v = false := by
  have hd := RL_drop c vs off h
  have key : ∀ (ys zs : List Value) (x : Value), vs.drop off = ys ++ zs → ys[i.toNat]? = some x → vs[off + i.toNat]? = some x := by
    intro ys zs x h1 h2
    rw [← List.getElem?_drop, h1, List.getElem?_append_left (List.getElem?_eq_some_iff.1 h2).1, h2]
  unfold cellX at hc
  split at hc
  · rename_i m l as hh
    rw [hh] at hd
    obtain ⟨ys, zs, h0, ⟨rfl, h1⟩, _⟩ := RL_head hd
    cases hn : leB n m <;> rw [hn] at hc <;> simp only [cond_true, cond_false, reduceCtorEq, Option.some.injEq] at hc
    subst hc
    have := leB_iff.1 hn
    exact ⟨_, key _ _ _ h0 (v8_get (by omega)), rel_u8.2 rfl, rfl⟩
  · rename_i m l as hh
    rw [hh] at hd
    obtain ⟨ys, zs, h0, ⟨rfl, h1⟩, _⟩ := RL_head hd
    cases hn : leB n m <;> rw [hn] at hc <;> simp only [cond_true, cond_false, reduceCtorEq, Option.some.injEq] at hc
    subst hc
    have := leB_iff.1 hn
    exact ⟨_, key _ _ _ h0 (v32_get (by omega)), rel_u32.2 rfl, rfl⟩
  · rename_i m l as hh
    rw [hh] at hd
    obtain ⟨ys, zs, h0, ⟨rfl, h1⟩, _⟩ := RL_head hd
    cases hn : leB n m <;> rw [hn] at hc <;> simp only [cond_true, cond_false, reduceCtorEq, Option.some.injEq] at hc
    subst hc
    have := leB_iff.1 hn
    exact ⟨_, key _ _ _ h0 (v64_get (by omega)), rel_u64.2 rfl, rfl⟩
  · obtain ⟨x, xs, h1, h2, h3⟩ := headL_sound _ _ _ (RL_drop c vs (off + i.toNat) h) hc
    exact ⟨x, drop_head h1, h2, h3⟩

theorem cellX1_sound {c : List AV} {vs : List Value} {off n : Nat} {i : Int} {p : Bool × AV} (h : RL ρ I w c vs) (hi : 0 ≤ i ∧ i < n) (hc : cellX1 c off n i = some p) (hp : p.1 = true) :
    ∃ x, vs[off + i.toNat]? = some x ∧ rel ρ I w p.2 x := by
  unfold cellX1 at hc
  split at hc
  · simp only [Option.some.injEq] at hc
    subst hc
    have := leB_iff.1 hp
    obtain ⟨ys, zs, rfl, ⟨rfl, h1⟩, h2⟩ := RL_head h
    cases h2
    rw [List.append_nil, ofs_eq]
    exact ⟨_, v8_get (by omega), rel_u8.2 rfl⟩
  · simp only [Option.some.injEq] at hc
    subst hc
    have := leB_iff.1 hp
    obtain ⟨ys, zs, rfl, ⟨rfl, h1⟩, h2⟩ := RL_head h
    cases h2
    rw [List.append_nil, ofs_eq]
    exact ⟨_, v32_get (by omega), rel_u32.2 rfl⟩
  · simp only [Option.some.injEq] at hc
    subst hc
    have := leB_iff.1 hp
    obtain ⟨ys, zs, rfl, ⟨rfl, h1⟩, h2⟩ := RL_head h
    cases h2
    rw [List.append_nil, ofs_eq]
    exact ⟨_, v64_get (by omega), rel_u64.2 rfl⟩
  · split at hc
    · rename_i v hv
      simp only [Option.some.injEq] at hc
      subst hc
      obtain ⟨x, h1, h2, _⟩ := cellX_sound h hi hv
      exact ⟨x, h1, h2⟩
    · simp at hc

def spliceV (c : List Value) (off : Nat) (l : List Value) : List Value := c.take off ++ (l ++ c.drop (off + l.length))

theorem length_spliceV {c l : List Value} {off : Nat} (h : off + l.length ≤ c.length) : (spliceV c off l).length = c.length := by
  simp [spliceV]; omega
theorem spliceV_left {ys zs xs : List Value} {off : Nat} (h : off + xs.length ≤ ys.length) : spliceV (ys ++ zs) off xs = spliceV ys off xs ++ zs := by
  simp only [spliceV]
  rw [List.take_append_of_le_length (by omega), List.drop_append_of_le_length (by omega)]
  simp
theorem spliceV_right {ys zs xs : List Value} {off : Nat} (h : ys.length ≤ off) : spliceV (ys ++ zs) off xs = ys ++ spliceV zs (off - ys.length) xs := by
  simp only [spliceV]
  rw [List.take_append, List.take_of_length_le (by omega), List.drop_append, List.drop_eq_nil_of_le (by omega), List.nil_append, List.append_assoc,
    show off + xs.length - ys.length = off - ys.length + xs.length by omega]
theorem spliceV_one {c : List Value} {off : Nat} (x : Value) (h : off < c.length) : spliceV c off [x] = c.set off x := by
  rw [List.set_eq_take_append_cons_drop, if_pos h]
  simp [spliceV]

theorem setSeg_sound {a : AV} {ys : List Value} {off : Nat} {v r : AV} {xs : List Value} (h : R ρ I w a ys) (hv : R ρ I w v xs) (hs : setSeg a off v = some r) (hle : off + szA v ≤ szA a) :
    R ρ I w r (spliceV ys off xs) := by
  have hl := R_len _ _ h
  have hx := R_len _ _ hv
  unfold setSeg at hs
  split at hs <;> simp only [Option.some.injEq, reduceCtorEq] at hs <;> subst hs
  · obtain ⟨rfl, h1⟩ := h
    cases hv
    simp only [szA] at hle
    rw [spliceV_one _ (by rw [length_v8]; omega), v8_set]
    exact ⟨rfl, by simpa using h1⟩
  · obtain ⟨rfl, h1⟩ := h
    cases hv
    simp only [szA] at hle
    rw [spliceV_one _ (by rw [length_v32]; omega), v32_set]
    exact ⟨rfl, by simpa using h1⟩
  · obtain ⟨rfl, h1⟩ := h
    cases hv
    simp only [szA] at hle
    rw [spliceV_one _ (by rw [length_v64]; omega), v64_set]
    exact ⟨rfl, by simpa using h1⟩
  · obtain ⟨rfl, h1⟩ := h
    obtain ⟨rfl, h2⟩ := hv
    simp only [szA] at hle
    refine ⟨by simp only [spliceV, v8_take, v8_drop, v8_append, length_v8, h2], by simp; omega⟩
  · obtain ⟨rfl, h1⟩ := h
    obtain ⟨rfl, h2⟩ := hv
    simp only [szA] at hle
    refine ⟨by simp only [spliceV, v64_take, v64_drop, v64_append, length_v64, h2], by simp; omega⟩
  · obtain ⟨rfl, h1⟩ := h
    obtain ⟨rfl, h2⟩ := hv
    simp only [szA] at hle
    refine ⟨by simp only [spliceV, v32_take, v32_drop, v32_append, length_v32, h2], by simp; omega⟩

/-- Rows of numbers, split at both ends. -/
theorem seg_sound {a : AV} {ys : List Value} {off : Nat} {v : AV} {xs : List Value} (h : R ρ I w a ys) (hv : R ρ I w v xs) (hle : off + szA v ≤ szA a) (hd : ∀ n, RL ρ I w (splitA a n) (ys.drop n)) (hf : ∀ n, n ≤ szA a → RL ρ I w (firstA a n) (ys.take n)) :
    R ρ I w (match setSeg a off v with | some r => r | none => .agg (firstA a off ++ (v :: splitA a (off + szA v)))) (spliceV ys off xs) := by
  split
  · rename_i r hr; exact setSeg_sound h hv hr hle
  · have hx := R_len _ _ hv
    simp only [spliceV, hx]
    exact RL_append (hf off (by omega)) (RL_cons.2 ⟨xs, _, rfl, hv, hd _⟩)

mutual
theorem R_set : ∀ (a : AV) (ys : List Value) (off : Nat) (v : AV) (xs : List Value), R ρ I w a ys → R ρ I w v xs → off + szA v ≤ szA a → 0 < szA v → isAg a = true → R ρ I w (setA a off v) (spliceV ys off xs)
  | .agg l, ys, off, v, xs, h, hv, hle, h0, _ => by
    simp only [setA]
    exact RL_set l ys off v xs h hv (by simpa only [szA] using hle) h0
  | .b8 m l, _, off, v, xs, h, hv, hle, _, _ => by
    obtain ⟨rfl, h'⟩ := h
    exact seg_sound (a := .b8 m l) ⟨rfl, h'⟩ hv hle (fun n => ⟨_, [], by simp [v8_drop], ⟨rfl, by simp [h']⟩, rfl⟩) (fun n hn => ⟨_, [], by simp [v8_take], ⟨rfl, by simp only [szA] at hn; simp [h']; omega⟩, rfl⟩)
  | .w32 m l, _, off, v, xs, h, hv, hle, _, _ => by
    obtain ⟨rfl, h'⟩ := h
    exact seg_sound (a := .w32 m l) ⟨rfl, h'⟩ hv hle (fun n => ⟨_, [], by simp [v32_drop], ⟨rfl, by simp [h']⟩, rfl⟩) (fun n hn => ⟨_, [], by simp [v32_take], ⟨rfl, by simp only [szA] at hn; simp [h']; omega⟩, rfl⟩)
  | .w64 m l, _, off, v, xs, h, hv, hle, _, _ => by
    obtain ⟨rfl, h'⟩ := h
    exact seg_sound (a := .w64 m l) ⟨rfl, h'⟩ hv hle (fun n => ⟨_, [], by simp [v64_drop], ⟨rfl, by simp [h']⟩, rfl⟩) (fun n hn => ⟨_, [], by simp [v64_take], ⟨rfl, by simp only [szA] at hn; simp [h']; omega⟩, rfl⟩)
  | .any, _, _, _, _, _, _, _, _, h | .raw _, _, _, _, _, _, _, _, _, h | .int _ _, _, _, _, _, _, _, _, _, h | .u8 _, _, _, _, _, _, _, _, _, h | .u32 _, _, _, _, _, _, _, _, _, h | .u64 _, _, _, _, _, _, _, _, _, h | .bool _, _, _, _, _, _, _, _, _, h | .str _, _, _, _, _, _, _, _, _, h
  | .ptr _ _, _, _, _, _, _, _, _, _, h | .pix _ _ _ _, _, _, _, _, _, _, _, _, h | .sl _ _ _ _, _, _, _, _, _, _, _, _, h | .vec8 _ _, _, _, _, _, _, _, _, _, h | .vec _ _ _, _, _, _, _, _, _, _, _, h | .vp _ _, _, _, _, _, _, _, _, _, h | .vpx _ _ _ _, _, _, _, _, _, _, _, _, h
  | .fn _ _ _, _, _, _, _, _, _, _, _, h | .tup _, _, _, _, _, _, _, _, _, h => by simp [isAg] at h
theorem RL_set : ∀ (c : List AV) (vs : List Value) (off : Nat) (v : AV) (xs : List Value), RL ρ I w c vs → R ρ I w v xs → off + szA v ≤ szL c → 0 < szA v → RL ρ I w (setL c off v) (spliceV vs off xs)
  | [], vs, off, v, xs, h, hv, hle, _ => by
    cases h
    have hx := R_len _ _ hv
    simp only [szL] at hle
    have : xs = [] := List.eq_nil_of_length_eq_zero (by omega)
    subst this
    simp [setL, spliceV, RL]
  | a :: as, _, off, v, xs, ⟨ys, zs, h0, h1, h2⟩, hv, hle, hz => by
    subst h0
    have hl := R_len a ys h1
    have hx := R_len v xs hv
    simp only [szL] at hle
    simp only [setL]
    cases hs : leB (szA a) off with
    | true =>
      simp only [cond_true]
      have hle' := leB_iff.1 hs
      rw [spliceV_right (by omega), hl]
      exact RL_cons.2 ⟨ys, _, rfl, h1, RL_set as zs (off - szA a) v xs h2 hv (by omega) hz⟩
    | false =>
      simp only [cond_false]
      have hlt := leB_false hs
      cases ht : leB (off + szA v) (szA a) with
      | true =>
        simp only [cond_true]
        have hin := leB_iff.1 ht
        rw [spliceV_left (by omega)]
        cases he : (off == 0 && szA v == szA a) with
        | true =>
          simp only [cond_true]
          simp only [Bool.and_eq_true, beq_iff_eq] at he
          obtain ⟨rfl, he⟩ := he
          have : spliceV ys 0 xs = xs := by simp [spliceV]; omega
          rw [this]
          exact RL_cons.2 ⟨xs, zs, rfl, hv, h2⟩
        | false =>
          simp only [cond_false]
          refine RL_cons.2 ⟨_, zs, rfl, ?_, h2⟩
          cases hi : isAg a with
          | true => exact R_set a ys off v xs h1 hv hin hz hi
          | false =>
            exfalso
            obtain ⟨x, rfl, _⟩ := R_one hi h1
            simp only [List.length_singleton] at hl
            simp only [Bool.and_eq_false_iff, beq_eq_false_iff_ne] at he
            have hsv : szA v = 0 := by omega
            have : off = 0 := by omega
            omega
      | false =>
        simp only [cond_false]
        have hout := leB_false ht
        have e : spliceV (ys ++ zs) off xs = ys.take off ++ (xs ++ zs.drop (off + szA v - szA a)) := by
          simp only [spliceV, hx]
          rw [List.take_append_of_le_length (by omega), List.drop_append, List.drop_eq_nil_of_le (by omega), List.nil_append, hl]
        rw [e]
        refine RL_append ?_ (RL_cons.2 ⟨xs, _, rfl, hv, RL_drop as zs _ h2⟩)
        cases ho : off == 0 with
        | true =>
          obtain rfl : off = 0 := by simpa using ho
          simp [RL]
        | false => exact R_first a ys off h1 (beq0_false ho) hlt
end

end
end Go.V
