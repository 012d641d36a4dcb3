/- The abstract layer, part F: operations, code, calls. -/
import Derived.Test.YtfjmpdoidkblcaaDoorAbsE
set_option linter.unusedSimpArgs false
set_option linter.unusedVariables false
namespace Go.Ab
open Go

section
variable {P : Program} {G : Glob} {ρ : Rho} {I : Imm} {H : Heap} {w : World}

theorem eqGuard_ok (op : BinOp) (t : TypeId) (x y : Operand) {a b : Value} (h1 : ∀ cs, a ≠ .agg cs) (h2 : a ≠ .nilIface) : (eqGuard op t x y a b).run P w = .ok () w := by
  cases op <;> simp only [eqGuard] <;> first | rfl | (cases a <;> first | rfl | exact absurd rfl h2 | exact absurd rfl (h1 _))

/-- Is it neither a struct or an array nor something unknown? -/
def plainA : AV → Bool
  | .int .. | .u8 _ | .u32 _ | .u64 _ | .bool _ | .str _ => true
  | _ => false

theorem plainA_sound {a : AV} {v : Value} (r : rel ρ I w a v) (h : plainA a = true) : (∀ cs, v ≠ .agg cs) ∧ v ≠ .nilIface := by
  cases a <;> simp [plainA] at h <;> (obtain rfl := r; exact ⟨fun _ h => (by cases h), fun h => (by cases h)⟩)

theorem toI_plain {a : AV} {k : IntKind} {n : Int} (h : a.toI = some (k, n)) : plainA a = true := by
  cases a <;> simp_all [AV.toI, plainA]

theorem aArith_plain {op : BinOp} {a b : AV} {p : Prop × AV} (h : aArith op a b = some p) : plainA a = true := by
  unfold aArith at h
  split at h <;> first | rfl | simp at h

theorem aShift_plain {op : BinOp} {a b : AV} {p : Prop × AV} (h : aShift op a b = some p) : plainA a = true := by
  unfold aShift at h
  split at h
  · simp at h
  · split at h <;> first | rfl | simp at h

theorem aCmp_plain {op : BinOp} {a b : AV} {p : Prop × AV} (h : aCmp op a b = some p) : plainA a = true := by
  unfold aCmp at h
  split at h
  · rename_i ha _; exact toI_plain ha
  · simp at h

theorem aBoolEq_plain {op : BinOp} {a b : AV} {p : Prop × AV} (h : aBoolEq op a b = some p) : plainA a = true := by
  unfold aBoolEq at h
  split at h <;> first | rfl | simp at h

theorem aStr_plain {op : BinOp} {a b : AV} {p : Prop × AV} (h : aStr op a b = some p) : plainA a = true := by
  unfold aStr at h
  split at h <;> first | rfl | simp at h

theorem beq_toNat8 (x y : UInt8) : ((x.toNat : Int) == (y.toNat : Int)) = (x == y) := by
  rw [Bool.eq_iff_iff, beq_iff_eq, beq_iff_eq, ← UInt8.toNat_inj]; omega
theorem beq_toNat32 (x y : UInt32) : ((x.toNat : Int) == (y.toNat : Int)) = (x == y) := by
  rw [Bool.eq_iff_iff, beq_iff_eq, beq_iff_eq, ← UInt32.toNat_inj]; omega
theorem beq_toNat64 (x y : UInt64) : ((x.toNat : Int) == (y.toNat : Int)) = (x == y) := by
  rw [Bool.eq_iff_iff, beq_iff_eq, beq_iff_eq, ← UInt64.toNat_inj]; omega
theorem beq_bytes (x y : List UInt8) : ((⟨x.toArray⟩ : ByteArray) == ⟨y.toArray⟩) = (x == y) := by
  have h : ((⟨x.toArray⟩ : ByteArray) == ⟨y.toArray⟩) = (x.toArray == y.toArray) := rfl
  rw [h, Bool.eq_iff_iff, beq_iff_eq, beq_iff_eq]
  exact ⟨fun h => by simpa using h, fun h => by rw [h]⟩
theorem aeqK_sound {t : Nat} {d : TypeDesc} (hd : P.underlying t = some d) {k : TK} (hk : k = TK.of d) {a b : AV} {va vb : Value} (ra : rel ρ I w a va) (rb : rel ρ I w b vb) {r : Bool} (h : aeqK k a b = some r) (D : Nat) :
    (Op.equalIn (D + 1) t va vb).run P w = .ok r w := by
  subst hk
  cases d
  case int q =>
    unfold aeqK at h
    split at h
    all_goals (try (rename_i hk; simp [TK.of] at hk; done))
    case h_1 => obtain rfl := ra; obtain rfl := rb; simp only [Option.some.injEq] at h; subst h; simp [Op.equalIn, run_underlying hd, beq_toNat8]
    case h_2 => obtain rfl := ra; obtain rfl := rb; simp only [Option.some.injEq] at h; subst h; simp [Op.equalIn, run_underlying hd, beq_toNat32]
    case h_3 => obtain rfl := ra; obtain rfl := rb; simp only [Option.some.injEq] at h; subst h; simp [Op.equalIn, run_underlying hd, beq_toNat64]
    case h_4 =>
      obtain rfl := ra; obtain rfl := rb
      split at h
      · rename_i hkk
        subst hkk
        simp only [Option.some.injEq] at h
        subst h
        simp [Op.equalIn, run_underlying hd]
      · simp at h
    all_goals simp at h
  case bool =>
    simp only [TK.of] at h
    unfold aeqK at h
    split at h
    all_goals (try (rename_i hk; simp at hk; done))
    case h_5 => obtain rfl := ra; obtain rfl := rb; simp only [Option.some.injEq] at h; subst h; simp [Op.equalIn, run_underlying hd]
    all_goals simp at h
  case string =>
    simp only [TK.of] at h
    unfold aeqK at h
    split at h
    all_goals (try (rename_i hk; simp at hk; done))
    case h_6 => obtain rfl := ra; obtain rfl := rb; simp only [Option.some.injEq] at h; subst h; simp [Op.equalIn, run_underlying hd, beq_bytes]
    all_goals simp at h
  all_goals simp [TK.of, aeqK] at h
theorem rowEq_sound {e : Nat} {d : TypeDesc} (hd : P.underlying e = some d) {k : TK} (hk : k = TK.of d) (hagg : k.isAgg = false) (D : Nat) {xs ys : List Value} : ∀ {l l' : List AV} {vs vs' : List Value} {r : Bool} (i : Nat),
    relL ρ I w l vs → relL ρ I w l' vs' → xs.drop i = vs → ys.drop i = vs' → rowEq k l l' = some r → (Op.eqItems (D + 1) e 1 xs.toArray ys.toArray (List.range' i l.length)).run P w = .ok r w
  | [], l', vs, vs', r, i, h1, h2, e1, e2, h => by
    cases l' with
    | nil => simp [rowEq] at h; subst h; simp [Op.eqItems]
    | cons => simp [rowEq] at h
  | a :: l, l', vs, vs', r, i, h1, h2, e1, e2, h => by
    cases l' with
    | nil => simp [rowEq] at h
    | cons b l' =>
      obtain ⟨x, xs', rfl, rx, h1⟩ := relL_cons.1 h1
      obtain ⟨y, ys', rfl, ry, h2⟩ := relL_cons.1 h2
      unfold rowEq at h
      split at h
      · rename_i r1 s hr1 hs
        simp only [Option.some.injEq] at h
        subst h
        have hx : xs[i]? = some x := by have := congrArg (·[0]?) e1; simpa using this
        have hy : ys[i]? = some y := by have := congrArg (·[0]?) e2; simpa using this
        have px : (part e xs.toArray (i * 1)).run P w = .ok x w := by subst hk; simp [part, run_isAgg hd, hagg, hx]
        have py : (part e ys.toArray (i * 1)).run P w = .ok y w := by subst hk; simp [part, run_isAgg hd, hagg, hy]
        have e1' : xs.drop (i + 1) = xs' := by rw [← List.tail_drop, e1]; rfl
        have e2' : ys.drop (i + 1) = ys' := by rw [← List.tail_drop, e2]; rfl
        have ih := rowEq_sound hd hk hagg D (i + 1) h1 h2 e1' e2' hs
        simp only [List.length_cons, List.range'_succ, Op.eqItems, Sem.run_bind, px, py, Result.andThen_ok, aeqK_sound hd hk rx ry hr1 D]
        cases r1
        · simp
        · simpa using ih
      · simp at h
theorem range'_eq (n : Nat) : List.range n = List.range' 0 n := List.range_eq_range'
theorem aeqIs_sound {f : AV → AV → Option (Prop × Bool)} {e sz D : Nat} {xs ys : List AV} {vs vs' : List Value} (h1 : relL ρ I w xs vs) (h2 : relL ρ I w ys vs')
    (hf : ∀ a b p, f a b = some p → p.1 → ∀ va vb, rel ρ I w a va → rel ρ I w b vb → (Op.equalIn D e va vb).run P w = .ok p.2 w) : ∀ {is : List Nat} {p : Prop × Bool}, aeqIs P f e sz xs ys is = some p → p.1 →
    (Op.eqItems D e sz vs.toArray vs'.toArray is).run P w = .ok p.2 w
  | [], p, h, _ => by simp [aeqIs] at h; subst h; simp [Op.eqItems]
  | i :: is, p, h, hp => by
    unfold aeqIs at h
    split at h
    · rename_i c a c' b ha hb
      split at h
      · rename_i d r d' s hr hs
        simp only [Option.some.injEq] at h
        subst h
        obtain ⟨⟨hc, hc'⟩, hd, hd'⟩ := hp
        obtain ⟨va, pa, ra⟩ := run_part h1 ha hc
        obtain ⟨vb, pb, rb⟩ := run_part h2 hb hc'
        have e1 := hf a b _ hr hd va vb ra rb
        have ih := aeqIs_sound h1 h2 hf hs hd'
        simp only [Op.eqItems, Sem.run_bind, pa, pb, Result.andThen_ok, e1]
        cases r
        · simp
        · simpa using ih
      · simp at h
    · simp at h
theorem aeqFs_sound {f : Nat → AV → AV → Option (Prop × Bool)} {D : Nat} {xs ys : List AV} {vs vs' : List Value} (h1 : relL ρ I w xs vs) (h2 : relL ρ I w ys vs')
    (hf : ∀ t a b p, f t a b = some p → p.1 → ∀ va vb, rel ρ I w a va → rel ρ I w b vb → (Op.equalIn D t va vb).run P w = .ok p.2 w) : ∀ {fs : List Field} {p : Prop × Bool},
    aeqFs P f xs ys (fs.map fun f => (f.offset, f.type)) = some p → p.1 → (fs.all fun f => f.name != "_") = true →
    (Op.eqFields D vs.toArray vs'.toArray fs).run P w = .ok p.2 w
  | [], p, h, _, _ => by simp [aeqFs] at h; subst h; simp [Op.eqFields]
  | g :: fs, p, h, hp, hn => by
    rw [List.map_cons] at h
    unfold aeqFs at h
    simp only [List.all_cons, Bool.and_eq_true, bne_iff_ne] at hn
    split at h
    · rename_i c a c' b ha hb
      split at h
      · rename_i d r d' s hr hs
        simp only [Option.some.injEq] at h
        subst h
        obtain ⟨⟨hc, hc'⟩, hd, hd'⟩ := hp
        obtain ⟨va, pa, ra⟩ := run_part h1 ha hc
        obtain ⟨vb, pb, rb⟩ := run_part h2 hb hc'
        have e1 := hf g.type a b _ hr hd va vb ra rb
        have ih := aeqFs_sound h1 h2 hf hs hd' hn.2
        simp only [Op.eqFields, hn.1, ne_eq, not_false_eq_true, if_true, Sem.run_bind, pa, pb, Result.andThen_ok, e1]
        cases r
        · simp
        · simpa using ih
      · simp at h
    · simp at h
theorem rowShort_sound {e n : Nat} {te : TI} (hte : tinfo P e = some te) {xs ys : List AV} {vs vs' : List Value} (h1 : relL ρ I w xs vs) (h2 : relL ρ I w ys vs') {r : Bool} (h : rowShort te n xs ys = some r) (D : Nat) :
    (Op.eqItems (D + 1) e te.size vs.toArray vs'.toArray (List.range n)).run P w = .ok r w := by
  unfold rowShort at h
  split at h
  · rename_i hc
    obtain ⟨j, d, q1, q2, q3, _, q5⟩ := tinfo_some hte
    rw [hc.1, range'_eq, ← hc.2.2.1]
    exact rowEq_sound q2 q5 hc.2.1 D 0 h1 h2 rfl rfl h
  · simp at h
theorem aeqT_sound : ∀ (d t : Nat) (a b : AV) (p : Prop × Bool), aeqT P d t a b = some p → p.1 → ∀ (D : Nat) (va vb : Value), rel ρ I w a va → rel ρ I w b vb → (Op.equalIn (D + d + 1) t va vb).run P w = .ok p.2 w
  | 0, t, a, b, p, h => by simp [aeqT] at h
  | d + 1, t, a, b, p, h => by
    intro hp D va vb ra rb
    unfold aeqT at h
    split at h
    · simp at h
    · rename_i ti ht
      obtain ⟨j, dd, q1, q2, q3, _, q5⟩ := tinfo_some ht
      split at h
      · rename_i n e xs ys hk
        obtain rfl := TK.of_arr (hk.symm.trans q5)
        obtain ⟨cs, rfl, hx⟩ := ra
        obtain ⟨cs', rfl, hy⟩ := rb
        split at h
        · rename_i te hte
          obtain ⟨je, de, e1, e2, e3, _, e5⟩ := tinfo_some hte
          have hsz : P.cellsOf e = te.size := by simp [Program.cellsOf, e1, e3]
          rw [run_equalIn_array w (D + (d + 1)) cs cs' q2 e1, hsz]
          split at h
          · rename_i r hr
            simp only [Option.some.injEq] at h
            subst h
            exact rowShort_sound hte hx hy hr (D + d)
          · exact aeqIs_sound hx hy (fun a b p h hp va vb ra rb => aeqT_sound d e a b p h hp D va vb ra rb) h hp
        · simp at h
      · rename_i fs xs ys hk
        obtain ⟨fields, rfl, rfl⟩ := TK.of_str (hk.symm.trans q5)
        obtain ⟨cs, rfl, hx⟩ := ra
        obtain ⟨cs', rfl, hy⟩ := rb
        split at h
        · rename_i c r hr
          simp only [Option.some.injEq] at h
          subst h
          obtain ⟨hok, hc⟩ := hp
          simp only [strOk, Bool.and_eq_true, Bool.not_eq_true'] at hok
          have hfs : P.fieldsOf t = fields := by simp [Program.fieldsOf, q2]
          rw [run_equalIn_struct w (D + (d + 1)) t cs cs' (by rw [hfs]; exact q2) hok.2, hfs]
          rw [hfs] at hok
          exact aeqFs_sound (p := (c, r)) hx hy (fun t a b p h hp va vb ra rb => aeqT_sound d t a b p h hp D va vb ra rb) hr hc (by have := hok.1; rwa [← Array.all_toList] at this)
        · simp at h
      · rw [Option.map_eq_some_iff] at h
        obtain ⟨r, hr, rfl⟩ := h
        exact aeqK_sound q2 q5 ra rb hr (D + (d + 1))
theorem aAggEq_sound {op : BinOp} {t : Nat} {d : TypeDesc} (hd : P.underlying t = some d) (hw : (TK.of d).isAgg = true) {x y : AV} {vx vy : Value} (rx : rel ρ I w x vx) (ry : rel ρ I w y vy) {p : Prop × AV} (h : aAggEq P op t x y = some p) (hp : p.1) :
    (∀ xo yo, (eqGuard op t xo yo vx vy).run P w = .ok () w) ∧ ∃ z, (binOp op t vx vy).run P w = .ok z w ∧ rel ρ I w p.2 z := by
  have key : ∀ c r, aeqT P 8 t x y = some (c, r) → c → ∃ cs cs', vx = .agg cs ∧ vy = .agg cs' ∧ (Op.equalIn 10000 t vx vy).run P w = .ok r w := by
    intro c r h hc
    have hh := aeqT_sound 8 t x y (c, r) h hc 9991 vx vy rx ry
    unfold aeqT at h
    split at h
    · simp at h
    · rename_i ti ht
      obtain ⟨j, dd, q1, q2, q3, _, q5⟩ := tinfo_some ht
      rw [hd] at q2
      simp only [Option.some.injEq] at q2
      subst q2
      split at h
      · obtain ⟨cs, rfl, _⟩ := rx
        obtain ⟨cs', rfl, _⟩ := ry
        exact ⟨cs, cs', rfl, rfl, hh⟩
      · obtain ⟨cs, rfl, _⟩ := rx
        obtain ⟨cs', rfl, _⟩ := ry
        exact ⟨cs, cs', rfl, rfl, hh⟩
      · rw [Option.map_eq_some_iff] at h
        obtain ⟨r', hr, _⟩ := h
        rw [q5] at hr
        cases d <;> simp [TK.of, TK.isAgg] at hw <;> simp [TK.of, aeqK] at hr
  unfold aAggEq at h
  split at h
  · split at h
    · rename_i c r hr
      simp only [Option.some.injEq] at h
      subst h
      obtain ⟨hg, hc⟩ := hp
      obtain ⟨cs, cs', rfl, rfl, he⟩ := key c r hr hc
      exact ⟨fun xo yo => run_eqGuard_agg w _ t xo yo cs cs' hg, _, by rw [run_eql_struct, he]; rfl, rfl⟩
    · simp at h
  · split at h
    · rename_i c r hr
      simp only [Option.some.injEq] at h
      subst h
      obtain ⟨hg, hc⟩ := hp
      obtain ⟨cs, cs', rfl, rfl, he⟩ := key c r hr hc
      exact ⟨fun xo yo => run_eqGuard_agg w _ t xo yo cs cs' hg, _, by rw [run_neq_struct, he]; rfl, rfl⟩
    · simp at h
  · simp at h
theorem run_bin {op : BinOp} {t : Nat} {x y : AV} {vx vy : Value} (rx : rel ρ I w x vx) (ry : rel ρ I w y vy) {p : Prop × AV} (h : aBin P op t x y = some p) (hp : p.1) :
    (∀ xo yo, (eqGuard op t xo yo vx vy).run P w = .ok () w) ∧ ∃ z, (binOp op t vx vy).run P w = .ok z w ∧ rel ρ I w p.2 z := by
  have pl : plainA x = true → ∀ xo yo, (eqGuard op t xo yo vx vy).run P w = .ok () w := fun h xo yo => by
    obtain ⟨g1, g2⟩ := plainA_sound rx h
    exact eqGuard_ok op t xo yo g1 g2
  unfold aBin at h
  split at h
  · rename_i r hr
    simp only [Option.some.injEq] at h
    subst h
    exact ⟨pl (aArith_plain hr), run_arith rx ry hr hp⟩
  · split at h
    · rename_i r hr
      simp only [Option.some.injEq] at h
      subst h
      split at hr
      · exact ⟨pl (aShift_plain hr), run_shift rx ry hr hp⟩
      · rename_i hop
        exact ⟨pl (aCmp_plain hr), run_cmp ⟨fun h => hop (.inl h), fun h => hop (.inr h)⟩ rx ry hr hp⟩
    · split at h
      · rename_i a b ht
        obtain ⟨j, d, h1, h2, _, _, h5⟩ := tinfo_some ht
        obtain rfl := TK.of_bool h5
        exact ⟨pl (aBoolEq_plain h), run_boolEq h2 rx ry h⟩
      · exact ⟨pl (aStr_plain h), run_str rx ry h hp⟩
      · rename_i ht
        obtain ⟨j, d, h1, h2, _, _, h5⟩ := tinfo_some ht
        obtain rfl := TK.of_arr h5
        exact aAggEq_sound h2 rfl rx ry h hp
      · rename_i ht
        obtain ⟨j, d, h1, h2, _, _, h5⟩ := tinfo_some ht
        obtain ⟨fields, rfl, _⟩ := TK.of_str h5
        exact aAggEq_sound h2 rfl rx ry h hp
      · simp at h

theorem relL_mapev {ev : Operand → AV} {e : Operand → Value} (r : ∀ x, rel ρ I w (ev x) (e x)) (l : List Operand) : relL ρ I w (l.map ev) (l.map e) := by
  induction l with
  | nil => simp [relL]
  | cons a as ih => exact relL_cons.2 ⟨_, _, rfl, r a, ih⟩

theorem run_sub64 (x y b : Nat) (hb : b ≤ 1) (w : World) :
    (sub64Entry #[.int .u64 x, .int .u64 y, .int .u64 b]).run P w =
      .ok (.tuple #[.int .u64 (((x + 18446744073709551616 - y - b) % 18446744073709551616 : Nat) : Int), .int .u64 ((if x < y + b then 1 else 0 : Nat) : Int)]) w := by
  have : b = 0 ∨ b = 1 := by omega
  rcases this with rfl | rfl <;> rfl

theorem run_aext {k : FK} {f : FuncId} {args : List AV} {vs : List Value} (r : relL ρ I w args vs) {p : Prop × AV} (h : aext P k f args = some p) (hp : p.1) :
    ∃ x, (callFunc f vs.toArray).run P w = .ok (.value x) w ∧ rel ρ I w p.2 x := by
  unfold aext at h
  split at h
  · rename_i x y c
    simp only [Option.some.injEq] at h
    subst h
    obtain ⟨he, hc⟩ := hp
    obtain ⟨_, _, rfl, rfl, r1⟩ := relL_cons.1 r
    obtain ⟨_, _, rfl, rfl, r2⟩ := relL_cons.1 r1
    obtain ⟨_, _, rfl, rfl, r3⟩ := relL_cons.1 r2
    rw [relL_nil] at r3
    subst r3
    refine ⟨.tuple #[.int .u64 (x + y + c).toNat, .int .u64 (carry64 x y c).toNat], ?_, ?_⟩
    · rw [he, run_add64 _ _ _ (by omega) (by omega) (by omega) (by omega)]
      simp only [Result.andThen_ok]
      have hx := x.toNat_lt
      have hy := y.toNat_lt
      have e1 : ((x.toNat : Int) + y.toNat + c.toNat) % 18446744073709551616 = ((x + y + c).toNat : Int) := by
        rw [UInt64.toNat_add, UInt64.toNat_add]; omega
      have e2 : ((x.toNat : Int) + y.toNat + c.toNat) / 18446744073709551616 = ((carry64 x y c).toNat : Int) := by
        unfold carry64
        split
        · rw [show (0 : UInt64).toNat = 0 from rfl]; omega
        · rw [show (1 : UInt64).toNat = 1 from rfl]; omega
      rw [e1, e2]
    · exact ⟨_, rfl, by simp [relL, rel]⟩
  · rename_i x y c
    simp only [Option.some.injEq] at h
    subst h
    obtain ⟨he, hc⟩ := hp
    obtain ⟨_, _, rfl, rfl, r1⟩ := relL_cons.1 r
    obtain ⟨_, _, rfl, rfl, r2⟩ := relL_cons.1 r1
    obtain ⟨_, _, rfl, rfl, r3⟩ := relL_cons.1 r2
    rw [relL_nil] at r3
    subst r3
    refine ⟨.tuple #[.int .u64 (x - y - c).toNat, .int .u64 (borrow64 x y c).toNat], ?_, ?_⟩
    · rw [he, run_sub64 _ _ _ hc]
      simp only [Result.andThen_ok]
      have hx := x.toNat_lt
      have hy := y.toNat_lt
      have e1 : (x.toNat + 18446744073709551616 - y.toNat - c.toNat) % 18446744073709551616 = (x - y - c).toNat := by
        rw [UInt64.toNat_sub, UInt64.toNat_sub]; omega
      have e2 : (if x.toNat < y.toNat + c.toNat then 1 else 0) = (borrow64 x y c).toNat := by
        unfold borrow64
        split <;> rfl
      rw [e1, e2]
    · exact ⟨_, rfl, by simp [relL, rel]⟩
  · simp at h

theorem run_alen {t : Nat} {ti : TI} (ht : tinfo P t = some ti) {x v : AV} {vx : Value} (r : rel ρ I w x vx) (h : alen ti.kind x = some v) {tys : Array TypeId} (hty : tys[0]? = some t) (ty : TypeId) :
    ∃ y, (Builtin.len_ tys ty #[vx]).run P w = .ok y w ∧ rel ρ I w v y := by
  obtain ⟨j, d, h1, h2, h3, _, h5⟩ := tinfo_some ht
  unfold alen at h
  split at h
  · rename_i e full n cells hk
    simp only [Option.some.injEq] at h
    subst h
    rw [hk] at h5
    obtain rfl := TK.of_slice h5
    obtain ⟨a, cap, rfl, _⟩ := r
    exact ⟨_, by simp [Builtin.len_, hty, run_underlying h2, goInt]; rfl, by simp [rel]⟩
  · rename_i e id off sz n hk
    simp only [Option.some.injEq] at h
    subst h
    rw [hk] at h5
    obtain rfl := TK.of_slice h5
    rcases r with ⟨b, cap, _, rfl, _⟩ | ⟨_, _, rfl, rfl⟩
    · exact ⟨_, by simp [Builtin.len_, hty, run_underlying h2, goInt]; rfl, by simp [rel]⟩
    · exact ⟨_, by simp [Builtin.len_, hty, run_underlying h2, goInt]; rfl, by simp [rel]⟩
  · rename_i s hk
    simp only [Option.some.injEq] at h
    subst h
    rw [hk] at h5
    obtain rfl := TK.of_string h5
    obtain rfl := r
    exact ⟨_, by simp [Builtin.len_, hty, run_underlying h2, goInt]; rfl, by simp [rel, ByteArray.size]⟩
  · simp at h

theorem run_aminmax {mx : Bool} {args : List AV} {vs : List Value} (r : relL ρ I w args vs) {v : AV} (h : aminmax mx args = some v) (tys : Array TypeId) (ty : TypeId) :
    ∃ y, (if mx then Builtin.max_ tys ty vs.toArray else Builtin.min_ tys ty vs.toArray).run P w = .ok y w ∧ rel ρ I w v y := by
  unfold aminmax at h
  split at h
  · rename_i x y
    simp only [Option.some.injEq] at h
    subst h
    obtain ⟨_, _, rfl, rfl, r1⟩ := relL_cons.1 r
    obtain ⟨_, _, rfl, rfl, r2⟩ := relL_cons.1 r1
    rw [relL_nil] at r2
    subst r2
    cases mx
    · refine ⟨.int .i64 (min x y), ?_, by simp [rel]⟩
      simp [Builtin.min_, Builtin.min2]
      omega
    · refine ⟨.int .i64 (max x y), ?_, by simp [rel]⟩
      simp [Builtin.max_, Builtin.max2]
      omega
  · simp at h

theorem mapArr {α β : Type} (f : α → β) (xs : Array α) : (xs.toList.map f).toArray = xs.map f := by
  rw [← Array.toList_map, Array.toArray_toList]

theorem run_call_value {e : Operand → Value} {o : Oper} {c : Call} {fo : Operand} (hop : o.op = .call c) (hc : c.callee = .value fo) {f : FuncId} {first caps : Array Value} (hf : e fo = .func (.func f) first caps) :
    (execOp e o).run P w = (callFunc f (first ++ c.args.map e ++ caps)).run P w := by
  simp [execOp, hop, resolve, hc, Deferred.ofValue, hf, invoke]

theorem run_call_builtin {e : Operand → Value} {o : Oper} {c : Call} {b : Builtin} (hop : o.op = .call c) (hc : c.callee = .builtin b) :
    (execOp e o).run P w = (builtin b c.argTypes o.type (c.args.map fun | .const _ => true | _ => false) (c.args.map e)).run P w := by
  simp [execOp, hop, resolve, hc, invoke]
  rfl

theorem relL_mapev2 {ev : Operand → AV} {e : Operand → Value} (r : ∀ x, rel ρ I w (ev x) (e x)) : ∀ (l : List (Nat × Operand)),
    relL ρ I w (l.map ((fun p : Nat × AV => p.2) ∘ fun p => (p.1, ev p.2))) (l.map ((fun p : Nat × Value => p.2) ∘ fun p => (p.1, e p.2)))
  | [] => by simp [relL]
  | p :: l => by simp only [List.map_cons, relL]; exact ⟨_, _, rfl, r p.2, relL_mapev2 r l⟩
theorem fold_splice : ∀ (l : List Value) (k off : Nat) (cs : Array Value), off + k + l.length ≤ cs.size →
    ((l.zipIdx k).foldl (fun cs (p : Value × Nat) => cs.setIfInBounds (off + p.2) p.1) cs).toList = spliceV cs.toList (off + k) l
  | [], k, off, cs, h => by simp [spliceV]
  | x :: l, k, off, cs, h => by
    rw [List.zipIdx_cons, List.foldl_cons, fold_splice l (k + 1) off _ (by simp at h ⊢; omega)]
    simp only [Array.toList_setIfInBounds]
    rw [show off + (k + 1) = off + k + 1 by omega, spliceV_cons _ _ _ _ (by simp at h ⊢; omega)]
theorem afill_sound {place place' : Nat → Option (Nat × Nat)} : ∀ {parts : List (Nat × AV)} {vparts : List (Nat × Value)} {cells : List AV} {vs : Array Value} {c : Prop} {l : List AV},
    parts.map (·.1) = vparts.map (·.1) → relL ρ I w (parts.map (·.2)) (vparts.map (·.2)) → (∀ p ∈ parts, ∀ q, place p.1 = some q → place' p.1 = some q) → relL ρ I w cells vs.toList → afill place cells parts = some (c, l) → c →
    ∃ out, Instr.fill place' vs vparts = some out ∧ relL ρ I w l out.toList
  | [], vparts, cells, vs, c, l, hi, hr, hpl, hc, h, hcc => by
    cases vparts with
    | nil => simp [afill] at h; obtain ⟨_, rfl⟩ := h; exact ⟨vs, rfl, hc⟩
    | cons => simp at hi
  | (i, v) :: parts, vparts, cells, vs, c, l, hi, hr, hpl, hc, h, hcc => by
    cases vparts with
    | nil => simp at hi
    | cons q vparts =>
      obtain ⟨i', x⟩ := q
      simp only [List.map_cons, List.cons.injEq] at hi
      obtain ⟨rfl, hi⟩ := hi
      simp only [List.map_cons, relL] at hr
      obtain ⟨x', xs', hxe, hr1, hr2⟩ := hr
      simp only [List.cons.injEq] at hxe
      obtain ⟨rfl, rfl⟩ := hxe
      unfold afill at h
      split at h
      · simp at h
      · rename_i off size hp
        split at h
        · rename_i c' l' hf
          simp only [Option.some.injEq, Prod.mk.injEq] at h
          obtain ⟨rfl, rfl⟩ := h
          obtain ⟨⟨hk, hlen, hin⟩, hc'⟩ := hcc
          have rc := rel_cells' hr1 hk
          have lc := relL_len rc
          have lv := relL_len hc
          have hp' := hpl (i, v) (by simp) _ hp
          simp only [Array.length_toList] at lc lv
          have e : (x.cells.zipIdx.foldl (fun cs (p : Value × Nat) => cs.setIfInBounds (off + p.2) p.1) vs).toList = spliceV vs.toList off x.cells.toList := by
            rw [← Array.foldl_toList, Array.toList_zipIdx, fold_splice _ _ _ _ (by simp; omega)]; rfl
          have hs : relL ρ I w (splice cells off v.cells) (x.cells.zipIdx.foldl (fun cs (p : Value × Nat) => cs.setIfInBounds (off + p.2) p.1) vs).toList := by
            rw [e]; exact relL_splice hc rc off
          obtain ⟨out, h1, h2⟩ := afill_sound hi hr2 (fun p hp => hpl p (by simp [hp])) hs hf hc'
          refine ⟨out, ?_, h2⟩
          unfold Instr.fill
          simp only [hp']
          rw [if_neg (by simp; omega)]
          exact h1
        · simp at h
theorem places_of {P : Program} : ∀ (fs : List Field), ((fs.map fun f => (f.offset, f.type)).all fun f => (tinfo P f.2).isSome) = true →
    ∃ places, fs.mapM (fun f => (P.info? f.type).map fun i => (f.offset, i.size)) = some places ∧ ∀ i q, aplace P (fs.map fun f => (f.offset, f.type)) i = some q → places[i]? = some q
  | [], _ => ⟨[], rfl, fun i q h => by simp [aplace] at h⟩
  | f :: fs, h => by
    simp only [List.map_cons, List.all_cons, Bool.and_eq_true] at h
    obtain ⟨pl, p1, p2⟩ := places_of fs h.2
    obtain ⟨tf, htf⟩ := Option.isSome_iff_exists.1 h.1
    obtain ⟨j, d, h1, h2, h3, h4, h5⟩ := tinfo_some htf
    refine ⟨(f.offset, j.size) :: pl, ?_, ?_⟩
    · simp [List.mapM_cons, h1, p1]
    · intro i q hq
      cases i with
      | zero => simp [aplace, htf] at hq; simp [← hq, h3]
      | succ i => simp only [List.getElem?_cons_succ]; exact p2 i q (by simpa [aplace] using hq)
theorem abuild_sound {ev : Operand → AV} {e : Operand → Value} (r : ∀ x, rel ρ I w (ev x) (e x)) {t : Nat} {parts : Array (Nat × Operand)} {p : Prop × AV}
    (h : abuild P t (parts.toList.map fun p => (p.1, ev p.2)) = some p) (hp : p.1) : ∃ cells, P.built t (parts.map fun (i, x) => (i, e x)).toList = some cells ∧ rel ρ I w p.2 (.agg cells) := by
  have hm1 : (parts.toList.map fun p => (p.1, ev p.2)).map (·.1) = (parts.map fun (i, x) => (i, e x)).toList.map (·.1) := by simp
  have hm2 : relL ρ I w ((parts.toList.map fun p => (p.1, ev p.2)).map (·.2)) ((parts.map fun (i, x) => (i, e x)).toList.map (·.2)) := by
    simp only [Array.toList_map, List.map_map]
    exact relL_mapev2 r parts.toList
  unfold abuild at h
  split at h
  · rename_i z _ _ _ el hz ht
    split at h
    · rename_i ie hie
      split at h
      · rename_i c l hf
        simp only [Option.some.injEq] at h
        subst h
        obtain ⟨j, d, h1, h2, h3, h4, h5⟩ := tinfo_some ht
        have hd := TK.of_arr h5
        subst hd
        obtain ⟨je, de, e1, e2, e3, e4, e5⟩ := tinfo_some hie
        simp only [tzero, Option.map_eq_some_iff, Option.bind_eq_some_iff] at hz
        obtain ⟨zv, ⟨i2, hi2, hzv⟩, rfl⟩ := hz
        rw [h1] at hi2
        simp only [Option.some.injEq] at hi2
        subst hi2
        obtain ⟨out, o1, o2⟩ := afill_sound (place' := fun i => some (i * je.size, je.size)) hm1 hm2 (fun p _ q hq => by simp only [aplaceE, e3] at hq; exact hq) (rel_cells' (rel_ofVal zv) hp.1) hf hp.2
        refine ⟨out, ?_, out, rfl, o2⟩
        simp only [Program.built, h1, h2, hzv, e1]
        exact o1
      · simp at h
    · simp at h
  · rename_i z _ _ fs hz ht
    split at h
    · rename_i c l hf
      simp only [Option.some.injEq] at h
      subst h
      obtain ⟨j, d, h1, h2, h3, h4, h5⟩ := tinfo_some ht
      obtain ⟨fields, rfl, rfl⟩ := TK.of_str h5
      simp only [tzero, Option.map_eq_some_iff, Option.bind_eq_some_iff] at hz
      obtain ⟨zv, ⟨i2, hi2, hzv⟩, rfl⟩ := hz
      rw [h1] at hi2
      simp only [Option.some.injEq] at hi2
      subst hi2
      obtain ⟨places, q1, q2⟩ := places_of (P := P) fields.toList hp.1.2
      obtain ⟨out, o1, o2⟩ := afill_sound (place' := (places.toArray[·]?)) hm1 hm2 (fun p _ q hq => by
        rw [List.getElem?_toArray]; exact q2 _ _ hq) (rel_cells' (rel_ofVal zv) hp.1.1) hf hp.2
      refine ⟨out, ?_, out, rfl, o2⟩
      simp only [Program.built, h1, h2, hzv, q1]
      exact o1
    · simp at h
  · simp at h

theorem aval0_sound (c : Conc G ρ I H w) {ev : Operand → AV} {e : Operand → Value} (r : ∀ x, rel ρ I w (ev x) (e x)) {o : Oper} {p : Prop × AV} (h : aval0 P G.x o.op ev H = some p) (hp : p.1) :
    ∃ x, (execOp e o).run P w = .ok (.value x) w ∧ rel ρ I w p.2 x := by
  unfold aval0 at h
  split at h
  case h_1 x hop =>
    simp only [Option.some.injEq] at h
    subst h
    exact ⟨e x, by simp [execOp, hop], r x⟩
  case h_2 x hop =>
    simp only [Option.some.injEq] at h
    subst h
    exact ⟨e x, by simp [execOp, hop], r x⟩
  case h_3 cc a b hop =>
    split at h
    · rename_i b' hb
      simp only [Option.some.injEq] at h
      subst h
      have hc : e cc = .bool b' := by have := r cc; rw [hb] at this; exact this
      refine ⟨if b' then e a else e b, ?_, rel_pickA (r a) (r b)⟩
      simp only [execOp, hop, hc, asBool]
      cases b' <;> simp
    · simp at h
  case h_4 t i hop =>
    split at h
    · rename_i l hl
      simp only [Option.some.injEq] at h
      subst h
      have ht := r t
      rw [hl] at ht
      obtain ⟨cs, hcs, hr⟩ := ht
      simp only at hp
      have hlen := relL_len hr
      have hi : i < cs.size := by simp at hlen; omega
      refine ⟨cs[i], ?_, ?_⟩
      · simp [execOp, hop, hcs, Instr.extract, hi]
      · have := relL_getD hr i
        simpa [List.getD, hi] using this
    · simp at h
  case h_5 t a hop =>
    split at h
    · rename_i ti l off ht hc
      simp only [Option.some.injEq] at h
      subst h
      obtain ⟨b, base, vs, hx, hr, hcell⟩ := cellsAt_sound c (r a) hc
      obtain ⟨x, h1, h2⟩ := run_loadAt ht hr hcell hp
      exact ⟨x, by simp [execOp, hop, hx, h1], h2⟩
    · simp at h
  case h_6 s x f hop =>
    split at h
    · rename_i sz by_ fs ht
      split at h
      · rename_i off ft hf
        split at h
        · rename_i tf htf
          split at h
          · simp at h
          · rename_i hnz
            rw [Option.map_eq_some_iff] at h
            obtain ⟨v, hv, rfl⟩ := h
            obtain ⟨b, o', hx, hr⟩ := addrAdd_sound (r x) hv
            obtain ⟨j, d, h1, h2, _, _, h5⟩ := tinfo_some ht
            obtain ⟨fields, rfl, rfl⟩ := TK.of_str h5
            obtain ⟨jf, df, f1, f2, f3, _, _⟩ := tinfo_some htf
            rw [List.getElem?_map, Option.map_eq_some_iff] at hf
            obtain ⟨fd, hfd, hfd2⟩ := hf
            simp only [Prod.mk.injEq] at hfd2
            obtain ⟨rfl, rfl⟩ := hfd2
            have hfd' : fields[f]? = some fd := by simpa using hfd
            refine ⟨_, ?_, hr⟩
            have hnz' : ¬ jf.size = 0 := by rw [← f3]; exact hnz
            simp [execOp, hop, Instr.fieldAt, run_underlying h2, hfd', hx, Instr.sureAddr, fieldPlace, run_sizeOf f1, hnz', addr_add]
        · simp at h
      · simp at h
    · simp at h
  case h_7 t x i hop =>
    split at h
    · rename_i k n ti hi ht
      obtain ⟨y, h1, h2⟩ := run_indexAt ht (r x) (r i) hi h hp
      exact ⟨y, by simp [execOp, hop, h1], h2⟩
    · simp at h
  case h_8 t x i hop =>
    split at h
    · rename_i k n ti hi ht
      obtain ⟨y, h1, h2⟩ := run_index ht (r x) (r i) hi h hp
      exact ⟨y, by simp [execOp, hop, h1], h2⟩
    · simp at h
  case h_9 t x f hop =>
    split at h
    · rename_i sz by_ fs ht
      split at h
      · rename_i off ft l hf hx
        obtain ⟨j, d, h1, h2, _, _, h5⟩ := tinfo_some ht
        obtain ⟨fields, rfl, rfl⟩ := TK.of_str h5
        rw [List.getElem?_map, Option.map_eq_some_iff] at hf
        obtain ⟨fd, hfd, hfd2⟩ := hf
        simp only [Prod.mk.injEq] at hfd2
        obtain ⟨rfl, rfl⟩ := hfd2
        have hfd' : fields[f]? = some fd := by simpa using hfd
        have hx' := r x
        rw [hx] at hx'
        obtain ⟨cs, hcs, hr⟩ := hx'
        obtain ⟨y, k1, k2⟩ := run_part (P := P) hr h hp
        simp only [Array.toArray_toList] at k1
        exact ⟨y, by simp [execOp, hop, Instr.field, run_underlying h2, hfd', hcs, asAgg, k1], k2⟩
      · simp at h
    · simp at h
  case h_10 op t x y ty hop =>
    obtain ⟨hpl, z, h1, h2⟩ := run_bin (r x) (r y) h hp
    exact ⟨z, by simp [execOp, hop, hpl x y, h1], h2⟩
  case h_11 op t x hop =>
    rw [Option.map_eq_some_iff] at h
    obtain ⟨v, hv, rfl⟩ := h
    obtain ⟨y, h1, h2⟩ := run_unary (P := P) (r x) hv
    exact ⟨y, by simp [execOp, hop, h1], h2⟩
  case h_12 s d x hop =>
    split at h
    · rename_i ts a b k hs hd
      rw [Option.map_eq_some_iff] at h
      obtain ⟨v, hv, rfl⟩ := h
      obtain ⟨_, ds, _, s2, _, _, _⟩ := tinfo_some hs
      obtain ⟨_, dd, _, d2, _, _, d5⟩ := tinfo_some hd
      obtain rfl := TK.of_int d5
      obtain ⟨y, h1, h2⟩ := run_cvt s2 d2 (r x) hv
      exact ⟨y, by simp [execOp, hop, h1], h2⟩
    · simp at h
  case h_13 fn first caps hop =>
    simp only [Option.some.injEq] at h
    subst h
    refine ⟨.func fn (first.map e) (caps.map e), by simp [execOp, hop, Instr.makeFunc], _, _, rfl, ?_, ?_⟩
    · simp only [Array.toList_map]
      generalize first.toList = l
      induction l with
      | nil => simp [relL]
      | cons a as ih => exact relL_cons.2 ⟨_, _, rfl, r a, ih⟩
    · simp only [Array.toList_map]
      generalize caps.toList = l
      induction l with
      | nil => simp [relL]
      | cons a as ih => exact relL_cons.2 ⟨_, _, rfl, r a, ih⟩
  case h_14 x hop =>
    have hx := r x
    split at h
    · rename_i id off hv
      simp only [Option.some.injEq] at h
      subst h
      rw [hv] at hx
      obtain ⟨b, hb, hex⟩ := hx
      exact ⟨e x, by simp [execOp, hop, hex], b, hb, hex⟩
    · rename_i cs i hv
      simp only [Option.some.injEq] at h
      subst h
      rw [hv] at hx
      obtain ⟨b, off, vs, hex, hr⟩ := hx
      exact ⟨e x, by simp [execOp, hop, hex], b, off, vs, hex, hr⟩
    · rename_i f a b hv
      simp only [Option.some.injEq] at h
      subst h
      rw [hv] at hx
      obtain ⟨x', y', hex, hr⟩ := hx
      exact ⟨e x, by simp [execOp, hop, hex], x', y', hex, hr⟩
    · simp at h
  case h_15 cl hop =>
    split at h
    · rename_i fo hfo
      split at h
      · rename_i f hf
        have hr := r fo
        rw [hf] at hr
        obtain ⟨x, y, hx, h1, h2⟩ := hr
        rw [relL_nil] at h1 h2
        have hx1 : x = #[] := by simpa using h1
        have hy1 : y = #[] := by simpa using h2
        subst hx1 hy1
        obtain ⟨z, k1, k2⟩ := run_aext (relL_mapev r cl.args.toList) h hp
        refine ⟨z, ?_, k2⟩
        rw [run_call_value hop hfo hx]
        rw [mapArr] at k1
        simpa using k1
      · simp at h
    · rename_i hfo
      split at h
      · rename_i x t hx ht
        split at h
        · rename_i ti hti
          rw [Option.map_eq_some_iff] at h
          obtain ⟨v, hv, rfl⟩ := h
          have hl := relL_mapev r cl.args.toList
          rw [hx] at hl
          obtain ⟨vx, _, hvx, hr, hnil⟩ := relL_cons.1 hl
          rw [relL_nil] at hnil
          subst hnil
          obtain ⟨y, k1, k2⟩ := run_alen hti hr hv ht o.type
          have hargs : cl.args.map e = #[vx] := by
            apply Array.toList_inj.1
            simpa using hvx
          exact ⟨y, by rw [run_call_builtin hop hfo, hargs]; simp [builtin, k1], k2⟩
        · simp at h
      · simp at h
    · rename_i hfo
      rw [Option.map_eq_some_iff] at h
      obtain ⟨v, hv, rfl⟩ := h
      obtain ⟨y, k1, k2⟩ := run_aminmax (P := P) (relL_mapev r cl.args.toList) hv cl.argTypes o.type
      refine ⟨y, ?_, k2⟩
      rw [run_call_builtin hop hfo]
      simp only [Bool.false_eq_true, if_false, mapArr] at k1
      simp [builtin, k1]
    · rename_i hfo
      rw [Option.map_eq_some_iff] at h
      obtain ⟨v, hv, rfl⟩ := h
      obtain ⟨y, k1, k2⟩ := run_aminmax (P := P) (relL_mapev r cl.args.toList) hv cl.argTypes o.type
      refine ⟨y, ?_, k2⟩
      rw [run_call_builtin hop hfo]
      simp only [if_true, mapArr] at k1
      simp [builtin, k1]
    · simp at h
  case h_16 t parts hop =>
    obtain ⟨cells, h1, h2⟩ := abuild_sound (r := fun x => r x) h hp
    exact ⟨_, by simp only [execOp, hop, Sem.run_bind, run_build w t _ cells h1, Result.andThen_ok]; rfl, h2⟩
  case h_17 => simp at h

theorem acall_sound (c : Conc G ρ I H w) {ev : Operand → AV} {e : Operand → Value} (r : ∀ x, rel ρ I w (ev x) (e x)) {o : Oper} {f : FuncId} {args : List AV} (h : acall o.op ev = some (f, args)) (hf : GoFn P f)
    {K : AV → Heap → Prop} (hk : ACall P G f args H K) : Post P G ρ I H w K ((execOp e o).run P w) := by
  unfold acall at h
  split at h
  · rename_i cl hop
    split at h
    · rename_i fo hfo
      split at h
      · rename_i g first caps hg
        simp only [Option.some.injEq, Prod.mk.injEq] at h
        obtain ⟨rfl, rfl⟩ := h
        have hr := r fo
        rw [hg] at hr
        obtain ⟨x, y, hx, h1, h2⟩ := hr
        have hgo : (callFunc g (x ++ cl.args.map e ++ y)).run P w = .ok (.enter g (x ++ cl.args.map e ++ y)) w := by
          unfold GoFn at hf
          split at hf
          · rename_i fn hfn
            obtain ⟨n1, n2⟩ := hf
            have n1' : fn.name ≠ "runtime.NumGoroutine" := by simpa using n1
            obtain ⟨bd, hb⟩ := Option.isSome_iff_exists.1 n2
            simp [callFunc, hfn, n1', hb]
          · exact hf.elim
        rw [run_call_value hop hfo hx, hgo]
        have hargs : relL ρ I w (first ++ cl.args.toList.map ev ++ caps) (x ++ cl.args.map e ++ y).toList := by
          simp only [Array.toList_append, Array.toList_map]
          exact relL_append (relL_append h1 (relL_mapev r _)) h2
        have := hk ρ I w _ c hargs
        rw [Array.toArray_toList] at this
        exact this
      · simp at h
    · simp at h
  · simp at h

theorem box_post (c : Conc G ρ I H w) {z : AV} {v : Value} (hz : known z = true) (hr : rel ρ I w z v) (t : TypeId) {K : AV → Heap → Prop} (hk : K (.ptr H.length 0) (H ++ [.blk z.cells []])) :
    Fin G ρ I H w (.pointer (some ⟨w.heap.size, 0, none⟩)) (w.alloc (.cells v.cells t)) K := by
  have hpc := push_conc c (.blk z.cells []) z.cells v.cells.toList t (rel_cells' hr hz) (.inl rfl)
  have hpg := push_good (ρ := ρ) (I := I) (H := H) (Classical.byContradiction fun h => Nat.lt_irrefl _ (c.dom _ h)) (.blk z.cells []) (some w.heap.size) (fun b h => by simpa using h.symm) (.cells v.cells.toList.toArray t)
  simp only [Array.toArray_toList] at hpc hpg
  exact ⟨_, _, _, .ptr H.length 0, hpg, hpc, ⟨w.heap.size, by simp [bindR], rfl⟩, hk⟩

theorem aeff_sound (c : Conc G ρ I H w) {ev : Operand → AV} {e : Operand → Value} (r : ∀ x, rel ρ I w (ev x) (e x)) {o : Oper} {cnd : Prop} {v : AV} {H' : Heap} (h : aeff P o.op ev H = some (cnd, v, H')) (hc : cnd)
    {K : AV → Heap → Prop} (hk : K v H') : Post P G ρ I H w K ((execOp e o).run P w) := by
  unfold aeff at h
  split at h
  case h_1 t hop =>
    split at h
    · rename_i z hz
      simp only [Option.some.injEq, Prod.mk.injEq] at h
      obtain ⟨rfl, rfl, rfl⟩ := h
      simp only [tzero, Option.map_eq_some_iff, Option.bind_eq_some_iff] at hz
      obtain ⟨zv, ⟨ti, h1, h2⟩, rfl⟩ := hz
      have hrun : (execOp e o).run P w = .ok (.value (.pointer (some ⟨w.heap.size, 0, none⟩))) (w.alloc (.cells zv.cells t)) := by
        simp [execOp, hop, Instr.alloc, zeroValue, run_typeInfo h1, h2, newVar, newRow]
      rw [hrun]
      exact box_post c hc (rel_ofVal zv) t hk
    · simp at h
  case h_2 t x hop =>
    simp only [Option.some.injEq, Prod.mk.injEq] at h
    obtain ⟨rfl, rfl, rfl⟩ := h
    have hrun : (execOp e o).run P w = .ok (.value (.pointer (some ⟨w.heap.size, 0, none⟩))) (w.alloc (.cells (e x).cells t)) := by
      simp [execOp, hop, Instr.box, newVar, newRow]
    rw [hrun]
    exact box_post c hc (r x) t hk
  case h_3 t a x hop =>
    split at h
    · rename_i ti id off ht ha
      have hra := r a
      rw [ha] at hra
      obtain ⟨b, hb, hea⟩ := hra
      have step : ∀ (cs : List AV) (f : List (Nat × Nat)) (e0 e1 : Ent) (el : TypeId) (fr : Nat × Nat) (us rest : List Value), H[id]? = some e0 → e0.live = true → e0.frz = f → e1.live = true → e1.frz = f →
          w.heap[b]? = some (.cells (us ++ rest).toArray el fr) → relL ρ I w cs us → clear fr (us ++ rest).length →
          ((known (ev x) = true ∧ (ev x).cells.length = ti.size ∧ (ev x).cells.all oneA = true) ∧ off + ti.size ≤ cs.length) ∧ (∀ q ∈ f, off + ti.size ≤ q.1 ∨ q.2 ≤ off) →
          (e1 = .blk (splice cs off (ev x).cells) f ∧ rest = [] ∨ e1 = .grow (splice cs off (ev x).cells) f) →
          K (.tup []) (H.set id e1) → Post P G ρ I H w K ((execOp e o).run P w) := by
        intro cs f e0 e1 el fr us rest hid hl hf hl1 hf1 hw hr hcl hcond he1 hk
        obtain ⟨⟨⟨c1, c2, c3⟩, c4⟩, c5⟩ := hcond
        have hcells := rel_cells' (r x) c1
        have hlen := relL_len hcells
        have hlen2 := relL_len hr
        have hsz : (e x).cells.size = ti.size := by simpa [c2] using hlen.symm
        have hle : off + ti.size ≤ (us ++ rest).length := by simp; omega
        have hrun := run_storeVar ht hsz (oneL_sound hcells c3) hw hle hcl
        have hL : (e x).cells.toList.length = ti.size := by simpa using hsz
        have hlen' : (spliceV (us ++ rest) off (e x).cells.toList).length = (us ++ rest).length := length_spliceV (by rw [hL]; exact hle)
        have hfz : ∀ q, inFrz e0.frz q → (spliceV (us ++ rest) off (e x).cells.toList)[q]? = (us ++ rest)[q]? := by
          intro q ⟨p, hp, h1, h2⟩
          rw [hf] at hp
          refine spliceV_get_out (by rw [hL]; exact hle) ?_
          rw [hL]
          have := c5 p hp
          omega
        have hsplit : spliceV (us ++ rest) off (e x).cells.toList = spliceV us off (e x).cells.toList ++ rest := by
          simp only [spliceV]
          rw [List.take_append_of_le_length (by omega), List.drop_append_of_le_length (by rw [hL]; omega)]
          simp
        have hres : relL ρ I w (splice cs off (ev x).cells) (spliceV us off (e x).cells.toList) := relL_splice hr hcells off
        have hg := write_good (I := I) (e' := e1) hid hl hb hw hlen' hfz (by rw [hf1, hf])
        have hcc := write_conc (e' := e1) c hid hl hb hw hlen' hfz (by rw [hf1, hf]) hl1 hcl
          (fun cs' f' he => by
            rcases he1 with ⟨he1, hrest⟩ | he1
            · rw [he1] at he; simp only [Ent.blk.injEq] at he; obtain ⟨rfl, rfl⟩ := he; subst hrest; simpa using hres
            · rw [he1] at he; simp at he)
          (fun cs' f' he => by
            rcases he1 with ⟨he1, hrest⟩ | he1
            · rw [he1] at he; simp at he
            · rw [he1] at he; simp only [Ent.grow.injEq] at he; obtain ⟨rfl, rfl⟩ := he; exact ⟨_, _, hsplit, hres⟩)
        have hx : (execOp e o).run P w = .ok .skip (rewr w b (.cells (spliceV (us ++ rest) off (e x).cells.toList).toArray el fr)) := by
          simp [execOp, hop, Instr.storeAt, hea, Instr.sureAddr, hrun]
        rw [hx]
        exact ⟨_, _, _, _, hg, hcc, rel_undef, hk⟩
      split at h
      · rename_i cs f hH
        simp only [Option.some.injEq, Prod.mk.injEq] at h
        obtain ⟨rfl, rfl, rfl⟩ := h
        obtain ⟨b', el, fr, us, g1, g2, g3, g4⟩ := c.blk id cs f hH
        obtain rfl : b = b' := by rw [hb] at g1; simpa using g1
        exact step cs f _ _ el fr us [] hH rfl rfl rfl rfl (by simpa using g2) g3 (by simpa using g4) hc (.inl ⟨rfl, rfl⟩) hk
      · rename_i cs f hH
        simp only [Option.some.injEq, Prod.mk.injEq] at h
        obtain ⟨rfl, rfl, rfl⟩ := h
        rcases c.grow id cs f hH with ⟨g1, _⟩ | ⟨b', el, fr, us, rest, g1, g2, g3, g4⟩
        · rw [hb] at g1; simp at g1
        · obtain rfl : b = b' := by rw [hb] at g1; simpa using g1
          exact step cs f _ _ el fr us rest hH rfl rfl rfl rfl g2 g3 g4 hc (.inr rfl) hk
      · simp at h
    · simp at h
  case h_4 => simp at h

theorem step1_sound (c : Conc G ρ I H w) {t : List AV} {a : Act} (r : RelT ρ I w t a) {o : Oper} {K : St → Prop} (h : step1 P G o ⟨t, H⟩ K) {next : Act → World → Prop} {Q : Exit → Act → World → Prop}
    (hn : Leads G ρ I H w K next) : o.wp P a w next Q := by
  have re := rel_evA c r
  unfold step1 at h
  simp only [aval] at h
  unfold Oper.wp
  split at h
  · rename_i cnd v hv
    obtain ⟨hc, hk⟩ := h
    obtain ⟨x, hx, hr⟩ := aval0_sound c re hv hc
    rw [hx]
    exact hn ρ I ⟨putA t o.dst v, H⟩ _ w (Good.refl _ _ _ _) c (r.put _ hr) hk
  · split at h
    · rename_i cnd v H' hv
      obtain ⟨hc, hk⟩ := h
      exact upon_of_post (s := ⟨t, H⟩) c r hn (aeff_sound c re hv hc hk)
    · split at h
      · rename_i f args hv
        exact upon_of_post (s := ⟨t, H⟩) c r hn (acall_sound c re hv h.1 h.2)
      · exact upon_of_post (s := ⟨t, H⟩) c r hn (h ρ I w a.eval c re)

end
end Go.Ab
