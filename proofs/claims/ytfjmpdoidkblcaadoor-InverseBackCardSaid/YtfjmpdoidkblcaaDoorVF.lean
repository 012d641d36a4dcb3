/- The abstract layer (second state), part F: comparisons, values of parts, functions that the model stands in for. -/
import Derived.Test.YtfjmpdoidkblcaaDoorVE
set_option linter.unusedSimpArgs false
set_option linter.unusedVariables false
namespace Go.V
open Go

section
variable {P : Program} {G : Env P} {ρ : Rho} {I : Imm} {H : Heap} {w : World}

theorem beq_toNat8 (x y : UInt8) : ((x.toNat : Int) == (y.toNat : Int)) = (x == y) := by
  rw [Bool.eq_iff_iff, beq_iff_eq, beq_iff_eq, ← UInt8.toNat_inj]; omega
theorem beq_toNat32 (x y : UInt32) : ((x.toNat : Int) == (y.toNat : Int)) = (x == y) := by
  rw [Bool.eq_iff_iff, beq_iff_eq, beq_iff_eq, ← UInt32.toNat_inj]; omega
theorem beq_toNat64 (x y : UInt64) : ((x.toNat : Int) == (y.toNat : Int)) = (x == y) := by
  rw [Bool.eq_iff_iff, beq_iff_eq, beq_iff_eq, ← UInt64.toNat_inj]; omega
theorem beq_bytes (x y : List UInt8) : ((⟨x.toArray⟩ : ByteArray) == ⟨y.toArray⟩) = (x == y) := by
  have h : ((⟨x.toArray⟩ : ByteArray) == ⟨y.toArray⟩) = (x.toArray == y.toArray) := rfl
  rw [h, Bool.eq_iff_iff, beq_iff_eq, beq_iff_eq]
  exact ⟨fun h => by simpa using h, fun h => by rw [h]⟩
theorem aeqK_sound {t : Nat} {d : TypeDesc} (hd : P.underlying t = some d) {k : TK} (hk : k = TK.of d) {a b : AV} {va vb : Value} (ra : rel ρ I w a va) (rb : rel ρ I w b vb) {r : Bool} (h : aeqK k a b = some r) (D : Nat) :
    (Op.equalIn (D + 1) t va vb).run P w = .ok r w := by
  subst hk
  cases d
  case int q =>
    unfold aeqK at h
    split at h
    all_goals (try (rename_i hk; simp [TK.of] at hk; done))
    case h_1 => simp only [rel_u8, rel_u32, rel_u64, rel_int, rel_bool, rel_str] at ra rb; subst ra rb; simp only [Option.some.injEq] at h; subst h; simp [Op.equalIn, run_underlying hd, beq_toNat8]
    case h_2 => simp only [rel_u8, rel_u32, rel_u64, rel_int, rel_bool, rel_str] at ra rb; subst ra rb; simp only [Option.some.injEq] at h; subst h; simp [Op.equalIn, run_underlying hd, beq_toNat32]
    case h_3 => simp only [rel_u8, rel_u32, rel_u64, rel_int, rel_bool, rel_str] at ra rb; subst ra rb; simp only [Option.some.injEq] at h; subst h; simp [Op.equalIn, run_underlying hd, beq_toNat64]
    case h_4 =>
      simp only [rel_u8, rel_u32, rel_u64, rel_int, rel_bool, rel_str] at ra rb; subst ra rb
      cases hkk : eqK _ _ <;> rw [hkk] at h <;> simp only [cond_true, cond_false, reduceCtorEq, Option.some.injEq] at h
      simp only [eqK, decide_eq_true_eq] at hkk
      subst hkk
      subst h
      simp [Op.equalIn, run_underlying hd]
    all_goals simp at h
  case bool =>
    simp only [TK.of] at h
    unfold aeqK at h
    split at h
    all_goals (try (rename_i hk; simp at hk; done))
    case h_5 => simp only [rel_u8, rel_u32, rel_u64, rel_int, rel_bool, rel_str] at ra rb; subst ra rb; simp only [Option.some.injEq] at h; subst h; simp [Op.equalIn, run_underlying hd]
    all_goals simp at h
  case string =>
    simp only [TK.of] at h
    unfold aeqK at h
    split at h
    all_goals (try (rename_i hk; simp at hk; done))
    case h_6 => simp only [rel_u8, rel_u32, rel_u64, rel_int, rel_bool, rel_str] at ra rb; subst ra rb; simp only [Option.some.injEq] at h; subst h; simp [Op.equalIn, run_underlying hd, beq_bytes]
    all_goals simp at h
  all_goals simp [TK.of, aeqK] at h

theorem eqItems_zip {e : Nat} {d : TypeDesc} (hd : P.underlying e = some d) (hagg : (TK.of d).isAgg = false) (D : Nat) {xs ys : List Value} : ∀ (ps : List (Value × Value × Bool)) (i : Nat),
    (∀ p ∈ ps, (Op.equalIn D e p.1 p.2.1).run P w = .ok p.2.2 w) → xs.drop i = ps.map (·.1) → ys.drop i = ps.map (·.2.1) →
    (Op.eqItems D e 1 xs.toArray ys.toArray (List.range' i ps.length)).run P w = .ok (ps.all (·.2.2)) w
  | [], i, _, _, _ => by simp [Op.eqItems]
  | p :: ps, i, hp, e1, e2 => by
    have hx : xs[i]? = some p.1 := by have := congrArg (·[0]?) e1; simpa using this
    have hy : ys[i]? = some p.2.1 := by have := congrArg (·[0]?) e2; simpa using this
    have px : (part e xs.toArray (i * 1)).run P w = .ok p.1 w := by simp [part, run_isAgg hd, hagg, hx]
    have py : (part e ys.toArray (i * 1)).run P w = .ok p.2.1 w := by simp [part, run_isAgg hd, hagg, hy]
    have e1' : xs.drop (i + 1) = ps.map (·.1) := by rw [← List.tail_drop, e1]; rfl
    have e2' : ys.drop (i + 1) = ps.map (·.2.1) := by rw [← List.tail_drop, e2]; rfl
    have ih := eqItems_zip hd hagg D ps (i + 1) (fun q hq => hp q (by simp [hq])) e1' e2'
    simp only [List.length_cons, List.range'_succ, Op.eqItems, Sem.run_bind, px, py, Result.andThen_ok, hp p (by simp), List.all_cons]
    cases p.2.2
    · simp
    · simpa using ih

theorem zip_all {α : Type} [BEq α] [LawfulBEq α] (f : α → Value) : ∀ (l l' : List α), l.length = l'.length →
    ∃ ps : List (Value × Value × Bool), ps.map (·.1) = l.map f ∧ ps.map (·.2.1) = l'.map f ∧ ps.all (·.2.2) = (l == l') ∧ (∀ p ∈ ps, ∃ x y, p = (f x, f y, x == y)) ∧ ps.length = l.length
  | [], [], _ => ⟨[], rfl, rfl, rfl, fun _ h => by simp at h, rfl⟩
  | [], _ :: _, h => by simp at h
  | _ :: _, [], h => by simp at h
  | x :: l, y :: l', h => by
    obtain ⟨ps, h1, h2, h3, h4, h5⟩ := zip_all f l l' (by simpa using h)
    refine ⟨(f x, f y, x == y) :: ps, by simp [h1], by simp [h2], by simp [h3], fun p hp => ?_, by simp [h5]⟩
    rcases List.mem_cons.1 hp with rfl | hp
    · exact ⟨x, y, rfl⟩
    · exact h4 p hp

theorem eqSeg {α : Type} [BEq α] [LawfulBEq α] (f : α → Value) {e n : Nat} {d : TypeDesc} (hd : P.underlying e = some d) (hagg : (TK.of d).isAgg = false) (D : Nat) (hf : ∀ x y : α, (Op.equalIn D e (f x) (f y)).run P w = .ok (x == y) w)
    {l l' : List α} (h1 : l.length = n) (h2 : l'.length = n) {cs cs' : Array Value} (hc : cs.toList = l.map f) (hc' : cs'.toList = l'.map f) :
    (Op.eqItems D e 1 cs cs' (List.range n)).run P w = .ok (l == l') w := by
  obtain ⟨ps, g1, g2, g3, g4, g5⟩ := zip_all f l l' (by omega)
  have := eqItems_zip (P := P) (w := w) hd hagg D (xs := cs.toList) (ys := cs'.toList) ps 0 (fun p hp => by
    obtain ⟨x, y, rfl⟩ := g4 p hp; exact hf x y) (by rw [g1, hc]; rfl) (by rw [g2, hc']; rfl)
  rw [g3, g5, h1] at this
  simpa [List.range_eq_range'] using this

theorem aeqIs_sound {f : AV → AV → Option (Bool × Bool)} {e D : Nat} {te : TI} (hte : G.ty e = some te) {xs ys : List AV} {vs vs' : List Value} (h1 : RL ρ I w xs vs) (h2 : RL ρ I w ys vs')
    (hf : ∀ a b p, f a b = some p → p.1 = true → ∀ va vb, rel ρ I w a va → rel ρ I w b vb → (Op.equalIn D e va vb).run P w = .ok p.2 w) : ∀ {n i : Nat} {p : Bool × Bool}, aeqIs f te xs ys n i = some p → p.1 = true →
    (Op.eqItems D e te.size vs.toArray vs'.toArray (List.range' i n)).run P w = .ok p.2 w
  | 0, i, p, h, _ => by simp [aeqIs] at h; subst h; simp [Op.eqItems]
  | n + 1, i, p, h, hp => by
    unfold aeqIs at h
    split at h
    · rename_i c a c' b ha hb
      split at h
      · rename_i d r d' s hr hs
        simp only [Option.some.injEq] at h
        subst h
        simp only [Bool.and_eq_true] at hp
        obtain ⟨⟨hc, hc'⟩, hd, hd'⟩ := hp
        obtain ⟨va, pa, ra⟩ := run_part (w := w) hte h1 ha hc
        obtain ⟨vb, pb, rb⟩ := run_part (w := w) hte h2 hb hc'
        have e1 := hf a b _ hr hd va vb ra rb
        have ih := aeqIs_sound hte h1 h2 hf hs hd'
        simp only [List.range'_succ, Op.eqItems, Sem.run_bind, pa, pb, Result.andThen_ok, e1]
        cases r
        · simp
        · simpa using ih
      · simp at h
    · simp at h
theorem aeqFs_sound {f : Nat → AV → AV → Option (Bool × Bool)} {D : Nat} {xs ys : List AV} {vs vs' : List Value} (h1 : RL ρ I w xs vs) (h2 : RL ρ I w ys vs')
    (hf : ∀ t a b p, f t a b = some p → p.1 = true → ∀ va vb, rel ρ I w a va → rel ρ I w b vb → (Op.equalIn D t va vb).run P w = .ok p.2 w) : ∀ {fs : List Field} {p : Bool × Bool},
    aeqFs G f xs ys (fs.map fun f => (f.offset, f.type)) = some p → p.1 = true → (fs.all fun f => f.name != "_") = true →
    (Op.eqFields D vs.toArray vs'.toArray fs).run P w = .ok p.2 w
  | [], p, h, _, _ => by simp [aeqFs] at h; subst h; simp [Op.eqFields]
  | g :: fs, p, h, hp, hn => by
    rw [List.map_cons] at h
    unfold aeqFs at h
    simp only [List.all_cons, Bool.and_eq_true, bne_iff_ne] at hn
    split at h
    · rename_i tf htf
      split at h
      · rename_i c a c' b ha hb
        split at h
        · rename_i d r d' s hr hs
          simp only [Option.some.injEq] at h
          subst h
          simp only [Bool.and_eq_true] at hp
          obtain ⟨⟨hc, hc'⟩, hd, hd'⟩ := hp
          obtain ⟨va, pa, ra⟩ := run_part (w := w) htf h1 ha hc
          obtain ⟨vb, pb, rb⟩ := run_part (w := w) htf h2 hb hc'
          have e1 := hf g.type a b _ hr hd va vb ra rb
          have ih := aeqFs_sound h1 h2 hf hs hd' hn.2
          simp only [Op.eqFields, hn.1, ne_eq, not_false_eq_true, if_true, Sem.run_bind, pa, pb, Result.andThen_ok, e1]
          cases r
          · simp
          · simpa using ih
        · simp at h
      · simp at h
    · simp at h

theorem TK.of_isInt {d : TypeDesc} (h : (TK.of d).isInt = true) : ∃ k, d = .int k := by
  cases d <;> simp [TK.of, TK.isInt] at h
  exact ⟨_, rfl⟩

theorem aeqT_sound : ∀ (d t : Nat) (a b : AV) (p : Bool × Bool), aeqT G d t a b = some p → p.1 = true → ∀ (D : Nat) (va vb : Value), rel ρ I w a va → rel ρ I w b vb → (Op.equalIn (D + d + 1) t va vb).run P w = .ok p.2 w
  | 0, t, a, b, p, h => by simp [aeqT] at h
  | d + 1, t, a, b, p, h => by
    intro hp D va vb ra rb
    unfold aeqT at h
    split at h
    · simp at h
    · rename_i ti ht
      obtain ⟨j, dd, q1, q2, q3, _, q5, _, _, q8⟩ := ty_ok ht
      have seg : ∀ {α : Type} [BEq α] [LawfulBEq α] (f : α → Value) (e n m m' : Nat) (l l' : List α) (te : TI) (cs cs' : Array Value), ti.kind = .arr n e → G.ty e = some te → ((te.size == 1 && te.kind.isInt) && (n == m && n == m')) = true →
          l.length = m → l'.length = m' → cs.toList = l.map f → cs'.toList = l'.map f → (∀ (D' : Nat) (x y : α) (k : IntKind), P.underlying e = some (.int k) → (Op.equalIn (D' + 1) e (f x) (f y)).run P w = .ok (x == y) w) →
          (Op.equalIn (D + (d + 1) + 1) t (.agg cs) (.agg cs')).run P w = .ok (l == l') w := by
        intro α _ _ f e n m m' l l' te cs cs' hk hte hp h1 h2 hc hc' hf
        obtain rfl := TK.of_arr (hk.symm.trans q5)
        obtain ⟨je, de, e1, e2, e3, _, e5, _⟩ := ty_ok hte
        simp only [Bool.and_eq_true, beq_iff_eq] at hp
        obtain ⟨⟨p1, p2⟩, rfl, rfl⟩ := hp
        have hsz : P.cellsOf e = 1 := by simp [Program.cellsOf, e1]; omega
        rw [run_equalIn_array w (D + (d + 1)) cs cs' q2 e1, hsz]
        rw [e5] at p2
        obtain ⟨k, rfl⟩ := TK.of_isInt p2
        exact eqSeg f e2 rfl _ (fun x y => hf _ x y k e2) h1 h2 hc hc'
      split at h
      · rename_i n e m l m' l' hk
        split at h
        · rename_i te hte
          simp only [Option.some.injEq] at h
          subst h
          obtain ⟨cs, rfl, hc, hl⟩ := rel_b8.1 ra
          obtain ⟨cs', rfl, hc', hl'⟩ := rel_b8.1 rb
          exact seg _ e n m m' l l' te cs cs' hk hte hp hl hl' hc hc' fun D' x y k hu => by simp [Op.equalIn, run_underlying hu, beq_toNat8]
        · simp at h
      · rename_i n e m l m' l' hk
        split at h
        · rename_i te hte
          simp only [Option.some.injEq] at h
          subst h
          obtain ⟨cs, rfl, hc, hl⟩ := rel_w32.1 ra
          obtain ⟨cs', rfl, hc', hl'⟩ := rel_w32.1 rb
          exact seg _ e n m m' l l' te cs cs' hk hte hp hl hl' hc hc' fun D' x y k hu => by simp [Op.equalIn, run_underlying hu, beq_toNat32]
        · simp at h
      · rename_i n e m l m' l' hk
        split at h
        · rename_i te hte
          simp only [Option.some.injEq] at h
          subst h
          obtain ⟨cs, rfl, hc, hl⟩ := rel_w64.1 ra
          obtain ⟨cs', rfl, hc', hl'⟩ := rel_w64.1 rb
          exact seg _ e n m m' l l' te cs cs' hk hte hp hl hl' hc hc' fun D' x y k hu => by simp [Op.equalIn, run_underlying hu, beq_toNat64]
        · simp at h
      · rename_i n e xs ys hk
        obtain rfl := TK.of_arr (hk.symm.trans q5)
        obtain ⟨cs, rfl, hx⟩ := rel_agg.1 ra
        obtain ⟨cs', rfl, hy⟩ := rel_agg.1 rb
        split at h
        · rename_i te hte
          obtain ⟨je, de, e1, e2, e3, _, e5, _⟩ := ty_ok hte
          have hsz : P.cellsOf e = te.size := by simp [Program.cellsOf, e1, e3]
          rw [run_equalIn_array w (D + (d + 1)) cs cs' q2 e1, hsz]
          have := aeqIs_sound hte hx hy (fun a b p h hp va vb ra rb => aeqT_sound d e a b p h hp D va vb ra rb) h hp
          rw [Nat.add_assoc] at this
          simpa [List.range_eq_range'] using this
        · simp at h
      · rename_i fs xs ys hk
        obtain ⟨fields, rfl, rfl⟩ := TK.of_str (hk.symm.trans q5)
        obtain ⟨cs, rfl, hx⟩ := rel_agg.1 ra
        obtain ⟨cs', rfl, hy⟩ := rel_agg.1 rb
        split at h
        · rename_i c r hr
          simp only [Option.some.injEq] at h
          subst h
          simp only [Bool.and_eq_true] at hp
          obtain ⟨hok, hc⟩ := hp
          have hok := q8 hok
          simp only [strOk, Bool.and_eq_true, Bool.not_eq_true'] at hok
          have hfs : P.fieldsOf t = fields := by simp [Program.fieldsOf, q2]
          rw [run_equalIn_struct w (D + (d + 1)) t cs cs' (by rw [hfs]; exact q2) hok.2, hfs]
          rw [hfs] at hok
          exact aeqFs_sound (p := (c, r)) hx hy (fun t a b p h hp va vb ra rb => aeqT_sound d t a b p h hp D va vb ra rb) hr hc (by have := hok.1; rwa [← Array.all_toList] at this)
        · simp at h
      · split at h
        · rename_i r hr
          simp only [Option.some.injEq] at h
          subst h
          exact aeqK_sound q2 q5 ra rb hr (D + (d + 1))
        · simp at h

theorem eqGuard_ok (op : BinOp) (t : TypeId) (x y : Operand) {a b : Value} (h1 : ∀ cs, a ≠ .agg cs) (h2 : a ≠ .nilIface) : (eqGuard op t x y a b).run P w = .ok () w := by
  cases op <;> simp only [eqGuard] <;> first | rfl | (cases a <;> first | rfl | exact absurd rfl h2 | exact absurd rfl (h1 _))

/-- Is it neither a struct or an array nor something unknown? -/
def plainA : AV → Bool
  | .int .. | .u8 _ | .u32 _ | .u64 _ | .bool _ | .str _ => true
  | _ => false

theorem plainA_sound {a : AV} {v : Value} (r : rel ρ I w a v) (h : plainA a = true) : (∀ cs, v ≠ .agg cs) ∧ v ≠ .nilIface := by
  cases a <;> simp [plainA] at h <;> simp only [rel_u8, rel_u32, rel_u64, rel_int, rel_bool, rel_str] at r <;> subst r <;> exact ⟨fun _ h => (by cases h), fun h => (by cases h)⟩

theorem toI_plain {a : AV} {k : IntKind} {n : Int} (h : a.toI = some (k, n)) : plainA a = true := by
  cases a <;> simp_all [AV.toI, plainA]
theorem aArith_plain {op : BinOp} {a b : AV} {p : Bool × AV} (h : aArith op a b = some p) : plainA a = true := by
  unfold aArith at h
  split at h <;> first | rfl | simp at h
theorem aShift_plain {op : BinOp} {a b : AV} {p : Bool × AV} (h : aShift op a b = some p) : plainA a = true := by
  unfold aShift at h
  split at h
  · simp at h
  · split at h <;> first | rfl | simp at h
theorem aCmp_plain {op : BinOp} {a b : AV} {p : Bool × AV} (h : aCmp op a b = some p) : plainA a = true := by
  unfold aCmp at h
  split at h
  · rename_i ha _; exact toI_plain ha
  · simp at h
theorem aBoolEq_plain {op : BinOp} {a b : AV} {p : Bool × AV} (h : aBoolEq op a b = some p) : plainA a = true := by
  unfold aBoolEq at h
  split at h <;> first | rfl | simp at h
theorem aStr_plain {op : BinOp} {a b : AV} {p : Bool × AV} (h : aStr op a b = some p) : plainA a = true := by
  unfold aStr at h
  split at h <;> first | rfl | simp at h

theorem aeqT_agg {t : Nat} {ti : TI} (ht : G.ty t = some ti) (hw : ti.kind.isAgg = true) {x y : AV} {vx vy : Value} (rx : rel ρ I w x vx) (ry : rel ρ I w y vy) {p : Bool × Bool} (h : aeqT G 8 t x y = some p) : ∃ cs cs', vx = .agg cs ∧ vy = .agg cs' := by
  unfold aeqT at h
  rw [ht] at h
  simp only at h
  split at h
  · obtain ⟨cs, rfl, _⟩ := rel_b8.1 rx; obtain ⟨cs', rfl, _⟩ := rel_b8.1 ry; exact ⟨_, _, rfl, rfl⟩
  · obtain ⟨cs, rfl, _⟩ := rel_w32.1 rx; obtain ⟨cs', rfl, _⟩ := rel_w32.1 ry; exact ⟨_, _, rfl, rfl⟩
  · obtain ⟨cs, rfl, _⟩ := rel_w64.1 rx; obtain ⟨cs', rfl, _⟩ := rel_w64.1 ry; exact ⟨_, _, rfl, rfl⟩
  · obtain ⟨cs, rfl, _⟩ := rel_agg.1 rx; obtain ⟨cs', rfl, _⟩ := rel_agg.1 ry; exact ⟨_, _, rfl, rfl⟩
  · obtain ⟨cs, rfl, _⟩ := rel_agg.1 rx; obtain ⟨cs', rfl, _⟩ := rel_agg.1 ry; exact ⟨_, _, rfl, rfl⟩
  · split at h
    · rename_i r hr
      unfold aeqK at hr
      split at hr
      all_goals first | (simp at hr; done) | simp_all [TK.isAgg]
    · simp at h

theorem aAggEq_sound {op : BinOp} {t : Nat} {ti : TI} (ht : G.ty t = some ti) (hw : ti.kind.isAgg = true) {x y : AV} {vx vy : Value} (rx : rel ρ I w x vx) (ry : rel ρ I w y vy) {p : Bool × AV} (h : aAggEq G op t ti x y = some p) (hp : p.1 = true) :
    (∀ xo yo, (eqGuard op t xo yo vx vy).run P w = .ok () w) ∧ ∃ z, (binOp op t vx vy).run P w = .ok z w ∧ rel ρ I w p.2 z := by
  obtain ⟨j, dd, q1, q2, q3, _, q5, _, q7, _⟩ := ty_ok ht
  unfold aAggEq at h
  split at h
  · split at h
    · rename_i c r hr
      simp only [Option.some.injEq] at h
      subst h
      simp only [Bool.and_eq_true] at hp
      obtain ⟨cs, cs', rfl, rfl⟩ := aeqT_agg ht hw rx ry hr
      have he : (Op.equalIn 10000 t (.agg cs) (.agg cs')).run P w = .ok r w := aeqT_sound 8 t x y (c, r) hr hp.2 9991 _ _ rx ry
      exact ⟨fun xo yo => run_eqGuard_agg w _ t xo yo cs cs' (q7 hp.1), _, by rw [run_eql_struct, he]; rfl, rel_bool.2 rfl⟩
    · simp at h
  · split at h
    · rename_i c r hr
      simp only [Option.some.injEq] at h
      subst h
      simp only [Bool.and_eq_true] at hp
      obtain ⟨cs, cs', rfl, rfl⟩ := aeqT_agg ht hw rx ry hr
      have he : (Op.equalIn 10000 t (.agg cs) (.agg cs')).run P w = .ok r w := aeqT_sound 8 t x y (c, r) hr hp.2 9991 _ _ rx ry
      exact ⟨fun xo yo => run_eqGuard_agg w _ t xo yo cs cs' (q7 hp.1), _, by rw [run_neq_struct, he]; rfl, rel_bool.2 rfl⟩
    · simp at h
  · simp at h

theorem run_bin {op : BinOp} {t : Nat} {x y : AV} {vx vy : Value} (rx : rel ρ I w x vx) (ry : rel ρ I w y vy) {p : Bool × AV} (h : aBin G op t x y = some p) (hp : p.1 = true) :
    (∀ xo yo, (eqGuard op t xo yo vx vy).run P w = .ok () w) ∧ ∃ z, (binOp op t vx vy).run P w = .ok z w ∧ rel ρ I w p.2 z := by
  have pl : plainA x = true → ∀ xo yo, (eqGuard op t xo yo vx vy).run P w = .ok () w := fun h xo yo => by
    obtain ⟨g1, g2⟩ := plainA_sound rx h
    exact eqGuard_ok op t xo yo g1 g2
  unfold aBin at h
  split at h
  · rename_i r hr
    simp only [Option.some.injEq] at h
    subst h
    exact ⟨pl (aArith_plain hr), run_arith rx ry hr hp⟩
  · split at h
    · rename_i r hr
      simp only [Option.some.injEq] at h
      subst h
      split at hr
      · exact ⟨pl (aShift_plain hr), run_shift rx ry hr hp⟩
      · exact ⟨pl (aShift_plain hr), run_shift rx ry hr hp⟩
      · rename_i h1 h2
        exact ⟨pl (aCmp_plain hr), run_cmp ⟨fun h => h1 h, fun h => h2 h⟩ rx ry hr hp⟩
    · split at h
      · rename_i ti ht
        obtain ⟨j, d, h1, h2, _, _, h5, _⟩ := ty_ok ht
        split at h
        · rename_i hk
          rw [hk] at h5
          obtain rfl := TK.of_bool h5
          exact ⟨pl (aBoolEq_plain h), run_boolEq h2 rx ry h⟩
        · exact ⟨pl (aStr_plain h), run_str rx ry h hp⟩
        · rename_i hk
          exact aAggEq_sound ht (by rw [hk]; rfl) rx ry h hp
        · rename_i hk
          exact aAggEq_sound ht (by rw [hk]; rfl) rx ry h hp
        · simp at h
      · simp at h

theorem RV_mapev {ev : Operand → AV} {e : Operand → Value} (r : ∀ x, rel ρ I w (ev x) (e x)) (l : List Operand) : RV ρ I w (l.map ev) (l.map e) := by
  induction l with
  | nil => simp [RV]
  | cons a as ih => exact RV_cons.2 ⟨_, _, rfl, r a, ih⟩

theorem run_sub64 (x y b : Nat) (hb : b ≤ 1) (w : World) :
    (sub64Entry #[.int .u64 x, .int .u64 y, .int .u64 b]).run P w =
      .ok (.tuple #[.int .u64 (((x + 18446744073709551616 - y - b) % 18446744073709551616 : Nat) : Int), .int .u64 ((if x < y + b then 1 else 0 : Nat) : Int)]) w := by
  have : b = 0 ∨ b = 1 := by omega
  rcases this with rfl | rfl <;> rfl


theorem run_aext {f : FuncId} {args : List AV} {vs : List Value} (r : RV ρ I w args vs) {p : Bool × AV} (h : aext (G.x f) args = some p) (hp : p.1 = true) :
    ∃ x, (callFunc f vs.toArray).run P w = .ok (.value x) w ∧ rel ρ I w p.2 x := by
  unfold aext at h
  split at h
  · rename_i x y c hx
    simp only [Option.some.injEq] at h
    subst h
    have he := G.addOk f hx
    have hc := leB_iff.1 hp
    obtain ⟨_, _, rfl, e1, r1⟩ := RV_cons.1 r
    obtain ⟨_, _, rfl, e2, r2⟩ := RV_cons.1 r1
    obtain ⟨_, _, rfl, e3, r3⟩ := RV_cons.1 r2
    rw [RV_nil] at r3
    rw [rel_u64] at e1 e2 e3
    subst r3 e1 e2 e3
    refine ⟨.tuple #[.int .u64 (x + y + c).toNat, .int .u64 (carry64 x y c).toNat], ?_, rel_tup.2 ⟨_, rfl, ?_⟩⟩
    · show (callFunc f #[_, _, _]).run P w = _
      rw [he, run_add64 _ _ _ (by omega) (by omega) (by omega) (by omega)]
      simp only [Result.andThen_ok]
      have hx := x.toNat_lt
      have hy := y.toNat_lt
      have e1 : ((x.toNat : Int) + y.toNat + c.toNat) % 18446744073709551616 = ((x + y + c).toNat : Int) := by
        rw [UInt64.toNat_add, UInt64.toNat_add]; omega
      have e2 : ((x.toNat : Int) + y.toNat + c.toNat) / 18446744073709551616 = ((carry64 x y c).toNat : Int) := by
        rw [carry64_eq]
        split
        · rw [show (0 : UInt64).toNat = 0 from rfl]; omega
        · rw [show (1 : UInt64).toNat = 1 from rfl]; omega
      rw [e1, e2]
    · exact RV_cons.2 ⟨_, _, rfl, rel_u64.2 rfl, RV_cons.2 ⟨_, _, rfl, rel_u64.2 rfl, rfl⟩⟩
  · rename_i x y c hx
    simp only [Option.some.injEq] at h
    subst h
    have he := G.subOk f hx
    have hc := leB_iff.1 hp
    obtain ⟨_, _, rfl, e1, r1⟩ := RV_cons.1 r
    obtain ⟨_, _, rfl, e2, r2⟩ := RV_cons.1 r1
    obtain ⟨_, _, rfl, e3, r3⟩ := RV_cons.1 r2
    rw [RV_nil] at r3
    rw [rel_u64] at e1 e2 e3
    subst r3 e1 e2 e3
    refine ⟨.tuple #[.int .u64 (x - y - c).toNat, .int .u64 (borrow64 x y c).toNat], ?_, rel_tup.2 ⟨_, rfl, ?_⟩⟩
    · show (callFunc f #[_, _, _]).run P w = _
      rw [he, run_sub64 _ _ _ hc]
      simp only [Result.andThen_ok]
      have hx := x.toNat_lt
      have hy := y.toNat_lt
      have e1 : (x.toNat + 18446744073709551616 - y.toNat - c.toNat) % 18446744073709551616 = (x - y - c).toNat := by
        rw [UInt64.toNat_sub, UInt64.toNat_sub]; omega
      have e2 : (if x.toNat < y.toNat + c.toNat then 1 else 0) = (borrow64 x y c).toNat := by
        rw [borrow64_eq]
        split <;> rfl
      rw [e1, e2]
    · exact RV_cons.2 ⟨_, _, rfl, rel_u64.2 rfl, RV_cons.2 ⟨_, _, rfl, rel_u64.2 rfl, rfl⟩⟩
  · simp at h

theorem run_alen {t : Nat} {ti : TI} (ht : G.ty t = some ti) {x v : AV} {vx : Value} (r : rel ρ I w x vx) (h : alen ti.kind x = some v) {tys : Array TypeId} (hty : tys[0]? = some t) (ty : TypeId) :
    ∃ y, (Builtin.len_ tys ty #[vx]).run P w = .ok y w ∧ rel ρ I w v y := by
  obtain ⟨j, d, h1, h2, h3, _, h5, _⟩ := ty_ok ht
  unfold alen at h
  split at h <;> simp only [Option.some.injEq, reduceCtorEq] at h <;> subst h <;> rename_i hk <;> rw [hk] at h5
  · obtain rfl := TK.of_slice h5
    obtain ⟨a, cap, rfl, _⟩ := rel_vec8.1 r
    exact ⟨_, by simp [Builtin.len_, hty, run_underlying h2, goInt], rel_int.2 rfl⟩
  · obtain rfl := TK.of_slice h5
    obtain ⟨_, vs, _, a, cap, rfl, _⟩ := rel_vec.1 r
    exact ⟨_, by simp [Builtin.len_, hty, run_underlying h2, goInt], rel_int.2 rfl⟩
  · obtain rfl := TK.of_slice h5
    rcases rel_sl.1 r with ⟨b, cap, _, rfl, _⟩ | ⟨rfl, a, rfl⟩
    · exact ⟨_, by simp [Builtin.len_, hty, run_underlying h2, goInt], rel_int.2 rfl⟩
    · exact ⟨_, by simp [Builtin.len_, hty, run_underlying h2, goInt], rel_int.2 rfl⟩
  · obtain rfl := TK.of_string h5
    obtain rfl := rel_str.1 r
    exact ⟨.int .i64 _, by simp [Builtin.len_, hty, run_underlying h2, goInt]; rfl, by rw [rel_int]; simp [ByteArray.size]⟩

theorem run_aminmax {mx : Bool} {args : List AV} {vs : List Value} (r : RV ρ I w args vs) {v : AV} (h : aminmax mx args = some v) (tys : Array TypeId) (ty : TypeId) :
    ∃ y, (if mx then Builtin.max_ tys ty vs.toArray else Builtin.min_ tys ty vs.toArray).run P w = .ok y w ∧ rel ρ I w v y := by
  unfold aminmax at h
  split at h
  · rename_i x y
    simp only [Option.some.injEq] at h
    subst h
    obtain ⟨_, _, rfl, e1, r1⟩ := RV_cons.1 r
    obtain ⟨_, _, rfl, e2, r2⟩ := RV_cons.1 r1
    rw [RV_nil] at r2
    rw [rel_int] at e1 e2
    subst r2 e1 e2
    cases mx
    · refine ⟨.int .i64 (min x y), ?_, rel_int.2 rfl⟩
      simp [Builtin.min_, Builtin.min2]
      omega
    · refine ⟨.int .i64 (max x y), ?_, rel_int.2 rfl⟩
      simp [Builtin.max_, Builtin.max2]
      omega
  · simp at h

theorem known_cells {a : AV} {v : Value} (r : rel ρ I w a v) (ha : known a = true) : R ρ I w a v.cells.toList := by
  cases hi : isAg a with
  | true =>
    obtain ⟨cs, rfl, h⟩ := (rel_ag hi).1 r
    exact h
  | false =>
    have h := rel_one hi r
    have hv : v.cells = #[v] := by
      have one : ∀ x : Value, x.oneCell' = true → x.cells = #[x] := fun x hx => by cases x <;> simp_all [Value.oneCell', Value.cells]
      cases a <;> simp only [isAg, reduceCtorEq] at hi
      case any => simp [known] at ha
      case raw x => rw [rel_raw] at r; subst r; exact one _ (by simpa [known] using ha)
      case int => rw [rel_int] at r; subst r; rfl
      case u8 => rw [rel_u8] at r; subst r; rfl
      case u32 => rw [rel_u32] at r; subst r; rfl
      case u64 => rw [rel_u64] at r; subst r; rfl
      case bool => rw [rel_bool] at r; subst r; rfl
      case str => rw [rel_str] at r; subst r; rfl
      case ptr => obtain ⟨b, _, rfl⟩ := rel_ptr.1 r; rfl
      case pix => obtain ⟨b, _, _, rfl⟩ := rel_pix.1 r; rfl
      case sl => rcases rel_sl.1 r with ⟨b, cap, _, rfl, _⟩ | ⟨_, a, rfl⟩ <;> rfl
      case vec8 => obtain ⟨a, cap, rfl, _⟩ := rel_vec8.1 r; rfl
      case vec => obtain ⟨_, vs, _, a, cap, rfl, _⟩ := rel_vec.1 r; rfl
      case vp => obtain ⟨vs, _, b, off, rfl, _⟩ := rel_vp.1 r; rfl
      case vpx => obtain ⟨_, vs, _, b, off, rfl, _⟩ := rel_vpx.1 r; rfl
      case fn => obtain ⟨x, y, rfl, _⟩ := rel_fn.1 r; rfl
      case tup => obtain ⟨cs, rfl, _⟩ := rel_tup.1 r; rfl
    rw [hv]; exact h

mutual
theorem oneA_sound : ∀ (a : AV) (ys : List Value), R ρ I w a ys → oneA a = true → ∀ v ∈ ys, v.oneCell' = true
  | .agg l, ys, h, ha => oneL_sound l ys h (by simpa [oneA] using ha)
  | .b8 _ l, _, ⟨h, _⟩, _ => by subst h; intro v hv; simp [v8] at hv; obtain ⟨x, _, rfl⟩ := hv; rfl
  | .w32 _ l, _, ⟨h, _⟩, _ => by subst h; intro v hv; simp [v32] at hv; obtain ⟨x, _, rfl⟩ := hv; rfl
  | .w64 _ l, _, ⟨h, _⟩, _ => by subst h; intro v hv; simp [v64] at hv; obtain ⟨x, _, rfl⟩ := hv; rfl
  | .raw x, _, h, ha => by cases h; simpa [oneA] using ha
  | .int _ _, _, h, _ | .u8 _, _, h, _ | .u32 _, _, h, _ | .u64 _, _, h, _ | .bool _, _, h, _ | .str _, _, h, _ => by cases h; intro v hv; simp at hv; subst hv; rfl
  | .ptr _ _, _, ⟨v, h, b, _, h2⟩, _ => by subst h h2; intro v hv; simp at hv; subst hv; rfl
  | .pix _ _ _ _, _, ⟨v, h, b, _, _, h2⟩, _ => by subst h h2; intro v hv; simp at hv; subst hv; rfl
  | .sl _ _ _ _, _, ⟨v, h, h1⟩, _ => by
    subst h; intro v hv; simp at hv; subst hv
    rcases h1 with ⟨b, cap, _, rfl, _⟩ | ⟨_, a, rfl⟩ <;> rfl
  | .vec8 _ _, _, ⟨v, h, a, cap, h1, _⟩, _ => by subst h h1; intro v hv; simp at hv; subst hv; rfl
  | .vec _ _ _, _, ⟨v, h, _, vs, _, a, cap, h1, _⟩, _ => by subst h h1; intro v hv; simp at hv; subst hv; rfl
  | .vp _ _, _, ⟨v, h, vs, _, b, off, h1, _⟩, _ => by subst h h1; intro v hv; simp at hv; subst hv; rfl
  | .vpx _ _ _ _, _, ⟨v, h, _, vs, _, b, off, h1, _⟩, _ => by subst h h1; intro v hv; simp at hv; subst hv; rfl
  | .fn _ _ _, _, ⟨v, h, x, y, h1, _⟩, _ => by subst h h1; intro v hv; simp at hv; subst hv; rfl
  | .any, _, _, ha | .tup _, _, _, ha => by simp [oneA] at ha
theorem oneL_sound : ∀ (l : List AV) (ys : List Value), RL ρ I w l ys → oneL l = true → ∀ v ∈ ys, v.oneCell' = true
  | [], _, h, _ => by cases h; intro v hv; simp at hv
  | a :: as, _, ⟨ys, zs, h0, h1, h2⟩, ha => by
    subst h0
    simp only [oneL, Bool.and_eq_true] at ha
    intro v hv
    rcases List.mem_append.1 hv with hv | hv
    · exact oneA_sound a ys h1 ha.1 v hv
    · exact oneL_sound as zs h2 ha.2 v hv
end
end
end Go.V
