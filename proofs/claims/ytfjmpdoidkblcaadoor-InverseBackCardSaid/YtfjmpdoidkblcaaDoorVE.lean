/- The abstract layer (second state), part E: addresses, loads, parts, comparisons, values of parts. -/
import Derived.Test.YtfjmpdoidkblcaaDoorVC
import Derived.Laws.StructEq
import Derived.Deep.MidRow
set_option linter.unusedSimpArgs false
set_option linter.unusedVariables false
namespace Go.V
open Go

section
variable {P : Program} {G : Env P} {ρ : Rho} {I : Imm} {H : Heap} {w : World}

theorem eat8_sound : ∀ {l : List UInt8} {xs ys : List Value}, eat8 l xs = some ys → xs = v8 l ++ ys
  | [], _, _, h => by simp only [eat8, Option.some.injEq] at h; subst h; rfl
  | x :: l, xs, ys, h => by
    unfold eat8 at h
    split at h
    · rename_i hx; simp at hx
    · rename_i x' l' n xs hx
      simp only [List.cons.injEq] at hx
      obtain ⟨rfl, rfl⟩ := hx
      split at h
      · rename_i hn; subst hn; rw [eat8_sound h]; rfl
      · simp at h
    · simp at h
theorem eat32_sound : ∀ {l : List UInt32} {xs ys : List Value}, eat32 l xs = some ys → xs = v32 l ++ ys
  | [], _, _, h => by simp only [eat32, Option.some.injEq] at h; subst h; rfl
  | x :: l, xs, ys, h => by
    unfold eat32 at h
    split at h
    · rename_i hx; simp at hx
    · rename_i x' l' n xs hx
      simp only [List.cons.injEq] at hx
      obtain ⟨rfl, rfl⟩ := hx
      split at h
      · rename_i hn; subst hn; rw [eat32_sound h]; rfl
      · simp at h
    · simp at h
theorem eat64_sound : ∀ {l : List UInt64} {xs ys : List Value}, eat64 l xs = some ys → xs = v64 l ++ ys
  | [], _, _, h => by simp only [eat64, Option.some.injEq] at h; subst h; rfl
  | x :: l, xs, ys, h => by
    unfold eat64 at h
    split at h
    · rename_i hx; simp at hx
    · rename_i x' l' n xs hx
      simp only [List.cons.injEq] at hx
      obtain ⟨rfl, rfl⟩ := hx
      split at h
      · rename_i hn; subst hn; rw [eat64_sound h]; rfl
      · simp at h
    · simp at h

mutual
theorem eat_sound : ∀ (a : AV) {xs ys : List Value}, eat a xs = some ys → ∃ zs, xs = zs ++ ys ∧ ∀ ρ I w, R ρ I w a zs
  | .int k n, xs, ys, h => by
    simp only [eat] at h
    split at h
    · rename_i k' n' xs
      split at h
      · rename_i hk; obtain ⟨rfl, rfl⟩ := hk
        simp only [Option.some.injEq] at h; subst h
        exact ⟨[_], rfl, fun _ _ _ => rfl⟩
      · simp at h
    · simp at h
  | .u8 x, xs, ys, h => by
    rw [eat] at h; exact ⟨v8 [x], eat8_sound h, fun _ _ _ => rfl⟩
  | .u32 x, xs, ys, h => by
    rw [eat] at h; exact ⟨v32 [x], eat32_sound h, fun _ _ _ => rfl⟩
  | .u64 x, xs, ys, h => by
    rw [eat] at h; exact ⟨v64 [x], eat64_sound h, fun _ _ _ => rfl⟩
  | .bool b, xs, ys, h => by
    simp only [eat] at h
    split at h
    · rename_i b' xs
      split at h
      · rename_i hk; subst hk
        simp only [Option.some.injEq] at h; subst h
        exact ⟨[_], rfl, fun _ _ _ => rfl⟩
      · simp at h
    · simp at h
  | .str s, xs, ys, h => by
    simp only [eat] at h
    split at h
    · rename_i t xs
      split at h
      · rename_i hk; subst hk
        simp only [Option.some.injEq] at h; subst h
        exact ⟨[_], rfl, fun _ _ _ => rfl⟩
      · simp at h
    · simp at h
  | .b8 n l, xs, ys, h => by
    rw [eat] at h
    split at h
    · rename_i hn; exact ⟨v8 l, eat8_sound h, fun _ _ _ => ⟨rfl, hn⟩⟩
    · simp at h
  | .w32 n l, xs, ys, h => by
    rw [eat] at h
    split at h
    · rename_i hn; exact ⟨v32 l, eat32_sound h, fun _ _ _ => ⟨rfl, hn⟩⟩
    · simp at h
  | .w64 n l, xs, ys, h => by
    rw [eat] at h
    split at h
    · rename_i hn; exact ⟨v64 l, eat64_sound h, fun _ _ _ => ⟨rfl, hn⟩⟩
    · simp at h
  | .vec8 f l, xs, ys, h => by
    simp only [eat] at h
    split at h
    · simp only [Option.some.injEq] at h; subst h
      exact ⟨[_], rfl, fun _ _ _ => ⟨_, rfl, none, 0, rfl, Nat.le_refl _, fun _ => rfl, .inl rfl⟩⟩
    · simp at h
  | .vec f k l, xs, ys, h => by
    simp only [eat] at h
    split at h
    · simp only [Option.some.injEq] at h; subst h
      exact ⟨[_], rfl, fun _ _ _ => ⟨_, rfl, fun _ h => by simp at h, [], rfl, none, 0, rfl, Nat.le_refl _, fun _ => rfl, .inl rfl⟩⟩
    · simp at h
  | .raw v, xs, ys, h => by
    simp only [eat] at h
    split at h <;> simp only [Option.some.injEq, reduceCtorEq] at h <;> subst h <;> exact ⟨[_], rfl, fun _ _ _ => rfl⟩
  | .agg l, xs, ys, h => by
    simp only [eat] at h
    exact eatL_sound l h
  | .any, _, _, h | .ptr _ _, _, _, h | .pix _ _ _ _, _, _, h | .sl _ _ _ _, _, _, h | .vp _ _, _, _, h | .vpx _ _ _ _, _, _, h | .fn _ _ _, _, _, h | .tup _, _, _, h => by simp [eat] at h
theorem eatL_sound : ∀ (l : List AV) {xs ys : List Value}, eatL l xs = some ys → ∃ zs, xs = zs ++ ys ∧ ∀ ρ I w, RL ρ I w l zs
  | [], xs, ys, h => by simp only [eatL, Option.some.injEq] at h; subst h; exact ⟨[], rfl, fun _ _ _ => rfl⟩
  | a :: as, xs, ys, h => by
    simp only [eatL] at h
    split at h
    · rename_i zs hz
      obtain ⟨us, rfl, h1⟩ := eat_sound a hz
      obtain ⟨vs, rfl, h2⟩ := eatL_sound as h
      exact ⟨us ++ vs, by simp, fun ρ I w => ⟨us, vs, rfl, h1 ρ I w, h2 ρ I w⟩⟩
    · simp at h
end
theorem isNil_some {o : Option (List Value)} (h : isNil o = true) : o = some [] := by
  unfold isNil at h; split at h <;> simp_all
theorem chkV_sound {z : AV} {v : Value} (h : chkV z v = true) (ρ : Rho) (I : Imm) (w : World) : rel ρ I w z v := by
  unfold chkV at h
  split at h
  · rename_i hz
    split at h
    · rename_i cs
      obtain ⟨zs, h1, h2⟩ := eat_sound z (isNil_some h)
      exact (rel_ag hz).2 ⟨cs, rfl, by rw [h1]; simpa using h2 ρ I w⟩
    · simp at h
  · rename_i hz
    have hz' : isAg z = false := by simpa using hz
    obtain ⟨zs, h1, h2⟩ := eat_sound z (isNil_some h)
    simp only [List.append_nil] at h1
    obtain ⟨x, hx, hr⟩ := R_one hz' (h2 ρ I w)
    rw [hx] at h1
    simp only [List.cons.injEq, and_true] at h1
    subst h1; exact hr

theorem cell_of_heap {b o : Nat} {cs : List Value} {el : TypeId} {fr : Nat × Nat} (h : w.heap[b]? = some (.cells cs.toArray el fr)) : w.cell? ⟨b, o, none⟩ = cs[o]? := by
  simp [World.cell?, h]
theorem addr_add (b o n : Nat) : (⟨b, o, none⟩ : Addr).add n = ⟨b, o + n, none⟩ := by
  unfold Addr.add; split <;> simp_all

theorem entCells_live {id : Nat} {l : List AV} (h : entCells H id = some l) : ∃ e, H[id]? = some e ∧ e.live = true ∧ e.cells = l ∧ ((∃ f, e = .blk l f) ∨ e.grows = true) := by
  unfold entCells at h
  split at h <;> simp only [Option.some.injEq, reduceCtorEq] at h <;> subst h <;> rename_i hh
  · exact ⟨_, hh, rfl, rfl, .inl ⟨_, rfl⟩⟩
  · exact ⟨_, hh, rfl, rfl, .inr rfl⟩
  · exact ⟨_, hh, rfl, rfl, .inr rfl⟩

/-- The cells of an entry that has a block. -/
theorem ent_block {g : Nat → Option (List AV)} (c : Conc g ρ I H w) {id b : Nat} {l : List AV} (h : entCells H id = some l) (hb : ρ id = some (some b)) :
    ∃ el fr cs rest, w.heap[b]? = some (.cells (List.toArray (cs ++ rest)) el fr) ∧ RL ρ I w l cs ∧ clear fr (cs ++ rest).length ∧ ((∃ f, H[id]? = some (.blk l f)) → rest = []) := by
  obtain ⟨e, he, h1, rfl, h2⟩ := entCells_live h
  rcases h2 with ⟨f, h2⟩ | h2
  · obtain ⟨b', el, fr, cs, g1, g2, g3, g4⟩ := c.blk id _ f (by rw [he, h2])
    obtain rfl : b = b' := by rw [hb] at g1; simpa using g1
    exact ⟨el, fr, cs, [], by simpa using g2, g3, by simpa using g4, fun _ => rfl⟩
  · obtain ⟨_, g1 | ⟨b', el, fr, cs, rest, g1, g2, g3, g4⟩⟩ := c.grow id e he h2
    · rw [hb] at g1; simp at g1
    · obtain rfl : b = b' := by rw [hb] at g1; simpa using g1
      refine ⟨el, fr, cs, rest, g2, g3, g4, fun ⟨f, hf⟩ => ?_⟩
      rw [he] at hf
      simp only [Option.some.injEq] at hf
      rw [hf] at h2; simp [Ent.grows] at h2

theorem ent_cells {g : Nat → Option (List AV)} (c : Conc g ρ I H w) {id b : Nat} {l : List AV} (h : entCells H id = some l) (hb : ρ id = some (some b)) :
    ∃ vs, RL ρ I w l vs ∧ ∀ (i : Nat) (y : Value), vs[i]? = some y → w.cell? ⟨b, i, none⟩ = some y := by
  obtain ⟨el, fr, cs, rest, g1, g2, _⟩ := ent_block c h hb
  refine ⟨cs, g2, fun i y hy => ?_⟩
  have hi : i < cs.length := (List.getElem?_eq_some_iff.1 hy).1
  rw [cell_of_heap g1, List.getElem?_append_left hi, hy]

/-- The cells behind an address. -/
theorem cellsAt_sound {g : Nat → Option (List AV)} (c : Conc g ρ I H w) {a : AV} {x : Value} (r : rel ρ I w a x) {l : List AV} {off : Nat} (h : cellsAt H a = some (l, off)) :
    ∃ b base vs, x = .pointer (some ⟨b, base + off, none⟩) ∧ RL ρ I w l vs ∧ (∀ (i : Nat) (y : Value), vs[i]? = some y → w.cell? ⟨b, base + i, none⟩ = some y) := by
  cases a <;> simp only [cellsAt, reduceCtorEq] at h
  case ptr id o =>
    obtain ⟨b, hb, rfl⟩ := rel_ptr.1 r
    split at h
    · rename_i l' hl
      simp only [Option.some.injEq, Prod.mk.injEq] at h
      obtain ⟨rfl, rfl⟩ := h
      obtain ⟨vs, h1, h2⟩ := ent_cells c hl hb
      exact ⟨b, 0, vs, by simp, h1, fun i y hy => by simpa using h2 i y hy⟩
    · simp at h
  case vp cells i =>
    obtain ⟨vs, g1, b, base, rfl, g2⟩ := rel_vp.1 r
    simp only [Option.some.injEq, Prod.mk.injEq] at h
    obtain ⟨rfl, rfl⟩ := h
    exact ⟨b, base, vs, rfl, g1, fun i y hy => (g2 i y hy).1⟩

theorem cellsAtX_sound {g : Nat → Option (List AV)} (c : Conc g ρ I H w) {a : AV} {x : Value} (r : rel ρ I w a x) {l : List AV} {off n : Nat} {i : Int} (h : cellsAtX H a = some (l, off, n, i)) :
    ∃ b base vs, x = .pointer (some ⟨b, base + (off + i.toNat), none⟩) ∧ (0 ≤ i ∧ i < n) ∧ RL ρ I w l vs ∧ (∀ (i : Nat) (y : Value), vs[i]? = some y → w.cell? ⟨b, base + i, none⟩ = some y) := by
  cases a <;> simp only [cellsAtX, reduceCtorEq] at h
  case pix id o m j =>
    obtain ⟨b, hb, hi, rfl⟩ := rel_pix.1 r
    split at h
    · rename_i l' hl
      simp only [Option.some.injEq, Prod.mk.injEq] at h
      obtain ⟨rfl, rfl, rfl, rfl⟩ := h
      obtain ⟨vs, h1, h2⟩ := ent_cells c hl hb
      exact ⟨b, 0, vs, by simp, hi, h1, fun i y hy => by simpa using h2 i y hy⟩
    · simp at h
  case vpx cells o m j =>
    obtain ⟨hi, vs, g1, b, base, rfl, g2⟩ := rel_vpx.1 r
    simp only [Option.some.injEq, Prod.mk.injEq] at h
    obtain ⟨rfl, rfl, rfl, rfl⟩ := h
    exact ⟨b, base, vs, rfl, hi, g1, fun i y hy => (g2 i y hy).1⟩

theorem addrAdd_sound {n : Nat} {a v : AV} {x : Value} (r : rel ρ I w a x) (h : addrAdd n a = some v) :
    ∃ b o, x = .pointer (some ⟨b, o, none⟩) ∧ rel ρ I w v (.pointer (some ⟨b, o + n, none⟩)) := by
  cases a <;> simp only [addrAdd, Option.some.injEq, reduceCtorEq] at h <;> subst h
  case ptr id o =>
    obtain ⟨b, hb, rfl⟩ := rel_ptr.1 r
    exact ⟨b, o, rfl, rel_ptr.2 ⟨b, hb, rfl⟩⟩
  case vp cells i =>
    obtain ⟨vs, g1, b, base, rfl, g2⟩ := rel_vp.1 r
    exact ⟨b, base + i, rfl, rel_vp.2 ⟨vs, g1, b, base, by simp [Nat.add_assoc], g2⟩⟩

theorem ty_ok {t : Nat} {i : TI} (h : G.ty t = some i) : ∃ j d, P.info? t = some j ∧ P.underlying t = some d ∧ i.size = j.size ∧ i.bytes = j.bytes ∧ i.kind = TK.of d ∧ (∀ z, i.zero = some z → ∃ v, j.zero = some v ∧ chkV z v = true) ∧
      (i.eqf = true → P.eqGuardType P.depth t = false) ∧ (i.sok = true → strOk P t = true) := tiOk (G.tyOk t i h)

theorem run_loadAt {g : Nat → Option (List AV)} (c : Conc g ρ I H w) {t : Nat} {ti : TI} (ht : G.ty t = some ti) {a : AV} {x : Value} (r : rel ρ I w a x) {p : Bool × AV} (h : aload ti H a = some p) (hp : p.1 = true) :
    ∃ y, (Instr.loadAt t x).run P w = .ok y w ∧ rel ρ I w p.2 y := by
  obtain ⟨j, d, h1, h2, h3, _, h5, _⟩ := ty_ok ht
  unfold aload at h
  split at h
  · rename_i l off hl
    obtain ⟨b, base, vs, rfl, hr, hc⟩ := cellsAt_sound c r hl
    obtain ⟨q1, q2⟩ := cut1_sound hr h hp
    cases hk : ti.kind.isAgg with
    | true =>
      obtain ⟨hle, hv⟩ := q1 hk
      have hlen2 : ((vs.drop off).take ti.size).length = j.size := by rw [List.length_take, List.length_drop]; omega
      have hl := run_loadCells_list (P := P) w ⟨b, base + off, none⟩ ((vs.drop off).take ti.size) (fun i v hv => by
        rw [addr_add, Nat.add_assoc]
        refine hc (off + i) v ?_
        rw [List.getElem?_take] at hv
        split at hv
        · simpa using hv
        · simp at hv)
      rw [hlen2] at hl
      rw [h5] at hk
      exact ⟨.agg ((vs.drop off).take ti.size).toArray, by simp [Instr.loadAt, Instr.sureAddr, loadVar, run_isAgg h2, hk, run_sizeOf h1, hl], hv⟩
    | false =>
      obtain ⟨x, hx, hv, _⟩ := q2 hk
      rw [h5] at hk
      exact ⟨x, by simp [Instr.loadAt, Instr.sureAddr, loadVar, run_isAgg h2, hk, hc off x hx], hv⟩
  · split at h
    · rename_i l off n i hl
      cases hk : ti.kind.isAgg <;> rw [hk] at h <;> simp only [cond_true, cond_false, reduceCtorEq] at h
      obtain ⟨b, base, vs, rfl, hi, hr, hc⟩ := cellsAtX_sound c r hl
      obtain ⟨x, hx, hxr⟩ := cellX1_sound hr hi h hp
      rw [h5] at hk
      exact ⟨x, by simp [Instr.loadAt, Instr.sureAddr, loadVar, run_isAgg h2, hk, hc _ x hx], hxr⟩
    · simp at h

theorem run_part {e : Nat} {te : TI} (hte : G.ty e = some te) {l : List AV} {off : Nat} {cs : List Value} (hr : RL ρ I w l cs) {p : Bool × AV} (h : cut1 te l off = some p) (hp : p.1 = true) :
    ∃ x, (part e cs.toArray off).run P w = .ok x w ∧ rel ρ I w p.2 x := by
  obtain ⟨j, d, h1, h2, h3, _, h5, _⟩ := ty_ok hte
  obtain ⟨q1, q2⟩ := cut1_sound hr h hp
  cases hk : te.kind.isAgg with
  | true =>
    obtain ⟨hle, hv⟩ := q1 hk
    rw [h5] at hk
    refine ⟨.agg (cs.toArray.extract off (off + j.size)), by simp [part, run_isAgg h2, hk, run_sizeOf h1], ?_⟩
    rw [h3] at hv
    simpa [List.extract_eq_take_drop] using hv
  | false =>
    obtain ⟨x, hx, hv, _⟩ := q2 hk
    rw [h5] at hk
    exact ⟨x, by simp [part, run_isAgg h2, hk, hx], hv⟩

theorem run_asIntOf {a : AV} {v : Value} {k : IntKind} {n : Int} (h : a.toI = some (k, n)) (r : rel ρ I w a v) : (asIntOf v).run P w = .ok (k, n) w := by
  rw [rel_toI h r]; simp [asIntOf]

theorem elemAddr_sound {te : TI} {len : Nat} {n : Int} {a v : AV} {x : Value} (r : rel ρ I w a x) (h : elemAddr te len n a = some v) (hn : 0 ≤ n ∧ n < len) :
    ∃ b o, x = .pointer (some ⟨b, o, none⟩) ∧ rel ρ I w v (.pointer (some ⟨b, o + n.toNat * te.size, none⟩)) := by
  cases a <;> simp only [elemAddr, reduceCtorEq] at h
  case ptr id o =>
    obtain ⟨b, hb, rfl⟩ := rel_ptr.1 r
    cases hs : (te.size == 1 && !te.kind.isAgg) <;> rw [hs] at h <;> simp only [cond_true, cond_false, Option.some.injEq] at h <;> subst h
    · exact ⟨b, o, rfl, rel_ptr.2 ⟨b, hb, rfl⟩⟩
    · simp only [Bool.and_eq_true, beq_iff_eq] at hs
      exact ⟨b, o, rfl, rel_pix.2 ⟨b, hb, hn, by simp [hs.1]⟩⟩
  case vp cells i =>
    obtain ⟨vs, g1, b, base, rfl, g2⟩ := rel_vp.1 r
    cases hs : (te.size == 1 && !te.kind.isAgg) <;> rw [hs] at h <;> simp only [cond_true, cond_false, Option.some.injEq] at h <;> subst h
    · exact ⟨b, base + i, rfl, rel_vp.2 ⟨vs, g1, b, base, by simp [Nat.add_assoc], g2⟩⟩
    · simp only [Bool.and_eq_true, beq_iff_eq] at hs
      exact ⟨b, base + i, rfl, rel_vpx.2 ⟨hn, vs, g1, b, base, by simp [hs.1, Nat.add_assoc], g2⟩⟩

theorem TK.of_arr {d : TypeDesc} {n e : Nat} (h : TK.arr n e = TK.of d) : d = .array n e := by
  cases d <;> simp_all [TK.of]
theorem TK.of_slice {d : TypeDesc} {e : Nat} (h : TK.slice e = TK.of d) : d = .slice e := by
  cases d <;> simp_all [TK.of]
theorem TK.of_ptr {d : TypeDesc} {e : Nat} (h : TK.ptr e = TK.of d) : d = .pointer e := by
  cases d <;> simp_all [TK.of]
theorem TK.of_int {d : TypeDesc} {k : IntKind} (h : TK.int k = TK.of d) : d = .int k := by
  cases d <;> simp_all [TK.of]
theorem TK.of_bool {d : TypeDesc} (h : TK.bool = TK.of d) : d = .bool := by
  cases d <;> simp_all [TK.of]
theorem TK.of_string {d : TypeDesc} (h : TK.string = TK.of d) : d = .string := by
  cases d <;> simp_all [TK.of]
theorem TK.of_str {d : TypeDesc} {l : List (Nat × Nat)} (h : TK.str l = TK.of d) : ∃ fs, d = .struct fs ∧ l = fs.toList.map fun f => (f.offset, f.type) := by
  cases d <;> simp_all [TK.of]

theorem Lies.sub {I : Imm} {w : World} {b off : Nat} {vs us : List Value} {k : Nat} (h : Lies I w b off vs) (hs : ∀ i x, us[i]? = some x → vs[k + i]? = some x) : Lies I w b (off + k) us := fun i x hx => by
  have := h (k + i) x (hs i x hx)
  rwa [← Nat.add_assoc] at this

/-- A row of elements: the cells of one of them. -/
theorem RL_rows {k : Nat} : ∀ {rows : List AV} {vs : List Value} {i : Nat} {a : AV}, (∀ a ∈ rows, szA a = k) → RL ρ I w rows vs → rows[i]? = some a →
    ∃ ys, R ρ I w a ys ∧ ys.length = k ∧ (∀ j x, ys[j]? = some x → vs[i * k + j]? = some x) ∧ (vs.drop (i * k)).take k = ys
  | [], _, _, _, _, _, h => by simp at h
  | b :: bs, vs, i, a, hk, ⟨ys, zs, h0, h1, h2⟩, h => by
    subst h0
    have hl := R_len b ys h1
    have hb := hk b (by simp)
    cases i with
    | zero =>
      simp only [List.getElem?_cons_zero, Option.some.injEq] at h
      subst h
      refine ⟨ys, h1, by omega, fun j x hx => ?_, ?_⟩
      · rw [Nat.zero_mul, Nat.zero_add, List.getElem?_append_left (List.getElem?_eq_some_iff.1 hx).1, hx]
      · rw [Nat.zero_mul, List.drop_zero, List.take_append_of_le_length (by omega), List.take_of_length_le (by omega)]
    | succ i =>
      obtain ⟨us, g1, g2, g3, g4⟩ := RL_rows (fun a ha => hk a (by simp [ha])) h2 (by simpa using h)
      have e : (i + 1) * k = k + i * k := by rw [Nat.succ_mul, Nat.add_comm]
      refine ⟨us, g1, g2, fun j x hx => ?_, ?_⟩
      · rw [e, List.getElem?_append_right (by omega), show k + i * k + j - ys.length = i * k + j by omega]
        exact g3 j x hx
      · rw [e, List.drop_append, List.drop_eq_nil_of_le (by omega), List.nil_append, show k + i * k - ys.length = i * k by omega]
        exact g4

theorem R_cells {a : AV} {ys : List Value} (h : R ρ I w a ys) : RL ρ I w a.cells ys := by
  unfold AV.cells
  split
  · exact h
  · exact ⟨ys, [], by simp, h, rfl⟩

theorem run_indexAt {t : Nat} {ti : TI} (ht : G.ty t = some ti) {x i : AV} {vx vi : Value} (rx : rel ρ I w x vx) (ri : rel ρ I w i vi) {k : IntKind} {n : Int}
    (hi : i.toI = some (k, n)) {p : Bool × AV} (h : aIndexAddr G ti x n = some p) (hp : p.1 = true) :
    ∃ y, (Instr.indexAt t vx vi).run P w = .ok y w ∧ rel ρ I w p.2 y := by
  obtain ⟨j, d, h1, h2, h3, _, h5, _⟩ := ty_ok ht
  have hii : vi = .int k n := rel_toI hi ri
  subst hii
  unfold aIndexAddr at h
  split at h
  · rename_i len e hk
    rw [hk] at h5
    obtain rfl := TK.of_arr h5
    split at h
    · rename_i te hte
      obtain ⟨je, de, e1, e2, e3, _, e5, _⟩ := ty_ok hte
      split at h
      · rename_i v hv
        simp only [Option.some.injEq] at h
        subst h
        have hn := inB_iff.1 hp
        obtain ⟨b, o, rfl, hr⟩ := elemAddr_sound rx hv hn
        refine ⟨_, ?_, hr⟩
        simp [Instr.indexAt, asIntOf, run_underlying h2, Instr.sureAddr, hn, run_sizeOf e1, e3, addr_add]
      · simp at h
    · simp at h
  · rename_i e id off kk len hk
    rw [hk] at h5
    obtain rfl := TK.of_slice h5
    split at h
    · rename_i te hte
      obtain ⟨je, de, e1, e2, e3, _, e5, _⟩ := ty_ok hte
      split at h
      · rename_i v hv
        simp only [Option.some.injEq] at h
        subst h
        simp only [Bool.and_eq_true, beq_iff_eq] at hp
        obtain ⟨hn, rfl⟩ := hp
        have hn := inB_iff.1 hn
        rcases rel_sl.1 rx with ⟨b, cap, g1, rfl, g2, g3, g4⟩ | ⟨rfl, _⟩
        · obtain ⟨b', o, he, hr⟩ := elemAddr_sound (rel_ptr.2 ⟨b, g1, rfl⟩ : rel ρ I w (.ptr id off) (.pointer (some ⟨b, off, none⟩))) hv hn
          simp only [Value.pointer.injEq, Option.some.injEq, Addr.mk.injEq, and_true] at he
          obtain ⟨rfl, rfl⟩ := he
          refine ⟨_, ?_, hr⟩
          simp [Instr.indexAt, asIntOf, run_underlying h2, hn, run_sizeOf e1, e3, addr_add]
        · omega
      · simp at h
    · simp at h
  · rename_i e full l hk
    rw [hk] at h5
    obtain rfl := TK.of_slice h5
    split at h
    · rename_i te hte
      obtain ⟨je, de, e1, e2, e3, _, e5, _⟩ := ty_ok hte
      simp only [Option.some.injEq] at h
      subst h
      simp only [Bool.and_eq_true, beq_iff_eq] at hp
      obtain ⟨hn, hsz⟩ := hp
      have hn := inB_iff.1 hn
      obtain ⟨a, cap, rfl, g1, g2, g3 | ⟨b, off, rfl, g3, g4⟩⟩ := rel_vec8.1 rx
      · omega
      · refine ⟨.pointer (some ⟨b, off + n.toNat, none⟩), ?_, rel_vpx.2 ⟨hn, v8 l, ⟨_, [], by simp, ⟨rfl, rfl⟩, rfl⟩, b, off, by simp, g4⟩⟩
        have : je.size = 1 := by omega
        simp [Instr.indexAt, asIntOf, run_underlying h2, hn, run_sizeOf e1, this, addr_add]
    · simp at h
  · rename_i e full kk rows hk
    rw [hk] at h5
    obtain rfl := TK.of_slice h5
    split at h
    · rename_i te hte
      obtain ⟨je, de, e1, e2, e3, _, e5, _⟩ := ty_ok hte
      simp only [Option.some.injEq] at h
      subst h
      simp only [Bool.and_eq_true, beq_iff_eq] at hp
      obtain ⟨hn, rfl⟩ := hp
      have hn := inB_iff.1 hn
      obtain ⟨hev, vs, hrl, a, cap, rfl, g1, g2, g3 | ⟨b, off, rfl, g3, g4⟩⟩ := rel_vec.1 rx
      · omega
      · have hlt : n.toNat < rows.length := by omega
        obtain ⟨ys, q1, q2, q3, _⟩ := RL_rows hev hrl (i := n.toNat) (a := rows[n.toNat]) (by simp [hlt])
        refine ⟨.pointer (some ⟨b, off + n.toNat * te.size, none⟩), ?_, rel_vp.2 ⟨ys, ?_, b, off + n.toNat * te.size, by simp, g4.sub q3⟩⟩
        · simp [Instr.indexAt, asIntOf, run_underlying h2, hn, run_sizeOf e1, e3, addr_add]
        · rw [show rows.getD n.toNat .any = rows[n.toNat] by simp [List.getD, hlt]]
          exact R_cells q1
    · simp at h
  · simp at h

theorem agg_get {cs : Array Value} {xs : List Value} {i : Nat} {y : Value} (h : cs.toList = xs) (hy : xs[i]? = some y) : cs[i]? = some y := by
  subst h; simpa using hy

/-- A number out of a row of numbers. -/
theorem run_partSeg {e len : Nat} {te : TI} (hte : G.ty e = some te) (hs : te.size = 1 ∧ te.kind.isAgg = false) {cs : Array Value} {xs : List Value} (h : cs.toList = xs) {n : Nat} {y : Value} (hy : xs[n]? = some y) :
    ∃ je, P.info? e = some je ∧ je.size = 1 ∧ (part e cs n).run P w = .ok y w := by
  obtain ⟨je, de, e1, e2, e3, _, e5, _⟩ := ty_ok hte
  have hk := hs.2
  rw [e5] at hk
  exact ⟨je, e1, by omega, by simp [part, run_isAgg e2, hk, agg_get h hy]⟩

theorem run_index {t : Nat} {ti : TI} (ht : G.ty t = some ti) {x i : AV} {vx vi : Value} (rx : rel ρ I w x vx) (ri : rel ρ I w i vi) {k : IntKind} {n : Int}
    (hi : i.toI = some (k, n)) {p : Bool × AV} (h : aIndex G ti x n = some p) (hp : p.1 = true) :
    ∃ y, (Instr.index t vx vi).run P w = .ok y w ∧ rel ρ I w p.2 y := by
  obtain ⟨j, d, h1, h2, h3, _, h5, _⟩ := ty_ok ht
  have hii : vi = .int k n := rel_toI hi ri
  subst hii
  have go : ∀ {e len m : Nat} {te : TI} {cs : Array Value} {xs : List Value} {y : Value}, ti.kind = .arr len e → G.ty e = some te → ((inB n len && len == m) && (te.size == 1 && !te.kind.isAgg)) = true → cs.toList = xs → xs[n.toNat]? = some y →
      (Instr.index t (.agg cs) (.int k n)).run P w = .ok y w := by
    intro e len m te cs xs y hk hte hp hcs hy
    rw [hk] at h5
    obtain rfl := TK.of_arr h5
    simp only [Bool.and_eq_true, beq_iff_eq, Bool.not_eq_true'] at hp
    obtain ⟨⟨hn, _⟩, hs⟩ := hp
    have hn := inB_iff.1 hn
    obtain ⟨je, e1, e2, e3⟩ := run_partSeg (w := w) (len := len) hte hs hcs hy
    simp [Instr.index, asIntOf, run_underlying h2, hn, run_sizeOf e1, e2, e3]
  unfold aIndex at h
  split at h
  · rename_i len e m l hk
    split at h
    · rename_i te hte
      simp only [Option.some.injEq] at h
      subst h
      obtain ⟨cs, rfl, hcs, hl⟩ := rel_b8.1 rx
      have hp' := hp
      simp only [Bool.and_eq_true, beq_iff_eq, Bool.not_eq_true'] at hp
      have hn := inB_iff.1 hp.1.1
      have := hp.1.2
      exact ⟨_, go hk hte hp' hcs (v8_get (by omega)), rel_u8.2 rfl⟩
    · simp at h
  · rename_i len e m l hk
    split at h
    · rename_i te hte
      simp only [Option.some.injEq] at h
      subst h
      obtain ⟨cs, rfl, hcs, hl⟩ := rel_w32.1 rx
      have hp' := hp
      simp only [Bool.and_eq_true, beq_iff_eq, Bool.not_eq_true'] at hp
      have hn := inB_iff.1 hp.1.1
      have := hp.1.2
      exact ⟨_, go hk hte hp' hcs (v32_get (by omega)), rel_u32.2 rfl⟩
    · simp at h
  · rename_i len e m l hk
    split at h
    · rename_i te hte
      simp only [Option.some.injEq] at h
      subst h
      obtain ⟨cs, rfl, hcs, hl⟩ := rel_w64.1 rx
      have hp' := hp
      simp only [Bool.and_eq_true, beq_iff_eq, Bool.not_eq_true'] at hp
      have hn := inB_iff.1 hp.1.1
      have := hp.1.2
      exact ⟨_, go hk hte hp' hcs (v64_get (by omega)), rel_u64.2 rfl⟩
    · simp at h
  · rename_i len e l hk
    rw [hk] at h5
    obtain rfl := TK.of_arr h5
    split at h
    · rename_i te hte
      obtain ⟨je, de, e1, e2, e3, _, e5, _⟩ := ty_ok hte
      split at h
      · rename_i q v hq
        simp only [Option.some.injEq] at h
        subst h
        simp only [Bool.and_eq_true] at hp
        obtain ⟨cs, rfl, hr⟩ := rel_agg.1 rx
        have hn := inB_iff.1 hp.1
        obtain ⟨y, hy, hry⟩ := run_part (p := (q, v)) hte hr hq hp.2
        refine ⟨y, ?_, hry⟩
        rw [e3] at hy
        simp only [Array.toArray_toList] at hy
        simp [Instr.index, asIntOf, run_underlying h2, hn, run_sizeOf e1, hy]
      · simp at h
    · simp at h
  · rename_i s hk
    rw [hk] at h5
    obtain rfl := TK.of_string h5
    simp only [Option.some.injEq] at h
    subst h
    have hn := inB_iff.1 hp
    obtain rfl := rel_str.1 rx
    have hlt : n.toNat < s.length := by omega
    have : (⟨s.toArray⟩ : ByteArray)[n.toNat]? = some s[n.toNat] := by
      have hsz : (⟨s.toArray⟩ : ByteArray).size = s.length := by simp [ByteArray.size]
      rw [getElem?_pos _ _ (by rw [hsz]; exact hlt)]
      rfl
    refine ⟨.int .u8 s[n.toNat].toNat, ?_, ?_⟩
    · simp [Instr.index, asIntOf, run_underlying h2, hn.1, this]
    · rw [rel_u8]; simp [List.getD, hlt]
  · simp at h

theorem rel_pickA {b : Bool} {x y : AV} {vx vy : Value} (hx : rel ρ I w x vx) (hy : rel ρ I w y vy) : rel ρ I w (pickA b x y) (if b then vx else vy) := by
  unfold pickA
  split
  · rw [rel_bool] at hx hy ⊢
    subst hx hy
    cases b <;> rfl
  · cases b
    · exact hy
    · exact hx

theorem run_field {t : Nat} {ti : TI} (ht : G.ty t = some ti) {x : AV} {vx : Value} (rx : rel ρ I w x vx) {f : Nat} {p : Bool × AV} (h : aField G ti x f = some p) (hp : p.1 = true) :
    ∃ y, (Instr.field t vx f).run P w = .ok y w ∧ rel ρ I w p.2 y := by
  obtain ⟨j, d, h1, h2, h3, _, h5, _⟩ := ty_ok ht
  unfold aField at h
  split at h
  · rename_i fs hk
    rw [hk] at h5
    obtain ⟨fields, rfl, rfl⟩ := TK.of_str h5
    split at h
    · rename_i off ft hf
      rw [List.getElem?_map, Option.map_eq_some_iff] at hf
      obtain ⟨fd, hfd, hfd2⟩ := hf
      simp only [Prod.mk.injEq] at hfd2
      obtain ⟨rfl, rfl⟩ := hfd2
      have hfd' : fields[f]? = some fd := by simpa using hfd
      split at h
      · rename_i tf htf
        cases hi : isAg x <;> rw [hi] at h <;> simp only [cond_true, cond_false, reduceCtorEq] at h
        obtain ⟨cs, rfl, hr⟩ := (rel_ag hi).1 rx
        obtain ⟨y, hy, hry⟩ := run_part (w := w) htf (R_cells hr) h hp
        refine ⟨y, ?_, hry⟩
        simp only [Array.toArray_toList] at hy
        simp [Instr.field, run_underlying h2, hfd', asAgg, hy]
      · simp at h
    · simp at h
  · simp at h
end
end Go.V
