import Derived.Test.YtehaohfglolljaaGreatDoorZzab
import Derived.Laws.StructEq
import Derived.Deep.MidRow
set_option linter.unusedSimpArgs false
set_option linter.unusedVariables false
namespace Go.V
open Go
section
variable {P : Program} {G : Env P} {ρ : Rho} {I : Imm} {H : Heap} {w : World}
theorem zgs : ∀ {l : List UInt8} {xs ys : List Value}, zpu l xs = some ys → xs = v8 l ++ ys
 | [], _, _, h => by simp only [zpu, Option.some.injEq] at h; subst h; rfl
 | x :: l, xs, ys, h => by
  unfold zpu at h
  split at h
  ·rename_i hx; simp at hx
  ·rename_i x' l' n xs hx;simp only [List.cons.injEq] at hx;obtain ⟨rfl, rfl⟩ := hx
   split at h
   ·rename_i hn; subst hn; rw [zgs h]; rfl
   ·simp at h
  ·simp at h
theorem zes : ∀ {l : List UInt32} {xs ys : List Value}, zkc l xs = some ys → xs = v32 l ++ ys
 | [], _, _, h => by simp only [zkc, Option.some.injEq] at h; subst h; rfl
 | x :: l, xs, ys, h => by
  unfold zkc at h
  split at h
  ·rename_i hx; simp at hx
  ·rename_i x' l' n xs hx;simp only [List.cons.injEq] at hx;obtain ⟨rfl, rfl⟩ := hx
   split at h
   ·rename_i hn; subst hn; rw [zes h]; rfl
   ·simp at h
  ·simp at h
theorem zei : ∀ {l : List UInt64} {xs ys : List Value}, zke l xs = some ys → xs = v64 l ++ ys
 | [], _, _, h => by simp only [zke, Option.some.injEq] at h; subst h; rfl
 | x :: l, xs, ys, h => by
  unfold zke at h
  split at h
  ·rename_i hx; simp at hx
  ·rename_i x' l' n xs hx;simp only [List.cons.injEq] at hx;obtain ⟨rfl, rfl⟩ := hx
   split at h
   ·rename_i hn; subst hn; rw [zei h]; rfl
   ·simp at h
  ·simp at h
mutual
theorem zi7 : ∀ (a : AV) {xs ys : List Value}, eat a xs = some ys → ∃ zs, xs = zs ++ ys ∧ ∀ ρ I w, R ρ I w a zs
 | .int k n, xs, ys, h => by
  simp only [eat] at h
  split at h
  ·rename_i k' n' xs
   split at h
   ·rename_i hk; obtain ⟨rfl, rfl⟩ := hk
    simp only [Option.some.injEq] at h; subst h
    exact ⟨[_], rfl, fun _ _ _ => rfl⟩
   ·simp at h
  ·simp at h
 | .u8 x, xs, ys, h => by
  rw [eat] at h; exact ⟨v8 [x], zgs h, fun _ _ _ => rfl⟩
 | .u32 x, xs, ys, h => by
  rw [eat] at h; exact ⟨v32 [x], zes h, fun _ _ _ => rfl⟩
 | .u64 x, xs, ys, h => by
  rw [eat] at h; exact ⟨v64 [x], zei h, fun _ _ _ => rfl⟩
 | .bool b, xs, ys, h => by
  simp only [eat] at h
  split at h
  ·rename_i b' xs
   split at h
   ·rename_i hk; subst hk
    simp only [Option.some.injEq] at h; subst h
    exact ⟨[_], rfl, fun _ _ _ => rfl⟩
   ·simp at h
  ·simp at h
 | .str s, xs, ys, h => by
  simp only [eat] at h
  split at h
  ·rename_i t xs
   split at h
   ·rename_i hk; subst hk
    simp only [Option.some.injEq] at h; subst h
    exact ⟨[_], rfl, fun _ _ _ => rfl⟩
   ·simp at h
  ·simp at h
 | .b8 n l, xs, ys, h => by
  rw [eat] at h
  split at h
  ·rename_i hn; exact ⟨v8 l, zgs h, fun _ _ _ => ⟨rfl, hn⟩⟩
  ·simp at h
 | .w32 n l, xs, ys, h => by
  rw [eat] at h
  split at h
  ·rename_i hn; exact ⟨v32 l, zes h, fun _ _ _ => ⟨rfl, hn⟩⟩
  ·simp at h
 | .w64 n l, xs, ys, h => by
  rw [eat] at h
  split at h
  ·rename_i hn; exact ⟨v64 l, zei h, fun _ _ _ => ⟨rfl, hn⟩⟩
  ·simp at h
 | .vec8 f l, xs, ys, h => by
  simp only [eat] at h
  split at h
  ·simp only [Option.some.injEq] at h; subst h
   exact ⟨[_], rfl, fun _ _ _ => ⟨_, rfl, none, 0, rfl, Nat.le_refl _, fun _ => rfl, .inl rfl⟩⟩
  ·simp at h
 | .vec f k l, xs, ys, h => by
  simp only [eat] at h
  split at h
  ·simp only [Option.some.injEq] at h; subst h
   exact ⟨[_], rfl, fun _ _ _ => ⟨_, rfl, fun _ h => by simp at h, [], rfl, none, 0, rfl, Nat.le_refl _, fun _ => rfl, .inl rfl⟩⟩
  ·simp at h
 | .raw v, xs, ys, h => by
  simp only [eat] at h
  split at h <;> simp only [Option.some.injEq, reduceCtorEq] at h <;> subst h <;> exact ⟨[_], rfl, fun _ _ _ => rfl⟩
 | .agg l, xs, ys, h => by
  simp only [eat] at h;exact zn6 l h
 | .any, _, _, h | .ptr _ _, _, _, h | .pix _ _ _ _, _, _, h | .sl _ _ _ _, _, _, h | .vp _ _, _, _, h | .vpx _ _ _ _, _, _, h | .fn _ _ _, _, _, h | .tup _, _, _, h => by simp [eat] at h
theorem zn6 : ∀ (l : List AV) {xs ys : List Value}, zuv l xs = some ys → ∃ zs, xs = zs ++ ys ∧ ∀ ρ I w, RL ρ I w l zs
 | [], xs, ys, h => by simp only [zuv, Option.some.injEq] at h; subst h; exact ⟨[], rfl, fun _ _ _ => rfl⟩
 | a :: as, xs, ys, h => by
  simp only [zuv] at h
  split at h
  ·rename_i zs hz;obtain ⟨us, rfl, h1⟩ := zi7 a hz;obtain ⟨vs, rfl, h2⟩ := zn6 as h;exact ⟨us ++ vs, by simp, fun ρ I w => ⟨us, vs, rfl, h1 ρ I w, h2 ρ I w⟩⟩
  ·simp at h
end
theorem zmv {o : Option (List Value)} (h : isNil o = true) : o = some [] := by
 unfold isNil at h; split at h <;> simp_all
theorem z9j {z : AV} {v : Value} (h : zug z v = true) (ρ : Rho) (I : Imm) (w : World) : rel ρ I w z v := by
 unfold zug at h
 split at h
 ·rename_i hz
  split at h
  ·rename_i cs;obtain ⟨zs, h1, h2⟩ := zi7 z (zmv h);exact (znu hz).2 ⟨cs, rfl, by rw [h1]; simpa using h2 ρ I w⟩
  ·simp at h
 ·rename_i hz;have hz' : z1w z = false := by simpa using hz
  obtain ⟨zs, h1, h2⟩ := zi7 z (zmv h);simp only [List.append_nil] at h1;obtain ⟨x, hx, hr⟩ := zsc hz' (h2 ρ I w);rw [hx] at h1;simp only [List.cons.injEq, and_true] at h1;subst h1; exact hr
theorem cell_of_heap {b o : Nat} {cs : List Value} {el : TypeId} {fr : Nat × Nat} (h : w.heap[b]? = some (.cells cs.toArray el fr)) : w.cell? ⟨b, o, none⟩ = cs[o]? := by
 simp [World.cell?, h]
theorem addr_add (b o n : Nat) : (⟨b, o, none⟩ : Addr).add n = ⟨b, o + n, none⟩ := by
 unfold Addr.add; split <;> simp_all
theorem zs7 {id : Nat} {l : List AV} (h : z4u H id = some l) : ∃ e, H[id]? = some e ∧ e.live = true ∧ e.cells = l ∧ ((∃ f, e = .blk l f) ∨ e.grows = true) := by
 unfold z4u at h
 split at h <;> simp only [Option.some.injEq, reduceCtorEq] at h <;> subst h <;> rename_i hh
 ·exact ⟨_, hh, rfl, rfl, .inl ⟨_, rfl⟩⟩
 ·exact ⟨_, hh, rfl, rfl, .inr rfl⟩
 ·exact ⟨_, hh, rfl, rfl, .inr rfl⟩
theorem zj3 {g : Nat → Option (List AV)} (c : Conc g ρ I H w) {id b : Nat} {l : List AV} (h : z4u H id = some l) (hb : ρ id = some (some b)) :
  ∃ el fr cs rest, w.heap[b]? = some (.cells (List.toArray (cs ++ rest)) el fr) ∧ RL ρ I w l cs ∧ clear fr (cs ++ rest).length ∧ ((∃ f, H[id]? = some (.blk l f)) → rest = []) := by
 obtain ⟨e, he, h1, rfl, h2⟩ := zs7 h;rcases h2 with ⟨f, h2⟩ | h2
 ·obtain ⟨b', el, fr, cs, g1, g2, g3, g4⟩ := c.blk id _ f (by rw [he, h2])
  obtain rfl : b = b' := by rw [hb] at g1; simpa using g1
  exact ⟨el, fr, cs, [], by simpa using g2, g3, by simpa using g4, fun _ => rfl⟩
 ·obtain ⟨_, g1 | ⟨b', el, fr, cs, rest, g1, g2, g3, g4⟩⟩ := c.grow id e he h2
  ·rw [hb] at g1; simp at g1
  ·obtain rfl : b = b' := by rw [hb] at g1; simpa using g1
   refine ⟨el, fr, cs, rest, g2, g3, g4, fun ⟨f, hf⟩ => ?_⟩
   rw [he] at hf;simp only [Option.some.injEq] at hf;rw [hf] at h2; simp [Ent.grows] at h2
theorem zdy {g : Nat → Option (List AV)} (c : Conc g ρ I H w) {id b : Nat} {l : List AV} (h : z4u H id = some l) (hb : ρ id = some (some b)) :
  ∃ vs, RL ρ I w l vs ∧ ∀ (i : Nat) (y : Value), vs[i]? = some y → w.cell? ⟨b, i, none⟩ = some y := by
 obtain ⟨el, fr, cs, rest, g1, g2, _⟩ := zj3 c h hb;refine ⟨cs, g2, fun i y hy => ?_⟩
 have hi : i < cs.length := (List.getElem?_eq_some_iff.1 hy).1;rw [cell_of_heap g1, List.getElem?_append_left hi, hy]
theorem zrq {g : Nat → Option (List AV)} (c : Conc g ρ I H w) {a : AV} {x : Value} (r : rel ρ I w a x) {l : List AV} {off : Nat} (h : zg3 H a = some (l, off)) :
  ∃ b base vs, x = .pointer (some ⟨b, base + off, none⟩) ∧ RL ρ I w l vs ∧ (∀ (i : Nat) (y : Value), vs[i]? = some y → w.cell? ⟨b, base + i, none⟩ = some y) := by
 cases a <;> simp only [zg3, reduceCtorEq] at h
 case ptr id o =>
  obtain ⟨b, hb, rfl⟩ := z4a.1 r
  split at h
  ·rename_i l' hl;obtain ⟨rfl, rfl⟩ := spE h;obtain ⟨vs, h1, h2⟩ := zdy c hl hb;exact ⟨b, 0, vs, by simp, h1, fun i y hy => by simpa using h2 i y hy⟩
  ·simp at h
 case vp cells i =>
  obtain ⟨vs, g1, b, base, rfl, g2⟩ := z6i.1 r;obtain ⟨rfl, rfl⟩ := spE h;exact ⟨b, base, vs, rfl, g1, fun i y hy => (g2 i y hy).1⟩
theorem zpd {g : Nat → Option (List AV)} (c : Conc g ρ I H w) {a : AV} {x : Value} (r : rel ρ I w a x) {l : List AV} {off n : Nat} {i : Int} (h : zdj H a = some (l, off, n, i)) :
  ∃ b base vs, x = .pointer (some ⟨b, base + (off + i.toNat), none⟩) ∧ (0 ≤ i ∧ i < n) ∧ RL ρ I w l vs ∧ (∀ (i : Nat) (y : Value), vs[i]? = some y → w.cell? ⟨b, base + i, none⟩ = some y) := by
 cases a <;> simp only [zdj, reduceCtorEq] at h
 case pix id o m j =>
  obtain ⟨b, hb, hi, rfl⟩ := zg6.1 r
  split at h
  ·rename_i l' hl;simp only [Option.some.injEq, Prod.mk.injEq] at h;obtain ⟨rfl, rfl, rfl, rfl⟩ := h;obtain ⟨vs, h1, h2⟩ := zdy c hl hb;exact ⟨b, 0, vs, by simp, hi, h1, fun i y hy => by simpa using h2 i y hy⟩
  ·simp at h
 case vpx cells o m j =>
  obtain ⟨hi, vs, g1, b, base, rfl, g2⟩ := zfb.1 r;simp only [Option.some.injEq, Prod.mk.injEq] at h;obtain ⟨rfl, rfl, rfl, rfl⟩ := h;exact ⟨b, base, vs, rfl, hi, g1, fun i y hy => (g2 i y hy).1⟩
theorem zrw {n : Nat} {a v : AV} {x : Value} (r : rel ρ I w a x) (h : zpe n a = some v) :
  ∃ b o, x = .pointer (some ⟨b, o, none⟩) ∧ rel ρ I w v (.pointer (some ⟨b, o + n, none⟩)) := by
 cases a <;> simp only [zpe, Option.some.injEq, reduceCtorEq] at h <;> subst h
 case ptr id o =>
  obtain ⟨b, hb, rfl⟩ := z4a.1 r;exact ⟨b, o, rfl, z4a.2 ⟨b, hb, rfl⟩⟩
 case vp cells i =>
  obtain ⟨vs, g1, b, base, rfl, g2⟩ := z6i.1 r;exact ⟨b, base + i, rfl, z6i.2 ⟨vs, g1, b, base, by simp [Nat.add_assoc], g2⟩⟩
theorem z1a {t : Nat} {i : TI} (h : G.ty t = some i) : ∃ j d, P.info? t = some j ∧ P.underlying t = some d ∧ i.size = j.size ∧ i.bytes = j.bytes ∧ i.kind = TK.of d ∧ (∀ z, i.zero = some z → ∃ v, j.zero = some v ∧ zug z v = true) ∧
      (i.eqf = true → P.eqGuardType P.depth t = false) ∧ (i.sok = true → zsi P t = true) := tiOk (G.tyOk t i h)
theorem zoc {g : Nat → Option (List AV)} (c : Conc g ρ I H w) {t : Nat} {ti : TI} (ht : G.ty t = some ti) {a : AV} {x : Value} (r : rel ρ I w a x) {p : Bool × AV} (h : zea ti H a = some p) (hp : p.1 = true) :
  ∃ y, (Instr.loadAt t x).run P w = .ok y w ∧ rel ρ I w p.2 y := by
 obtain ⟨j, d, h1, h2, h3, _, h5, _⟩ := z1a ht;unfold zea at h
 split at h
 ·rename_i l off hl;obtain ⟨b, base, vs, rfl, hr, hc⟩ := zrq c r hl;obtain ⟨q1, q2⟩ := zn0 hr h hp;cases hk : ti.kind.isAgg with
  | true =>
   obtain ⟨hle, hv⟩ := q1 hk;have hlen2 : ((vs.drop off).take ti.size).length = j.size := by rw [List.length_take, List.length_drop]; omega
   have hl := run_loadCells_list (P := P) w ⟨b, base + off, none⟩ ((vs.drop off).take ti.size) (fun i v hv => by
    rw [addr_add, Nat.add_assoc];refine hc (off + i) v ?_;rw [List.getElem?_take] at hv
    split at hv
    ·simpa using hv
    ·simp at hv)
   rw [hlen2] at hl;rw [h5] at hk;exact ⟨.agg ((vs.drop off).take ti.size).toArray, by simp [Instr.loadAt, Instr.sureAddr, loadVar, z5j h2, hk, run_sizeOf h1, hl], hv⟩
  | false =>
   obtain ⟨x, hx, hv, _⟩ := q2 hk;rw [h5] at hk;exact ⟨x, by simp [Instr.loadAt, Instr.sureAddr, loadVar, z5j h2, hk, hc off x hx], hv⟩
 ·split at h
  ·rename_i l off n i hl;cases hk : ti.kind.isAgg <;> rw [hk] at h <;> simp only [cond_true, cond_false, reduceCtorEq] at h
   obtain ⟨b, base, vs, rfl, hi, hr, hc⟩ := zpd c r hl;obtain ⟨x, hx, hxr⟩ := ztn hr hi h hp;rw [h5] at hk;exact ⟨x, by simp [Instr.loadAt, Instr.sureAddr, loadVar, z5j h2, hk, hc _ x hx], hxr⟩
  ·simp at h
theorem za4 {e : Nat} {te : TI} (hte : G.ty e = some te) {l : List AV} {off : Nat} {cs : List Value} (hr : RL ρ I w l cs) {p : Bool × AV} (h : zel te l off = some p) (hp : p.1 = true) :
  ∃ x, (part e cs.toArray off).run P w = .ok x w ∧ rel ρ I w p.2 x := by
 obtain ⟨j, d, h1, h2, h3, _, h5, _⟩ := z1a hte;obtain ⟨q1, q2⟩ := zn0 hr h hp;cases hk : te.kind.isAgg with
 | true =>
  obtain ⟨hle, hv⟩ := q1 hk;rw [h5] at hk;refine ⟨.agg (cs.toArray.extract off (off + j.size)), by simp [part, z5j h2, hk, run_sizeOf h1], ?_⟩
  rw [h3] at hv;simpa [List.extract_eq_take_drop] using hv
 | false =>
  obtain ⟨x, hx, hv, _⟩ := q2 hk;rw [h5] at hk;exact ⟨x, by simp [part, z5j h2, hk, hx], hv⟩
theorem zfh {te : TI} {len : Nat} {n : Int} {a v : AV} {x : Value} (r : rel ρ I w a x) (h : zh3 te len n a = some v) (hn : 0 ≤ n ∧ n < len) :
  ∃ b o, x = .pointer (some ⟨b, o, none⟩) ∧ rel ρ I w v (.pointer (some ⟨b, o + n.toNat * te.size, none⟩)) := by
 cases a <;> simp only [zh3, reduceCtorEq] at h
 case ptr id o =>
  obtain ⟨b, hb, rfl⟩ := z4a.1 r;cases hs : (te.size == 1 && !te.kind.isAgg) <;> rw [hs] at h <;> simp only [cond_true, cond_false, Option.some.injEq] at h <;> subst h
  ·exact ⟨b, o, rfl, z4a.2 ⟨b, hb, rfl⟩⟩
  ·simp only [Bool.and_eq_true, beq_iff_eq] at hs;exact ⟨b, o, rfl, zg6.2 ⟨b, hb, hn, by simp [hs.1]⟩⟩
 case vp cells i =>
  obtain ⟨vs, g1, b, base, rfl, g2⟩ := z6i.1 r;cases hs : (te.size == 1 && !te.kind.isAgg) <;> rw [hs] at h <;> simp only [cond_true, cond_false, Option.some.injEq] at h <;> subst h
  ·exact ⟨b, base + i, rfl, z6i.2 ⟨vs, g1, b, base, by simp [Nat.add_assoc], g2⟩⟩
  ·simp only [Bool.and_eq_true, beq_iff_eq] at hs;exact ⟨b, base + i, rfl, zfb.2 ⟨hn, vs, g1, b, base, by simp [hs.1, Nat.add_assoc], g2⟩⟩
theorem TK.z1lk {d : TypeDesc} {n e : Nat} (h : TK.arr n e = TK.of d) : d = .array n e := by
 cases d <;> simp_all [TK.of]
theorem TK.of_slice {d : TypeDesc} {e : Nat} (h : TK.slice e = TK.of d) : d = .slice e := by
 cases d <;> simp_all [TK.of]
theorem TK.z1n0 {d : TypeDesc} {e : Nat} (h : TK.ptr e = TK.of d) : d = .pointer e := by
 cases d <;> simp_all [TK.of]
theorem TK.of_int {d : TypeDesc} {k : IntKind} (h : TK.int k = TK.of d) : d = .int k := by
 cases d <;> simp_all [TK.of]
theorem TK.of_bool {d : TypeDesc} (h : TK.bool = TK.of d) : d = .bool := by
 cases d <;> simp_all [TK.of]
theorem TK.of_string {d : TypeDesc} (h : TK.string = TK.of d) : d = .string := by
 cases d <;> simp_all [TK.of]
theorem TK.z1ly {d : TypeDesc} {l : List (Nat × Nat)} (h : TK.str l = TK.of d) : ∃ fs, d = .struct fs ∧ l = fs.toList.map fun f => (f.offset, f.type) := by
 cases d <;> simp_all [TK.of]
theorem Lies.sub {I : Imm} {w : World} {b off : Nat} {vs us : List Value} {k : Nat} (h : Lies I w b off vs) (hs : ∀ i x, us[i]? = some x → vs[k + i]? = some x) : Lies I w b (off + k) us := fun i x hx => by
 have := h (k + i) x (hs i x hx)
 rwa [← Nat.add_assoc] at this
theorem zfn {k : Nat} : ∀ {rows : List AV} {vs : List Value} {i : Nat} {a : AV}, (∀ a ∈ rows, szA a = k) → RL ρ I w rows vs → rows[i]? = some a →
  ∃ ys, R ρ I w a ys ∧ ys.length = k ∧ (∀ j x, ys[j]? = some x → vs[i * k + j]? = some x) ∧ (vs.drop (i * k)).take k = ys
 | [], _, _, _, _, _, h => by simp at h
 | b :: bs, vs, i, a, hk, ⟨ys, zs, h0, h1, h2⟩, h => by
  subst h0;have hl := z3o b ys h1;have hb := hk b (by simp)
  cases i with
  | zero =>
   simp only [List.getElem?_cons_zero, Option.some.injEq] at h;subst h;refine ⟨ys, h1, by omega, fun j x hx => ?_, ?_⟩
   ·rw [Nat.zero_mul, Nat.zero_add, List.getElem?_append_left (List.getElem?_eq_some_iff.1 hx).1, hx]
   ·rw [Nat.zero_mul, List.drop_zero, List.take_append_of_le_length (by omega), List.take_of_length_le (by omega)]
  | succ i =>
   obtain ⟨us, g1, g2, g3, g4⟩ := zfn (fun a ha => hk a (by simp [ha])) h2 (by simpa using h)
   have e : (i + 1) * k = k + i * k := by rw [Nat.succ_mul, Nat.add_comm]
   refine ⟨us, g1, g2, fun j x hx => ?_, ?_⟩
   ·rw [e, List.getElem?_append_right (by omega), show k + i * k + j - ys.length = i * k + j by omega]
    exact g3 j x hx
   ·rw [e, List.drop_append, List.drop_eq_nil_of_le (by omega), List.nil_append, show k + i * k - ys.length = i * k by omega]
    exact g4
theorem zab {a : AV} {ys : List Value} (h : R ρ I w a ys) : RL ρ I w a.cells ys := by
 unfold AV.cells
 split
 ·exact h
 ·exact ⟨ys, [], by simp, h, rfl⟩
theorem run_indexAt {t : Nat} {ti : TI} (ht : G.ty t = some ti) {x i : AV} {vx vi : Value} (rx : rel ρ I w x vx) (ri : rel ρ I w i vi) {k : IntKind} {n : Int}
  (hi : i.toI = some (k, n)) {p : Bool × AV} (h : zgx G ti x n = some p) (hp : p.1 = true) :
  ∃ y, (Instr.indexAt t vx vi).run P w = .ok y w ∧ rel ρ I w p.2 y := by
 obtain ⟨j, d, h1, h2, h3, _, h5, _⟩ := z1a ht;have hii : vi = .int k n := z6q hi ri;subst hii;unfold zgx at h
 split at h
 ·rename_i len e hk;rw [hk] at h5;obtain rfl := TK.z1lk h5
  split at h
  ·rename_i te hte;obtain ⟨je, de, e1, e2, e3, _, e5, _⟩ := z1a hte
   split at h
   ·rename_i v hv;simp only [Option.some.injEq] at h;subst h;have hn := z32.1 hp;obtain ⟨b, o, rfl, hr⟩ := zfh rx hv hn;refine ⟨_, ?_, hr⟩;simp [Instr.indexAt, asIntOf, run_underlying h2, Instr.sureAddr, hn, run_sizeOf e1, e3, addr_add]
   ·simp at h
  ·simp at h
 ·rename_i e id off kk len hk;rw [hk] at h5;obtain rfl := TK.of_slice h5
  split at h
  ·rename_i te hte;obtain ⟨je, de, e1, e2, e3, _, e5, _⟩ := z1a hte
   split at h
   ·rename_i v hv;simp only [Option.some.injEq] at h;subst h;simp only [Bool.and_eq_true, beq_iff_eq] at hp;obtain ⟨hn, rfl⟩ := hp;have hn := z32.1 hn;rcases z2j.1 rx with ⟨b, cap, g1, rfl, g2, g3, g4⟩ | ⟨rfl, _⟩
    ·obtain ⟨b', o, he, hr⟩ := zfh (z4a.2 ⟨b, g1, rfl⟩ : rel ρ I w (.ptr id off) (.pointer (some ⟨b, off, none⟩))) hv hn;simp only [Value.pointer.injEq, Option.some.injEq, Addr.mk.injEq, and_true] at he;obtain ⟨rfl, rfl⟩ := he;refine ⟨_, ?_, hr⟩;simp [Instr.indexAt, asIntOf, run_underlying h2, hn, run_sizeOf e1, e3, addr_add]
    ·omega
   ·simp at h
  ·simp at h
 ·rename_i e full l hk;rw [hk] at h5;obtain rfl := TK.of_slice h5
  split at h
  ·rename_i te hte;obtain ⟨je, de, e1, e2, e3, _, e5, _⟩ := z1a hte;simp only [Option.some.injEq] at h;subst h;simp only [Bool.and_eq_true, beq_iff_eq] at hp;obtain ⟨hn, hsz⟩ := hp;have hn := z32.1 hn;obtain ⟨a, cap, rfl, g1, g2, g3 | ⟨b, off, rfl, g3, g4⟩⟩ := z22.1 rx
   ·omega
   ·refine ⟨.pointer (some ⟨b, off + n.toNat, none⟩), ?_, zfb.2 ⟨hn, v8 l, ⟨_, [], by simp, ⟨rfl, rfl⟩, rfl⟩, b, off, by simp, g4⟩⟩
    have : je.size = 1 := by omega
    simp [Instr.indexAt, asIntOf, run_underlying h2, hn, run_sizeOf e1, this, addr_add]
  ·simp at h
 ·rename_i e full kk rows hk;rw [hk] at h5;obtain rfl := TK.of_slice h5
  split at h
  ·rename_i te hte;obtain ⟨je, de, e1, e2, e3, _, e5, _⟩ := z1a hte;simp only [Option.some.injEq] at h;subst h;simp only [Bool.and_eq_true, beq_iff_eq] at hp;obtain ⟨hn, rfl⟩ := hp;have hn := z32.1 hn;obtain ⟨hev, vs, hrl, a, cap, rfl, g1, g2, g3 | ⟨b, off, rfl, g3, g4⟩⟩ := z2h.1 rx
   ·omega
   ·have hlt : n.toNat < rows.length := by omega
    obtain ⟨ys, q1, q2, q3, _⟩ := zfn hev hrl (i := n.toNat) (a := rows[n.toNat]) (by simp [hlt])
    refine ⟨.pointer (some ⟨b, off + n.toNat * te.size, none⟩), ?_, z6i.2 ⟨ys, ?_, b, off + n.toNat * te.size, by simp, g4.sub q3⟩⟩
    ·simp [Instr.indexAt, asIntOf, run_underlying h2, hn, run_sizeOf e1, e3, addr_add]
    ·rw [show rows.getD n.toNat .any = rows[n.toNat] by simp [List.getD, hlt]]
     exact zab q1
  ·simp at h
 ·rename_i e full kk m f hk;rw [hk] at h5;obtain rfl := TK.of_slice h5
  split at h
  ·rename_i te hte;obtain ⟨je, de, e1, e2, e3, _, e5, _⟩ := z1a hte;simp only [Option.some.injEq] at h;subst h;simp only [Bool.and_eq_true, beq_iff_eq] at hp;obtain ⟨hn, rfl⟩ := hp;have hn := z32.1 hn;obtain ⟨hpu, vs, hvl, hrl, a, cap, rfl, g1, g2, g3 | ⟨b, off, rfl, g3, g4⟩⟩ := z1j.1 rx
   ·omega
   ·have hlt : n.toNat < m := by omega
    refine ⟨.pointer (some ⟨b, off + n.toNat * te.size, none⟩), ?_, z6i.2 ⟨_, hrl n.toNat hlt, b, off + n.toNat * te.size, by simp, fun i x hx => ?_⟩⟩
    ·simp [Instr.indexAt, asIntOf, run_underlying h2, hn, run_sizeOf e1, e3, addr_add]
    ·have hx' : vs[n.toNat * te.size + i]? = some x := by
      rw [List.getElem?_take] at hx
      split at hx
      ·rwa [List.getElem?_drop] at hx
      ·simp at hx
     rw [Nat.add_assoc];exact g4 _ _ hx'
  ·simp at h
 ·rename_i e id kk m f hk;rw [hk] at h5;obtain rfl := TK.of_slice h5
  split at h
  ·rename_i te hte;obtain ⟨je, de, e1, e2, e3, _, e5, _⟩ := z1a hte;simp only [Option.some.injEq] at h;subst h;simp only [Bool.and_eq_true, beq_iff_eq] at hp;obtain ⟨hn, rfl⟩ := hp;have hn := z32.1 hn;obtain ⟨hpu, vs, hvl, hrl, a, cap, rfl, g1, g2, g3 | ⟨b, off, rfl, g3, g4⟩⟩ := z1j.1 (z2r.1 rx).1
   ·omega
   ·have hlt : n.toNat < m := by omega
    refine ⟨.pointer (some ⟨b, off + n.toNat * te.size, none⟩), ?_, z6i.2 ⟨_, hrl n.toNat hlt, b, off + n.toNat * te.size, by simp, fun i x hx => ?_⟩⟩
    ·simp [Instr.indexAt, asIntOf, run_underlying h2, hn, run_sizeOf e1, e3, addr_add]
    ·have hx' : vs[n.toNat * te.size + i]? = some x := by
      rw [List.getElem?_take] at hx
      split at hx
      ·rwa [List.getElem?_drop] at hx
      ·simp at hx
     rw [Nat.add_assoc];exact g4 _ _ hx'
  ·simp at h
 ·simp at h
theorem z1br {cs : Array Value} {xs : List Value} {i : Nat} {y : Value} (h : cs.toList = xs) (hy : xs[i]? = some y) : cs[i]? = some y := by
 subst h; simpa using hy
theorem zww {e len : Nat} {te : TI} (hte : G.ty e = some te) (hs : te.size = 1 ∧ te.kind.isAgg = false) {cs : Array Value} {xs : List Value} (h : cs.toList = xs) {n : Nat} {y : Value} (hy : xs[n]? = some y) :
  ∃ je, P.info? e = some je ∧ je.size = 1 ∧ (part e cs n).run P w = .ok y w := by
 obtain ⟨je, de, e1, e2, e3, _, e5, _⟩ := z1a hte;have hk := hs.2;rw [e5] at hk;exact ⟨je, e1, by omega, by simp [part, z5j e2, hk, z1br h hy]⟩
theorem z13o {t : Nat} {ti : TI} (ht : G.ty t = some ti) {x i : AV} {vx vi : Value} (rx : rel ρ I w x vx) (ri : rel ρ I w i vi) {k : IntKind} {n : Int}
  (hi : i.toI = some (k, n)) {p : Bool × AV} (h : zwm G ti x n = some p) (hp : p.1 = true) :
  ∃ y, (Instr.index t vx vi).run P w = .ok y w ∧ rel ρ I w p.2 y := by
 obtain ⟨j, d, h1, h2, h3, _, h5, _⟩ := z1a ht;have hii : vi = .int k n := z6q hi ri;subst hii;have go : ∀ {e len m : Nat} {te : TI} {cs : Array Value} {xs : List Value} {y : Value}, ti.kind = .arr len e → G.ty e = some te → ((inB n len && len == m) && (te.size == 1 && !te.kind.isAgg)) = true → cs.toList = xs → xs[n.toNat]? = some y →
   (Instr.index t (.agg cs) (.int k n)).run P w = .ok y w := by
  intro e len m te cs xs y hk hte hp hcs hy;rw [hk] at h5;obtain rfl := TK.z1lk h5;simp only [Bool.and_eq_true, beq_iff_eq, Bool.not_eq_true'] at hp;obtain ⟨⟨hn, _⟩, hs⟩ := hp;have hn := z32.1 hn;obtain ⟨je, e1, e2, e3⟩ := zww (w := w) (len := len) hte hs hcs hy;simp [Instr.index, asIntOf, run_underlying h2, hn, run_sizeOf e1, e2, e3]
 unfold zwm at h
 split at h
 ·rename_i len e m l hk
  split at h
  ·rename_i te hte;simp only [Option.some.injEq] at h;subst h;obtain ⟨cs, rfl, hcs, hl⟩ := zfr.1 rx;have hp' := hp;simp only [Bool.and_eq_true, beq_iff_eq, Bool.not_eq_true'] at hp;have hn := z32.1 hp.1.1;have := hp.1.2;exact ⟨_, go hk hte hp' hcs (zmw (by omega)), zu.2 rfl⟩
  ·simp at h
 ·rename_i len e m l hk
  split at h
  ·rename_i te hte;simp only [Option.some.injEq] at h;subst h;obtain ⟨cs, rfl, hcs, hl⟩ := zfl.1 rx;have hp' := hp;simp only [Bool.and_eq_true, beq_iff_eq, Bool.not_eq_true'] at hp;have hn := z32.1 hp.1.1;have := hp.1.2;exact ⟨_, go hk hte hp' hcs (zq4 (by omega)), zo.2 rfl⟩
  ·simp at h
 ·rename_i len e m l hk
  split at h
  ·rename_i te hte;simp only [Option.some.injEq] at h;subst h;obtain ⟨cs, rfl, hcs, hl⟩ := zf2.1 rx;have hp' := hp;simp only [Bool.and_eq_true, beq_iff_eq, Bool.not_eq_true'] at hp;have hn := z32.1 hp.1.1;have := hp.1.2;exact ⟨_, go hk hte hp' hcs (zq5 (by omega)), zn.2 rfl⟩
  ·simp at h
 ·rename_i len e m l hk
  split at h
  ·rename_i te hte;obtain ⟨cs, rfl, hcs, hl⟩ := zzz.1 rx;cases hag : te.kind.isAgg with
   | true =>
    rw [hag] at h;simp only [cond_true, Option.some.injEq] at h;subst h;simp only [Bool.and_eq_true] at hp;have hn := z32.1 hp.1;have hle := zh.1 hp.2;obtain ⟨je, de, e1, e2, e3, _, e5, _⟩ := z1a hte;rw [hk] at h5;obtain rfl := TK.z1lk h5;rw [e5] at hag;have hmul : n.toNat * te.size + te.size ≤ len * te.size := by
     have : (n.toNat + 1) * te.size ≤ len * te.size := Nat.mul_le_mul_right _ (by omega)
     rwa [Nat.add_mul, Nat.one_mul] at this
    refine ⟨.agg (cs.extract (n.toNat * te.size) (n.toNat * te.size + te.size)), ?_, zzz.2 ⟨_, rfl, ?_, ?_⟩⟩
    ·simp [Instr.index, asIntOf, run_underlying h2, hn, run_sizeOf e1, e3, part, z5j e2, hag]
    ·rw [Array.toList_extract, hcs, List.extract_eq_take_drop, zi4, zj0, Nat.add_sub_cancel_left]
    ·rw [List.length_take, List.length_drop]; omega
   | false =>
    rw [hag] at h;simp only [cond_false, Option.some.injEq] at h;subst h;have hp' := hp;simp only [Bool.and_eq_true, beq_iff_eq, Bool.not_eq_true'] at hp;have hn := z32.1 hp.1.1;have := hp.1.2;exact ⟨_, go hk hte (by rw [hag]; exact hp') hcs (zm3 (by omega)), zj.2 rfl⟩
  ·simp at h
 ·rename_i len e l hk;rw [hk] at h5;obtain rfl := TK.z1lk h5
  split at h
  ·rename_i te hte;obtain ⟨je, de, e1, e2, e3, _, e5, _⟩ := z1a hte
   split at h
   ·rename_i q v hq;simp only [Option.some.injEq] at h;subst h;simp only [Bool.and_eq_true] at hp;obtain ⟨cs, rfl, hr⟩ := z2w.1 rx;have hn := z32.1 hp.1;obtain ⟨y, hy, hry⟩ := za4 (p := (q, v)) hte hr hq hp.2;refine ⟨y, ?_, hry⟩;rw [e3] at hy;simp only [Array.toArray_toList] at hy;simp [Instr.index, asIntOf, run_underlying h2, hn, run_sizeOf e1, hy]
   ·simp at h
  ·simp at h
 ·rename_i s hk;rw [hk] at h5;obtain rfl := TK.of_string h5;simp only [Option.some.injEq] at h;subst h;have hn := z32.1 hp;obtain rfl := zi.1 rx;have hlt : n.toNat < s.length := by omega
  have : (⟨s.toArray⟩ : ByteArray)[n.toNat]? = some s[n.toNat] := by
   have hsz : (⟨s.toArray⟩ : ByteArray).size = s.length := by simp [ByteArray.size]
   rw [getElem?_pos _ _ (by rw [hsz]; exact hlt)]
   rfl
  refine ⟨.int .u8 s[n.toNat].toNat, ?_, ?_⟩
  ·simp [Instr.index, asIntOf, run_underlying h2, hn.1, this]
  ·rw [zu]; simp [List.getD, hlt]
 ·simp at h
theorem z15h {b : Bool} {x y : AV} {vx vy : Value} (hx : rel ρ I w x vx) (hy : rel ρ I w y vy) : rel ρ I w (z11s b x y) (if b then vx else vy) := by
 unfold z11s
 split
 ·rw [zl] at hx hy ⊢;subst hx hy;cases b <;> rfl
 ·cases b
  ·exact hy
  ·exact hx
theorem z16b {t : Nat} {ti : TI} (ht : G.ty t = some ti) {x : AV} {vx : Value} (rx : rel ρ I w x vx) {f : Nat} {p : Bool × AV} (h : zws G ti x f = some p) (hp : p.1 = true) :
  ∃ y, (Instr.field t vx f).run P w = .ok y w ∧ rel ρ I w p.2 y := by
 obtain ⟨j, d, h1, h2, h3, _, h5, _⟩ := z1a ht;unfold zws at h
 split at h
 ·rename_i fs hk;rw [hk] at h5;obtain ⟨fields, rfl, rfl⟩ := TK.z1ly h5
  split at h
  ·rename_i off ft hf;rw [List.getElem?_map, Option.map_eq_some_iff] at hf;obtain ⟨fd, hfd, hfd2⟩ := hf;simp only [Prod.mk.injEq] at hfd2;obtain ⟨rfl, rfl⟩ := hfd2;have hfd' : fields[f]? = some fd := by simpa using hfd
   split at h
   ·rename_i tf htf;cases hi : z1w x <;> rw [hi] at h <;> simp only [cond_true, cond_false, reduceCtorEq] at h
    obtain ⟨cs, rfl, hr⟩ := (znu hi).1 rx;obtain ⟨y, hy, hry⟩ := za4 (w := w) htf (zab hr) h hp;refine ⟨y, ?_, hry⟩;simp only [Array.toArray_toList] at hy;simp [Instr.field, run_underlying h2, hfd', asAgg, hy]
   ·simp at h
  ·simp at h
 ·simp at h
end
section
variable {P : Program} {G : Env P} {ρ : Rho} {I : Imm} {H : Heap} {w : World}
theorem zn3 (x y : UInt8) : ((x.toNat : Int) == (y.toNat : Int)) = (x == y) := by
 rw [Bool.eq_iff_iff, beq_iff_eq, beq_iff_eq, ← UInt8.toNat_inj]; omega
theorem zle (x y : UInt32) : ((x.toNat : Int) == (y.toNat : Int)) = (x == y) := by
 rw [Bool.eq_iff_iff, beq_iff_eq, beq_iff_eq, ← UInt32.toNat_inj]; omega
theorem zkz (x y : UInt64) : ((x.toNat : Int) == (y.toNat : Int)) = (x == y) := by
 rw [Bool.eq_iff_iff, beq_iff_eq, beq_iff_eq, ← UInt64.toNat_inj]; omega
theorem z159 (x y : List UInt8) : ((⟨x.toArray⟩ : ByteArray) == ⟨y.toArray⟩) = (x == y) := by
 have h : ((⟨x.toArray⟩ : ByteArray) == ⟨y.toArray⟩) = (x.toArray == y.toArray) := rfl;rw [h, Bool.eq_iff_iff, beq_iff_eq, beq_iff_eq];exact ⟨fun h => by simpa using h, fun h => by rw [h]⟩
theorem z13d {t : Nat} {d : TypeDesc} (hd : P.underlying t = some d) {k : TK} (hk : k = TK.of d) {a b : AV} {va vb : Value} (ra : rel ρ I w a va) (rb : rel ρ I w b vb) {r : Bool} (h : zlo k a b = some r) (D : Nat) :
  (Op.equalIn (D + 1) t va vb).run P w = .ok r w := by
 subst hk;cases d
 case int q =>
  unfold zlo at h
  split at h
  all_goals (try (rename_i hk; simp [TK.of] at hk; done))
  case h_1 => simp only [zu, zo, zn, zj, zl, zi] at ra rb; subst ra rb; simp only [Option.some.injEq] at h; subst h; simp [Op.equalIn, run_underlying hd, zn3]
  case h_2 => simp only [zu, zo, zn, zj, zl, zi] at ra rb; subst ra rb; simp only [Option.some.injEq] at h; subst h; simp [Op.equalIn, run_underlying hd, zle]
  case h_3 => simp only [zu, zo, zn, zj, zl, zi] at ra rb; subst ra rb; simp only [Option.some.injEq] at h; subst h; simp [Op.equalIn, run_underlying hd, zkz]
  case h_4 =>
   simp only [zu, zo, zn, zj, zl, zi] at ra rb; subst ra rb
   cases hkk : eqK _ _ <;> rw [hkk] at h <;> simp only [cond_true, cond_false, reduceCtorEq, Option.some.injEq] at h
   simp only [eqK, decide_eq_true_eq] at hkk;subst hkk;subst h;simp [Op.equalIn, run_underlying hd]
  all_goals simp at h
 case bool =>
  simp only [TK.of] at h;unfold zlo at h
  split at h
  all_goals (try (rename_i hk; simp at hk; done))
  case h_5 => simp only [zu, zo, zn, zj, zl, zi] at ra rb; subst ra rb; simp only [Option.some.injEq] at h; subst h; simp [Op.equalIn, run_underlying hd]
  all_goals simp at h
 case string =>
  simp only [TK.of] at h;unfold zlo at h
  split at h
  all_goals (try (rename_i hk; simp at hk; done))
  case h_6 => simp only [zu, zo, zn, zj, zl, zi] at ra rb; subst ra rb; simp only [Option.some.injEq] at h; subst h; simp [Op.equalIn, run_underlying hd, z159]
  all_goals simp at h
 all_goals simp [TK.of, zlo] at h
theorem zla {e : Nat} {d : TypeDesc} (hd : P.underlying e = some d) (hagg : (TK.of d).isAgg = false) (D : Nat) {xs ys : List Value} : ∀ (ps : List (Value × Value × Bool)) (i : Nat),
  (∀ p ∈ ps, (Op.equalIn D e p.1 p.2.1).run P w = .ok p.2.2 w) → xs.drop i = ps.map (·.1) → ys.drop i = ps.map (·.2.1) →
  (Op.eqItems D e 1 xs.toArray ys.toArray (List.range' i ps.length)).run P w = .ok (ps.all (·.2.2)) w
 | [], i, _, _, _ => by simp [Op.eqItems]
 | p :: ps, i, hp, e1, e2 => by
  have hx : xs[i]? = some p.1 := by have := congrArg (·[0]?) e1; simpa using this
  have hy : ys[i]? = some p.2.1 := by have := congrArg (·[0]?) e2; simpa using this
  have px : (part e xs.toArray (i * 1)).run P w = .ok p.1 w := by simp [part, z5j hd, hagg, hx]
  have py : (part e ys.toArray (i * 1)).run P w = .ok p.2.1 w := by simp [part, z5j hd, hagg, hy]
  have e1' : xs.drop (i + 1) = ps.map (·.1) := by rw [← List.tail_drop, e1]; rfl
  have e2' : ys.drop (i + 1) = ps.map (·.2.1) := by rw [← List.tail_drop, e2]; rfl
  have ih := zla hd hagg D ps (i + 1) (fun q hq => hp q (by simp [hq])) e1' e2'
  simp only [List.length_cons, List.range'_succ, Op.eqItems, Sem.run_bind, px, py, Result.andThen_ok, hp p (by simp), List.all_cons]
  cases p.2.2
  ·simp
  ·simpa using ih
theorem zzn {α : Type} [BEq α] [LawfulBEq α] (f : α → Value) : ∀ (l l' : List α), l.length = l'.length →
  ∃ ps : List (Value × Value × Bool), ps.map (·.1) = l.map f ∧ ps.map (·.2.1) = l'.map f ∧ ps.all (·.2.2) = (l == l') ∧ (∀ p ∈ ps, ∃ x y, p = (f x, f y, x == y)) ∧ ps.length = l.length
 | [], [], _ => ⟨[], rfl, rfl, rfl, fun _ h => by simp at h, rfl⟩
 | [], _ :: _, h => by simp at h
 | _ :: _, [], h => by simp at h
 | x :: l, y :: l', h => by
  obtain ⟨ps, h1, h2, h3, h4, h5⟩ := zzn f l l' (by simpa using h)
  refine ⟨(f x, f y, x == y) :: ps, by simp [h1], by simp [h2], by simp [h3], fun p hp => ?_, by simp [h5]⟩
  rcases List.mem_cons.1 hp with rfl | hp
  ·exact ⟨x, y, rfl⟩
  ·exact h4 p hp
theorem z1iw {α : Type} [BEq α] [LawfulBEq α] (f : α → Value) {e n : Nat} {d : TypeDesc} (hd : P.underlying e = some d) (hagg : (TK.of d).isAgg = false) (D : Nat) (hf : ∀ x y : α, (Op.equalIn D e (f x) (f y)).run P w = .ok (x == y) w)
  {l l' : List α} (h1 : l.length = n) (h2 : l'.length = n) {cs cs' : Array Value} (hc : cs.toList = l.map f) (hc' : cs'.toList = l'.map f) :
  (Op.eqItems D e 1 cs cs' (List.range n)).run P w = .ok (l == l') w := by
 obtain ⟨ps, g1, g2, g3, g4, g5⟩ := zzn f l l' (by omega)
 have := zla (P := P) (w := w) hd hagg D (xs := cs.toList) (ys := cs'.toList) ps 0 (fun p hp => by
  obtain ⟨x, y, rfl⟩ := g4 p hp; exact hf x y) (by rw [g1, hc]; rfl) (by rw [g2, hc']; rfl)
 rw [g3, g5, h1] at this;simpa [List.range_eq_range'] using this
theorem zl5 {f : AV → AV → Option (Bool × Bool)} {e D : Nat} {te : TI} (hte : G.ty e = some te) {xs ys : List AV} {vs vs' : List Value} (h1 : RL ρ I w xs vs) (h2 : RL ρ I w ys vs')
  (hf : ∀ a b p, f a b = some p → p.1 = true → ∀ va vb, rel ρ I w a va → rel ρ I w b vb → (Op.equalIn D e va vb).run P w = .ok p.2 w) : ∀ {n i : Nat} {p : Bool × Bool}, zni f te xs ys n i = some p → p.1 = true →
  (Op.eqItems D e te.size vs.toArray vs'.toArray (List.range' i n)).run P w = .ok p.2 w
 | 0, i, p, h, _ => by simp [zni] at h; subst h; simp [Op.eqItems]
 | n + 1, i, p, h, hp => by
  unfold zni at h
  split at h
  ·rename_i c a c' b ha hb
   split at h
   ·rename_i d r d' s hr hs;simp only [Option.some.injEq] at h;subst h;simp only [Bool.and_eq_true] at hp;obtain ⟨⟨hc, hc'⟩, hd, hd'⟩ := hp;obtain ⟨va, pa, ra⟩ := za4 (w := w) hte h1 ha hc;obtain ⟨vb, pb, rb⟩ := za4 (w := w) hte h2 hb hc';have e1 := hf a b _ hr hd va vb ra rb;have ih := zl5 hte h1 h2 hf hs hd';simp only [List.range'_succ, Op.eqItems, Sem.run_bind, pa, pb, Result.andThen_ok, e1];cases r
    ·simp
    ·simpa using ih
   ·simp at h
  ·simp at h
theorem zlh {f : Nat → AV → AV → Option (Bool × Bool)} {D : Nat} {xs ys : List AV} {vs vs' : List Value} (h1 : RL ρ I w xs vs) (h2 : RL ρ I w ys vs')
  (hf : ∀ t a b p, f t a b = some p → p.1 = true → ∀ va vb, rel ρ I w a va → rel ρ I w b vb → (Op.equalIn D t va vb).run P w = .ok p.2 w) : ∀ {fs : List Field} {p : Bool × Bool},
  zoj G f xs ys (fs.map fun f => (f.offset, f.type)) = some p → p.1 = true → (fs.all fun f => f.name != "_") = true →
  (Op.eqFields D vs.toArray vs'.toArray fs).run P w = .ok p.2 w
 | [], p, h, _, _ => by simp [zoj] at h; subst h; simp [Op.eqFields]
 | g :: fs, p, h, hp, hn => by
  rw [List.map_cons] at h;unfold zoj at h;simp only [List.all_cons, Bool.and_eq_true, bne_iff_ne] at hn
  split at h
  ·rename_i tf htf
   split at h
   ·rename_i c a c' b ha hb
    split at h
    ·rename_i d r d' s hr hs;simp only [Option.some.injEq] at h;subst h;simp only [Bool.and_eq_true] at hp;obtain ⟨⟨hc, hc'⟩, hd, hd'⟩ := hp;obtain ⟨va, pa, ra⟩ := za4 (w := w) htf h1 ha hc;obtain ⟨vb, pb, rb⟩ := za4 (w := w) htf h2 hb hc';have e1 := hf g.type a b _ hr hd va vb ra rb;have ih := zlh h1 h2 hf hs hd' hn.2;simp only [Op.eqFields, hn.1, ne_eq, not_false_eq_true, if_true, Sem.run_bind, pa, pb, Result.andThen_ok, e1];cases r
     ·simp
     ·simpa using ih
    ·simp at h
   ·simp at h
  ·simp at h
theorem TK.z1mb {d : TypeDesc} (h : (TK.of d).isInt = true) : ∃ k, d = .int k := by
 cases d <;> simp [TK.of, TK.isInt] at h
 exact ⟨_, rfl⟩
theorem zby : ∀ (d t : Nat) (a b : AV) (p : Bool × Bool), zh9 G d t a b = some p → p.1 = true → ∀ (D : Nat) (va vb : Value), rel ρ I w a va → rel ρ I w b vb → (Op.equalIn (D + d + 1) t va vb).run P w = .ok p.2 w
 | 0, t, a, b, p, h => by simp [zh9] at h
 | d + 1, t, a, b, p, h => by
  intro hp D va vb ra rb;unfold zh9 at h
  split at h
  ·simp at h
  ·rename_i ti ht;obtain ⟨j, dd, q1, q2, q3, _, q5, _, _, q8⟩ := z1a ht;have seg : ∀ {α : Type} [BEq α] [LawfulBEq α] (f : α → Value) (e n m m' : Nat) (l l' : List α) (te : TI) (cs cs' : Array Value), ti.kind = .arr n e → G.ty e = some te → ((te.size == 1 && te.kind.isInt) && (n == m && n == m')) = true →
     l.length = m → l'.length = m' → cs.toList = l.map f → cs'.toList = l'.map f → (∀ (D' : Nat) (x y : α) (k : IntKind), P.underlying e = some (.int k) → (Op.equalIn (D' + 1) e (f x) (f y)).run P w = .ok (x == y) w) →
     (Op.equalIn (D + (d + 1) + 1) t (.agg cs) (.agg cs')).run P w = .ok (l == l') w := by
    intro α _ _ f e n m m' l l' te cs cs' hk hte hp h1 h2 hc hc' hf;obtain rfl := TK.z1lk (hk.symm.trans q5);obtain ⟨je, de, e1, e2, e3, _, e5, _⟩ := z1a hte;simp only [Bool.and_eq_true, beq_iff_eq] at hp;obtain ⟨⟨p1, p2⟩, rfl, rfl⟩ := hp;have hsz : P.cellsOf e = 1 := by simp [Program.cellsOf, e1]; omega
    rw [run_equalIn_array w (D + (d + 1)) cs cs' q2 e1, hsz];rw [e5] at p2;obtain ⟨k, rfl⟩ := TK.z1mb p2;exact z1iw f e2 rfl _ (fun x y => hf _ x y k e2) h1 h2 hc hc'
   split at h
   ·rename_i n e m l m' l' hk
    split at h
    ·rename_i te hte;simp only [Option.some.injEq] at h;subst h;obtain ⟨cs, rfl, hc, hl⟩ := zfr.1 ra;obtain ⟨cs', rfl, hc', hl'⟩ := zfr.1 rb;exact seg _ e n m m' l l' te cs cs' hk hte hp hl hl' hc hc' fun D' x y k hu => by simp [Op.equalIn, run_underlying hu, zn3]
    ·simp at h
   ·rename_i n e m l m' l' hk
    split at h
    ·rename_i te hte;simp only [Option.some.injEq] at h;subst h;obtain ⟨cs, rfl, hc, hl⟩ := zfl.1 ra;obtain ⟨cs', rfl, hc', hl'⟩ := zfl.1 rb;exact seg _ e n m m' l l' te cs cs' hk hte hp hl hl' hc hc' fun D' x y k hu => by simp [Op.equalIn, run_underlying hu, zle]
    ·simp at h
   ·rename_i n e m l m' l' hk
    split at h
    ·rename_i te hte;simp only [Option.some.injEq] at h;subst h;obtain ⟨cs, rfl, hc, hl⟩ := zf2.1 ra;obtain ⟨cs', rfl, hc', hl'⟩ := zf2.1 rb;exact seg _ e n m m' l l' te cs cs' hk hte hp hl hl' hc hc' fun D' x y k hu => by simp [Op.equalIn, run_underlying hu, zkz]
    ·simp at h
   ·rename_i n e xs ys hk;obtain rfl := TK.z1lk (hk.symm.trans q5);obtain ⟨cs, rfl, hx⟩ := z2w.1 ra;obtain ⟨cs', rfl, hy⟩ := z2w.1 rb
    split at h
    ·rename_i te hte;obtain ⟨je, de, e1, e2, e3, _, e5, _⟩ := z1a hte;have hsz : P.cellsOf e = te.size := by simp [Program.cellsOf, e1, e3]
     rw [run_equalIn_array w (D + (d + 1)) cs cs' q2 e1, hsz];have := zl5 hte hx hy (fun a b p h hp va vb ra rb => zby d e a b p h hp D va vb ra rb) h hp
     rw [Nat.add_assoc] at this;simpa [List.range_eq_range'] using this
    ·simp at h
   ·rename_i fs xs ys hk;obtain ⟨fields, rfl, rfl⟩ := TK.z1ly (hk.symm.trans q5);obtain ⟨cs, rfl, hx⟩ := z2w.1 ra;obtain ⟨cs', rfl, hy⟩ := z2w.1 rb
    split at h
    ·rename_i c r hr;simp only [Option.some.injEq] at h;subst h;simp only [Bool.and_eq_true] at hp;obtain ⟨hok, hc⟩ := hp;have hok := q8 hok;simp only [zsi, Bool.and_eq_true, Bool.not_eq_true'] at hok;have hfs : P.fieldsOf t = fields := by simp [Program.fieldsOf, q2]
     rw [run_equalIn_struct w (D + (d + 1)) t cs cs' (by rw [hfs]; exact q2) hok.2, hfs]
     rw [hfs] at hok;exact zlh (p := (c, r)) hx hy (fun t a b p h hp va vb ra rb => zby d t a b p h hp D va vb ra rb) hr hc (by have := hok.1; rwa [← Array.all_toList] at this)
    ·simp at h
   ·split at h
    ·rename_i r hr;simp only [Option.some.injEq] at h;subst h;exact z13d q2 q5 ra rb hr (D + (d + 1))
    ·simp at h
theorem z12f (op : BinOp) (t : TypeId) (x y : Operand) {a b : Value} (h1 : ∀ cs, a ≠ .agg cs) (h2 : a ≠ .nilIface) : (eqGuard op t x y a b).run P w = .ok () w := by
 cases op <;> simp only [eqGuard] <;> first | rfl | (cases a <;> first | rfl | exact absurd rfl h2 | exact absurd rfl (h1 _))
def z8e : AV → Bool
 | .int .. | .u8 _ | .u32 _ | .u64 _ | .bool _ | .str _ => true
 | _ => false
theorem ztu {a : AV} {v : Value} (r : rel ρ I w a v) (h : z8e a = true) : (∀ cs, v ≠ .agg cs) ∧ v ≠ .nilIface := by
 cases a <;> simp [z8e] at h <;> simp only [zu, zo, zn, zj, zl, zi] at r <;> subst r <;> exact ⟨fun _ h => (by cases h), fun h => (by cases h)⟩
theorem z13e {a : AV} {k : IntKind} {n : Int} (h : a.toI = some (k, n)) : z8e a = true := by
 cases a <;> simp_all [AV.toI, z8e]
theorem zvs {op : BinOp} {a b : AV} {p : Bool × AV} (h : zjn op a b = some p) : z8e a = true := by
 unfold zjn at h
 split at h <;> first | rfl | simp at h
theorem zj6 {op : BinOp} {a b : AV} {p : Bool × AV} (h : zfz op a b = some p) : z8e a = true := by
 unfold zfz at h
 split at h
 ·simp at h
 ·split at h <;> first | rfl | simp at h
theorem z11j {op : BinOp} {a b : AV} {p : Bool × AV} (h : zw9 op a b = some p) : z8e a = true := by
 unfold zw9 at h
 split at h
 ·rename_i ha _; exact z13e ha
 ·simp at h
theorem zrs {op : BinOp} {a b : AV} {p : Bool × AV} (h : zga op a b = some p) : z8e a = true := by
 unfold zga at h
 split at h <;> first | rfl | simp at h
theorem z107 {op : BinOp} {a b : AV} {p : Bool × AV} (h : zwe op a b = some p) : z8e a = true := by
 unfold zwe at h
 split at h <;> first | rfl | simp at h
theorem zvj {t : Nat} {ti : TI} (ht : G.ty t = some ti) (hw : ti.kind.isAgg = true) {x y : AV} {vx vy : Value} (rx : rel ρ I w x vx) (ry : rel ρ I w y vy) {p : Bool × Bool} (h : zh9 G 8 t x y = some p) : ∃ cs cs', vx = .agg cs ∧ vy = .agg cs' := by
 unfold zh9 at h;rw [ht] at h;simp only at h
 split at h
 ·obtain ⟨cs, rfl, _⟩ := zfr.1 rx; obtain ⟨cs', rfl, _⟩ := zfr.1 ry; exact ⟨_, _, rfl, rfl⟩
 ·obtain ⟨cs, rfl, _⟩ := zfl.1 rx; obtain ⟨cs', rfl, _⟩ := zfl.1 ry; exact ⟨_, _, rfl, rfl⟩
 ·obtain ⟨cs, rfl, _⟩ := zf2.1 rx; obtain ⟨cs', rfl, _⟩ := zf2.1 ry; exact ⟨_, _, rfl, rfl⟩
 ·obtain ⟨cs, rfl, _⟩ := z2w.1 rx; obtain ⟨cs', rfl, _⟩ := z2w.1 ry; exact ⟨_, _, rfl, rfl⟩
 ·obtain ⟨cs, rfl, _⟩ := z2w.1 rx; obtain ⟨cs', rfl, _⟩ := z2w.1 ry; exact ⟨_, _, rfl, rfl⟩
 ·split at h
  ·rename_i r hr;unfold zlo at hr
   split at hr
   all_goals first | (simp at hr; done) | simp_all [TK.isAgg]
  ·simp at h
theorem ziq {op : BinOp} {t : Nat} {ti : TI} (ht : G.ty t = some ti) (hw : ti.kind.isAgg = true) {x y : AV} {vx vy : Value} (rx : rel ρ I w x vx) (ry : rel ρ I w y vy) {p : Bool × AV} (h : zmr G op t ti x y = some p) (hp : p.1 = true) :
  (∀ xo yo, (eqGuard op t xo yo vx vy).run P w = .ok () w) ∧ ∃ z, (binOp op t vx vy).run P w = .ok z w ∧ rel ρ I w p.2 z := by
 obtain ⟨j, dd, q1, q2, q3, _, q5, _, q7, _⟩ := z1a ht;unfold zmr at h
 split at h
 ·split at h
  ·rename_i c r hr;simp only [Option.some.injEq] at h;subst h;simp only [Bool.and_eq_true] at hp;obtain ⟨cs, cs', rfl, rfl⟩ := zvj ht hw rx ry hr;have he : (Op.equalIn 10000 t (.agg cs) (.agg cs')).run P w = .ok r w := zby 8 t x y (c, r) hr hp.2 9991 _ _ rx ry;exact ⟨fun xo yo => run_eqGuard_agg w _ t xo yo cs cs' (q7 hp.1), _, by rw [run_eql_struct, he]; rfl, zl.2 rfl⟩
  ·simp at h
 ·split at h
  ·rename_i c r hr;simp only [Option.some.injEq] at h;subst h;simp only [Bool.and_eq_true] at hp;obtain ⟨cs, cs', rfl, rfl⟩ := zvj ht hw rx ry hr;have he : (Op.equalIn 10000 t (.agg cs) (.agg cs')).run P w = .ok r w := zby 8 t x y (c, r) hr hp.2 9991 _ _ rx ry;exact ⟨fun xo yo => run_eqGuard_agg w _ t xo yo cs cs' (q7 hp.1), _, by rw [run_neq_struct, he]; rfl, zl.2 rfl⟩
  ·simp at h
 ·simp at h
theorem z1cy {op : BinOp} {t : Nat} {x y : AV} {vx vy : Value} (rx : rel ρ I w x vx) (ry : rel ρ I w y vy) {p : Bool × AV} (h : aBin G op t x y = some p) (hp : p.1 = true) :
  (∀ xo yo, (eqGuard op t xo yo vx vy).run P w = .ok () w) ∧ ∃ z, (binOp op t vx vy).run P w = .ok z w ∧ rel ρ I w p.2 z := by
 have pl : z8e x = true → ∀ xo yo, (eqGuard op t xo yo vx vy).run P w = .ok () w := fun h xo yo => by
  obtain ⟨g1, g2⟩ := ztu rx h;exact z12f op t xo yo g1 g2
 unfold aBin at h
 split at h
 ·rename_i r hr;simp only [Option.some.injEq] at h;subst h;exact ⟨pl (zvs hr), z14d rx ry hr hp⟩
 ·split at h
  ·rename_i r hr;simp only [Option.some.injEq] at h;subst h
   split at hr
   ·exact ⟨pl (zj6 hr), zqn rx ry hr hp⟩
   ·exact ⟨pl (zj6 hr), zqn rx ry hr hp⟩
   ·rename_i h1 h2;exact ⟨pl (z11j hr), z1du ⟨fun h => h1 h, fun h => h2 h⟩ rx ry hr hp⟩
  ·split at h
   ·rename_i ti ht;obtain ⟨j, d, h1, h2, _, _, h5, _⟩ := z1a ht
    split at h
    ·rename_i hk;rw [hk] at h5;obtain rfl := TK.of_bool h5;exact ⟨pl (zrs h), z11m h2 rx ry h⟩
    ·exact ⟨pl (z107 h), z1d5 rx ry h hp⟩
    ·rename_i hk;exact ziq ht (by rw [hk]; rfl) rx ry h hp
    ·rename_i hk;exact ziq ht (by rw [hk]; rfl) rx ry h hp
    ·simp at h
   ·simp at h
theorem z8u {ev : Operand → AV} {e : Operand → Value} (r : ∀ x, rel ρ I w (ev x) (e x)) (l : List Operand) : RV ρ I w (l.map ev) (l.map e) := by
 induction l with
 | nil => simp [RV]
 | cons a as ih => exact zr.2 ⟨_, _, rfl, r a, ih⟩
theorem run_sub64 (x y b : Nat) (hb : b ≤ 1) (w : World) :
  (sub64Entry #[.int .u64 x, .int .u64 y, .int .u64 b]).run P w =
   .ok (.tuple #[.int .u64 (((x + 18446744073709551616 - y - b) % 18446744073709551616 : Nat) : Int), .int .u64 ((if x < y + b then 1 else 0 : Nat) : Int)]) w := by
 have : b = 0 ∨ b = 1 := by omega
 rcases this with rfl | rfl <;> rfl
theorem z18s {f : FuncId} {args : List AV} {vs : List Value} (r : RV ρ I w args vs) {p : Bool × AV} (h : aext (G.x f) args = some p) (hp : p.1 = true) :
  ∃ x, (callFunc f vs.toArray).run P w = .ok (.value x) w ∧ rel ρ I w p.2 x := by
 unfold aext at h
 split at h
 ·rename_i x y c hx;simp only [Option.some.injEq] at h;subst h;have he := G.addOk f hx;have hc := zh.1 hp;obtain ⟨_, _, rfl, e1, r1⟩ := zr.1 r;obtain ⟨_, _, rfl, e2, r2⟩ := zr.1 r1;obtain ⟨_, _, rfl, e3, r3⟩ := zr.1 r2;rw [z5k] at r3;rw [zn] at e1 e2 e3;subst r3 e1 e2 e3;refine ⟨.tuple #[.int .u64 (x + y + c).toNat, .int .u64 (zg x y c).toNat], ?_, z49.2 ⟨_, rfl, ?_⟩⟩
  ·show (callFunc f #[_, _, _]).run P w = _;rw [he, run_add64 _ _ _ (by omega) (by omega) (by omega) (by omega)]
   simp only [Result.andThen_ok];have hx := x.toNat_lt;have hy := y.toNat_lt;have e1 : ((x.toNat : Int) + y.toNat + c.toNat) % 18446744073709551616 = ((x + y + c).toNat : Int) := by
    rw [UInt64.toNat_add, UInt64.toNat_add]; omega
   have e2 : ((x.toNat : Int) + y.toNat + c.toNat) / 18446744073709551616 = ((zg x y c).toNat : Int) := by
    rw [zhn]
    split
    ·rw [show (0 : UInt64).toNat = 0 from rfl]; omega
    ·rw [show (1 : UInt64).toNat = 1 from rfl]; omega
   rw [e1, e2]
  ·exact zr.2 ⟨_, _, rfl, zn.2 rfl, zr.2 ⟨_, _, rfl, zn.2 rfl, rfl⟩⟩
 ·rename_i x y c hx;simp only [Option.some.injEq] at h;subst h;have he := G.subOk f hx;have hc := zh.1 hp;obtain ⟨_, _, rfl, e1, r1⟩ := zr.1 r;obtain ⟨_, _, rfl, e2, r2⟩ := zr.1 r1;obtain ⟨_, _, rfl, e3, r3⟩ := zr.1 r2;rw [z5k] at r3;rw [zn] at e1 e2 e3;subst r3 e1 e2 e3;refine ⟨.tuple #[.int .u64 (x - y - c).toNat, .int .u64 (z39 x y c).toNat], ?_, z49.2 ⟨_, rfl, ?_⟩⟩
  ·show (callFunc f #[_, _, _]).run P w = _;rw [he, run_sub64 _ _ _ hc];simp only [Result.andThen_ok];have hx := x.toNat_lt;have hy := y.toNat_lt;have e1 : (x.toNat + 18446744073709551616 - y.toNat - c.toNat) % 18446744073709551616 = (x - y - c).toNat := by
    rw [UInt64.toNat_sub, UInt64.toNat_sub]; omega
   have e2 : (if x.toNat < y.toNat + c.toNat then 1 else 0) = (z39 x y c).toNat := by
    rw [zew]
    split <;> rfl
   rw [e1, e2]
  ·exact zr.2 ⟨_, _, rfl, zn.2 rfl, zr.2 ⟨_, _, rfl, zn.2 rfl, rfl⟩⟩
 ·simp at h
theorem z18b {t : Nat} {ti : TI} (ht : G.ty t = some ti) {x v : AV} {vx : Value} (r : rel ρ I w x vx) (h : alen ti.kind x = some v) {tys : Array TypeId} (hty : tys[0]? = some t) (ty : TypeId) :
  ∃ y, (Builtin.len_ tys ty #[vx]).run P w = .ok y w ∧ rel ρ I w v y := by
 obtain ⟨j, d, h1, h2, h3, _, h5, _⟩ := z1a ht;unfold alen at h
 split at h <;> simp only [Option.some.injEq, reduceCtorEq] at h <;> subst h <;> rename_i hk <;> rw [hk] at h5
 ·obtain rfl := TK.of_slice h5;obtain ⟨a, cap, rfl, _⟩ := z22.1 r;exact ⟨_, by simp [Builtin.len_, hty, run_underlying h2, goInt], zj.2 rfl⟩
 ·obtain rfl := TK.of_slice h5;obtain ⟨_, vs, _, a, cap, rfl, _⟩ := z2h.1 r;exact ⟨_, by simp [Builtin.len_, hty, run_underlying h2, goInt], zj.2 rfl⟩
 ·obtain rfl := TK.of_slice h5;obtain ⟨_, vs, _, _, a, cap, rfl, _⟩ := z1j.1 r;exact ⟨_, by simp [Builtin.len_, hty, run_underlying h2, goInt], zj.2 rfl⟩
 ·obtain rfl := TK.of_slice h5;obtain ⟨_, vs, _, _, a, cap, rfl, _⟩ := z1j.1 (z2r.1 r).1;exact ⟨_, by simp [Builtin.len_, hty, run_underlying h2, goInt], zj.2 rfl⟩
 ·obtain rfl := TK.of_slice h5;rcases z2j.1 r with ⟨b, cap, _, rfl, _⟩ | ⟨rfl, a, rfl⟩
  ·exact ⟨_, by simp [Builtin.len_, hty, run_underlying h2, goInt], zj.2 rfl⟩
  ·exact ⟨_, by simp [Builtin.len_, hty, run_underlying h2, goInt], zj.2 rfl⟩
 ·obtain rfl := TK.of_string h5;obtain rfl := zi.1 r;exact ⟨.int .i64 _, by simp [Builtin.len_, hty, run_underlying h2, goInt]; rfl, by rw [zj]; simp [ByteArray.size]⟩
theorem zlb {mx : Bool} {args : List AV} {vs : List Value} (r : RV ρ I w args vs) {v : AV} (h : zkv mx args = some v) (tys : Array TypeId) (ty : TypeId) :
  ∃ y, (if mx then Builtin.max_ tys ty vs.toArray else Builtin.min_ tys ty vs.toArray).run P w = .ok y w ∧ rel ρ I w v y := by
 unfold zkv at h
 split at h
 ·rename_i x y;simp only [Option.some.injEq] at h;subst h;obtain ⟨_, _, rfl, e1, r1⟩ := zr.1 r;obtain ⟨_, _, rfl, e2, r2⟩ := zr.1 r1;rw [z5k] at r2;rw [zj] at e1 e2;subst r2 e1 e2;cases mx
  ·refine ⟨.int .i64 (min x y), ?_, zj.2 rfl⟩;simp [Builtin.min_, Builtin.min2];omega
  ·refine ⟨.int .i64 (max x y), ?_, zj.2 rfl⟩;simp [Builtin.max_, Builtin.max2];omega
 ·simp at h
theorem z5l {a : AV} {v : Value} (r : rel ρ I w a v) (ha : known a = true) : R ρ I w a v.cells.toList := by
 cases hi : z1w a with
 | true =>
  obtain ⟨cs, rfl, h⟩ := (znu hi).1 r;exact h
 | false =>
  have h := zjq hi r;have hv : v.cells = #[v] := by
   have one : ∀ x : Value, x.oneCell' = true → x.cells = #[x] := fun x hx => by cases x <;> simp_all [Value.oneCell', Value.cells]
   cases a <;> simp only [z1w, reduceCtorEq] at hi
   case any => simp [known] at ha
   case raw x => rw [zfm] at r; subst r; exact one _ (by simpa [known] using ha)
   case int => rw [zj] at r; subst r; rfl
   case u8 => rw [zu] at r; subst r; rfl
   case u32 => rw [zo] at r; subst r; rfl
   case u64 => rw [zn] at r; subst r; rfl
   case bool => rw [zl] at r; subst r; rfl
   case str => rw [zi] at r; subst r; rfl
   case ptr => obtain ⟨b, _, rfl⟩ := z4a.1 r; rfl
   case pix => obtain ⟨b, _, _, rfl⟩ := zg6.1 r; rfl
   case sl => rcases z2j.1 r with ⟨b, cap, _, rfl, _⟩ | ⟨_, a, rfl⟩ <;> rfl
   case vec8 => obtain ⟨a, cap, rfl, _⟩ := z22.1 r; rfl
   case vec => obtain ⟨_, vs, _, a, cap, rfl, _⟩ := z2h.1 r; rfl
   case vecr => obtain ⟨_, vs, _, _, a, cap, rfl, _⟩ := z1j.1 r; rfl
   case slv => obtain ⟨_, vs, _, _, a, cap, rfl, _⟩ := z1j.1 (z2r.1 r).1; rfl
   case vp => obtain ⟨vs, _, b, off, rfl, _⟩ := z6i.1 r; rfl
   case vpx => obtain ⟨_, vs, _, b, off, rfl, _⟩ := zfb.1 r; rfl
   case fn => obtain ⟨x, y, rfl, _⟩ := zg9.1 r; rfl
   case tup => obtain ⟨cs, rfl, _⟩ := z49.1 r; rfl
  rw [hv]; exact h
mutual
theorem zce : ∀ (a : AV) (ys : List Value), R ρ I w a ys → zbq a = true → ∀ v ∈ ys, v.oneCell' = true
 | .agg l, ys, h, ha => z47 l ys h (by simpa [zbq] using ha)
 | .b8 _ l, _, ⟨h, _⟩, _ => by subst h; intro v hv; simp [v8] at hv; obtain ⟨x, _, rfl⟩ := hv; rfl
 | .w32 _ l, _, ⟨h, _⟩, _ => by subst h; intro v hv; simp [v32] at hv; obtain ⟨x, _, rfl⟩ := hv; rfl
 | .w64 _ l, _, ⟨h, _⟩, _ => by subst h; intro v hv; simp [v64] at hv; obtain ⟨x, _, rfl⟩ := hv; rfl
 | .n64 _ l, _, ⟨h, _⟩, _ => by subst h; intro v hv; simp [zae] at hv; obtain ⟨x, _, rfl⟩ := hv; rfl
 | .raw x, _, h, ha => by cases h; simpa [zbq] using ha
 | .int _ _, _, h, _ | .u8 _, _, h, _ | .u32 _, _, h, _ | .u64 _, _, h, _ | .bool _, _, h, _ | .str _, _, h, _ => by cases h; intro v hv; simp at hv; subst hv; rfl
 | .ptr _ _, _, ⟨v, h, b, _, h2⟩, _ => by subst h h2; intro v hv; simp at hv; subst hv; rfl
 | .pix _ _ _ _, _, ⟨v, h, b, _, _, h2⟩, _ => by subst h h2; intro v hv; simp at hv; subst hv; rfl
 | .sl _ _ _ _, _, ⟨v, h, h1⟩, _ => by
  subst h; intro v hv; simp at hv; subst hv
  rcases h1 with ⟨b, cap, _, rfl, _⟩ | ⟨_, a, rfl⟩ <;> rfl
 | .vec8 _ _, _, ⟨v, h, a, cap, h1, _⟩, _ => by subst h h1; intro v hv; simp at hv; subst hv; rfl
 | .vec _ _ _, _, ⟨v, h, _, vs, _, a, cap, h1, _⟩, _ => by subst h h1; intro v hv; simp at hv; subst hv; rfl
 | .vecr _ _ _ _, _, ⟨v, h, _, vs, _, _, a, cap, h1, _⟩, _ => by subst h h1; intro v hv; simp at hv; subst hv; rfl
 | .slv _ _ _ _, _, ⟨v, h, _, ⟨vs, _, _, a, cap, h1, _⟩, _⟩, _ => by subst h h1; intro v hv; simp at hv; subst hv; rfl
 | .vp _ _, _, ⟨v, h, vs, _, b, off, h1, _⟩, _ => by subst h h1; intro v hv; simp at hv; subst hv; rfl
 | .vpx _ _ _ _, _, ⟨v, h, _, vs, _, b, off, h1, _⟩, _ => by subst h h1; intro v hv; simp at hv; subst hv; rfl
 | .fn _ _ _, _, ⟨v, h, x, y, h1, _⟩, _ => by subst h h1; intro v hv; simp at hv; subst hv; rfl
 | .any, _, _, ha | .tup _, _, _, ha => by simp [zbq] at ha
theorem z47 : ∀ (l : List AV) (ys : List Value), RL ρ I w l ys → z7e l = true → ∀ v ∈ ys, v.oneCell' = true
 | [], _, h, _ => by cases h; intro v hv; simp at hv
 | a :: as, _, ⟨ys, zs, h0, h1, h2⟩, ha => by
  subst h0;simp only [z7e, Bool.and_eq_true] at ha;intro v hv;rcases List.mem_append.1 hv with hv | hv
  ·exact zce a ys h1 ha.1 v hv
  ·exact z47 as zs h2 ha.2 v hv
end
end
section
variable {P : Program} {G : Env P} {g : Nat → Option (List AV)} {ρ : Rho} {I : Imm} {H : Heap} {w : World}
def z1e (ρ : Rho) (n : Nat) (x : Option Nat) : Rho := fun id => if id = n then some x else ρ id
theorem getElem?_snoc {α : Type} {l : List α} {e x : α} {i : Nat} (h : (l ++ [e])[i]? = some x) : (i < l.length ∧ l[i]? = some x) ∨ (i = l.length ∧ x = e) := by
 rcases Nat.lt_or_ge i l.length with hi | hi
 ·left; rw [List.getElem?_append_left hi] at h; exact ⟨hi, h⟩
 ·right
  rw [List.getElem?_append_right hi] at h;have : i - l.length = 0 := by
   have := (List.getElem?_eq_some_iff.1 h).1;simpa using this
  rw [this] at h;simp at h;exact ⟨by omega, h.symm⟩
theorem alloc_old (w : World) (o : Obj) {i : Nat} (h : i < w.heap.size) : (w.alloc o).heap[i]? = w.heap[i]? := by
 show (w.heap.push o)[i]? = _;rw [Array.getElem?_push, if_neg (by omega)]
theorem z69 (w : World) (o : Obj) : (w.alloc o).heap[w.heap.size]? = some o := by
 show (w.heap.push o)[w.heap.size]? = _;simp
theorem z92 {ρ : Rho} {n id : Nat} {x : Option Nat} {y : Option Nat} (hn : ρ n = none) (h : ρ id = some y) : z1e ρ n x id = some y := by
 simp only [z1e]
 split
 ·rename_i e; subst e; rw [hn] at h; simp at h
 ·exact h
theorem zn5 (c : Conc g ρ I H w) : ρ H.length = none := Classical.byContradiction fun h => Nat.lt_irrefl _ (c.dom _ h)
theorem zqu (c : Conc g ρ I H w) (e : Ent) (x : Option Nat) {w' : World} (hx : ∀ b, x = some b → w.heap.size ≤ b) (hsz : w.heap.size ≤ w'.heap.size) (hold : ∀ b, b < w.heap.size → w'.heap[b]? = w.heap[b]?)
  (hos : w'.os = w.os) (htape : w'.tape = w.tape) (hout : w'.output = w.output) :
  Good ρ I H w (z1e ρ H.length x) I (H ++ [e]) w' where
 ext := fun id y h => z92 (zn5 c) h
 kp := fun id y h ⟨e', h1, h2⟩ => by
  rcases getElem?_snoc h1 with ⟨_, g2⟩ | ⟨g1, _⟩
  ·exact ⟨e', g2, h2⟩
  ·have := c.dom id (by rw [h]; simp); omega
 len := by simp
 imm := fun _ _ h => h
 imm' := fun _ _ _ h => .inl h
 os := hos
 tape := htape
 out := hout
 size := hsz
 cell := fun b off h _ => by simp only [World.cell?, hold b h]
 block := fun b h _ => hold b h
 bs := fun b h => by unfold bsz; rw [hold b h]
 wrt := fun b off h ⟨id, e', h1, h2, h3, h4⟩ => by
  rcases getElem?_snoc h1 with ⟨g1, g2⟩ | ⟨g1, g2⟩
  ·simp only [z1e, Nat.ne_of_lt g1, if_false] at h3;exact ⟨id, e', g2, h2, h3, h4⟩
  ·subst g1;simp only [z1e, if_true, Option.some.injEq] at h3;have := hx b h3;omega
 own := fun b h ⟨id, e', h1, h2, h3⟩ => by
  rcases getElem?_snoc h1 with ⟨g1, g2⟩ | ⟨g1, g2⟩
  ·simp only [z1e, Nat.ne_of_lt g1, if_false] at h3;exact ⟨id, e', g2, h2, h3⟩
  ·subst g1;simp only [z1e, if_true, Option.some.injEq] at h3;have := hx b h3;omega
theorem z13n (c : Conc g ρ I H w) (e : Ent) (x : Option Nat) {w' : World} (hx : ∀ b, x = some b → w.heap.size ≤ b ∧ b < w'.heap.size) (hsz : w.heap.size ≤ w'.heap.size) (hold : ∀ b, b < w.heap.size → w'.heap[b]? = w.heap[b]?)
  (hl : e.live = true)
  (h1 : ∀ cs f, e = .blk cs f → ∃ b el fr us, x = some b ∧ w'.heap[b]? = some (.cells (List.toArray us) el fr) ∧ RL ρ I w cs us ∧ clear fr us.length)
  (h2 : e.grows = true → e.even ∧ ((x = none ∧ szL e.cells = 0) ∨ ∃ b el fr cs rest, x = some b ∧ w'.heap[b]? = some (.cells (List.toArray (cs ++ rest)) el fr) ∧ RL ρ I w e.cells cs ∧ clear fr (cs ++ rest).length))
  (hos : w'.os = w.os) (htape : w'.tape = w.tape) (hout : w'.output = w.output) :
  Conc g (z1e ρ H.length x) I (H ++ [e]) w' ∧ Mono ρ I w (z1e ρ H.length x) I w' := by
 have hn := zn5 c;have gd := zqu c e x (fun b h => (hx b h).1) hsz hold hos htape hout
 have m := c.mono gd (fun id y h => z92 hn h)
 refine ⟨⟨?_, ?_, ?_, ?_, ?_, ?_, ?_, ?_⟩, m⟩
 ·intro id h;simp only [z1e] at h
  split at h
  ·rename_i h'; subst h'; simp
  ·have := c.dom id h; simp; omega
 ·intro id h;rcases getElem?_snoc h with ⟨g1, g2⟩ | ⟨g1, g2⟩
  ·simp only [z1e, Nat.ne_of_lt g1, if_false]; exact c.res id g2
  ·rw [← g2] at hl; simp [Ent.live] at hl
 ·intro id b hb;simp only [z1e] at hb
  split at hb
  ·simp at hb; exact (hx b hb).2
  ·have := c.blt id b hb; omega
 ·intro i j b e1 e2 hi h1 hj h2 hbi hbj;rcases getElem?_snoc hi with ⟨g1, g2⟩ | ⟨g1, g2⟩ <;> rcases getElem?_snoc hj with ⟨k1, k2⟩ | ⟨k1, k2⟩
  ·simp only [z1e, Nat.ne_of_lt g1, Nat.ne_of_lt k1, if_false] at hbi hbj;exact c.inj i j b e1 e2 g2 h1 k2 h2 hbi hbj
  ·subst k1;simp only [z1e, Nat.ne_of_lt g1, if_false] at hbi;simp only [z1e, if_true, Option.some.injEq] at hbj;have := c.blt i b hbi; have := hx b hbj; omega
  ·subst g1;simp only [z1e, Nat.ne_of_lt k1, if_false] at hbj;simp only [z1e, if_true, Option.some.injEq] at hbi;have := c.blt j b hbj; have := hx b hbi; omega
  ·omega
 ·intro id cs f h;rcases getElem?_snoc h with ⟨g1, g2⟩ | ⟨g1, g2⟩
  ·obtain ⟨b, el', fr, us, k1, k2, k3, k4⟩ := c.blk id cs f g2;have hlt := c.blt id b k1;exact ⟨b, el', fr, us, by simpa [z1e, Nat.ne_of_lt g1] using k1, by rw [hold b hlt]; exact k2, z15 m _ _ k3, k4⟩
  ·subst g1;obtain ⟨b, el, fr, us, k1, k2, k3, k4⟩ := h1 cs f g2.symm;exact ⟨b, el, fr, us, by simp [z1e, k1], k2, z15 m _ _ k3, k4⟩
 ·intro id e' h hg;rcases getElem?_snoc h with ⟨g1, g2⟩ | ⟨g1, g2⟩
  ·obtain ⟨k0, ⟨k1, k2⟩ | ⟨b, el', fr, us, rest, k1, k2, k3, k4⟩⟩ := c.grow id e' g2 hg
   ·exact ⟨k0, .inl ⟨by simpa [z1e, Nat.ne_of_lt g1] using k1, k2⟩⟩
   ·have hlt := c.blt id b k1;exact ⟨k0, .inr ⟨b, el', fr, us, rest, by simpa [z1e, Nat.ne_of_lt g1] using k1, by rw [hold b hlt]; exact k2, z15 m _ _ k3, k4⟩⟩
  ·subst g1 g2;obtain ⟨k0, ⟨k1, k2⟩ | ⟨b, el', fr, us, rest, k1, k2, k3, k4⟩⟩ := h2 hg
   ·exact ⟨k0, .inl ⟨by simp [z1e, k1], k2⟩⟩
   ·exact ⟨k0, .inr ⟨b, el', fr, us, rest, by simp [z1e, k1], k2, z15 m _ _ k3, k4⟩⟩
 ·intro b o hb;obtain ⟨h1, h2⟩ := c.imm b o hb;exact ⟨by omega, fun h => h2 (gd.wrt b o h1 h)⟩
 ·intro gl cs h;obtain ⟨us, h1, h2⟩ := c.glob gl cs h;exact ⟨us, z4q m h1, h2.mono m.imm⟩
def z3l (w : World) (b : Nat) (o : Obj) : World := { w with heap := w.heap.setIfInBounds b o }
theorem z3y {b : Nat} {o : Obj} (h : b < w.heap.size) (i : Nat) : (z3l w b o).heap[i]? = if i = b then some o else w.heap[i]? := by
 simp only [z3l, Array.getElem?_setIfInBounds]
 by_cases e : b = i
 ·subst e; simp [h]
 ·rw [if_neg e, if_neg (Ne.symm e)]
theorem z17 {id : Nat} {e' : Ent} {i : Nat} {e1 : Ent} (h : (H.set id e')[i]? = some e1) : (i = id ∧ e1 = e') ∨ (i ≠ id ∧ H[i]? = some e1) := by
 rw [List.getElem?_set] at h
 by_cases hi : id = i
 ·subst hi;simp only [if_true] at h
  split at h
  ·simp only [Option.some.injEq] at h;exact .inl ⟨rfl, h.symm⟩
  ·simp at h
 ·rw [if_neg hi] at h;exact .inr ⟨fun h' => hi h'.symm, h⟩
theorem z6e {id b : Nat} {el : TypeId} {fr : Nat × Nat} {all all' : List Value} {e e' : Ent} (hid : H[id]? = some e) (hl : e.live = true)
  (hb : ρ id = some (some b)) (hw : w.heap[b]? = some (.cells all.toArray el fr)) (hlen : all'.length = all.length) (hfz : ∀ o, z43 e.frz o → all'[o]? = all[o]?)
  (he : e'.frz = e.frz) (hg : e'.grows = true → e.grows = true) : Good ρ I H w ρ I (H.set id e') (z3l w b (.cells all'.toArray el fr)) := by
 have hlt : b < w.heap.size := (Array.getElem?_eq_some_iff.1 hw).1;have hcell : ∀ b' o, ¬ Mut ρ H b' o → (z3l w b (.cells all'.toArray el fr)).cell? ⟨b', o, none⟩ = w.cell? ⟨b', o, none⟩ := by
  intro b' o hm
  by_cases hbb : b' = b
  ·subst hbb;have hin : z43 e.frz o := by
    refine Classical.byContradiction fun hn => hm ⟨id, e, hid, hl, hb, hn⟩
   rw [cell_of_heap hw, cell_of_heap (cs := all') (el := el) (fr := fr) (by rw [z3y hlt]; simp)]
   exact hfz o hin
  ·simp only [World.cell?];rw [z3y hlt, if_neg hbb]
 refine ⟨fun _ _ h => h, ?_, by simp, fun _ _ h => h, fun _ _ _ h => .inl h, rfl, rfl, rfl, by simp [z3l], fun b' o _ hm => hcell b' o hm, ?_, ?_, ?_, ?_⟩
 ·intro i x _ ⟨e1, h1, h2⟩;rcases z17 h1 with ⟨rfl, rfl⟩ | ⟨_, h⟩
  ·exact ⟨e, hid, hg h2⟩
  ·exact ⟨e1, h, h2⟩
 ·intro b' _ hm;rw [z3y hlt]
  split
  ·rename_i hbb;subst hbb;have : all' = all := by
    apply List.ext_getElem?;intro o;exact hfz o (Classical.byContradiction fun hn => hm o ⟨id, e, hid, hl, hb, hn⟩)
   rw [this, hw]
  ·rfl
 ·intro b' _;unfold bsz;rw [z3y hlt]
  by_cases hbb : b' = b
  ·subst hbb; rw [if_pos rfl, hw]; simp [hlen]
  ·rw [if_neg hbb]
 ·intro b' o _ ⟨i, e1, h1, h2, h3, h4⟩;rcases z17 h1 with ⟨rfl, rfl⟩ | ⟨_, h⟩
  ·exact ⟨i, e, hid, hl, h3, by rw [← he]; exact h4⟩
  ·exact ⟨i, e1, h, h2, h3, h4⟩
 ·intro b' _ ⟨i, e1, h1, h2, h3⟩;rcases z17 h1 with ⟨rfl, rfl⟩ | ⟨_, h⟩
  ·exact ⟨i, e, hid, hl, h3⟩
  ·exact ⟨i, e1, h, h2, h3⟩
theorem z7w (c : Conc g ρ I H w) {id b : Nat} {el : TypeId} {fr : Nat × Nat} {all all' : List Value} {e e' : Ent} (hid : H[id]? = some e) (hl : e.live = true)
  (hb : ρ id = some (some b)) (hw : w.heap[b]? = some (.cells all.toArray el fr)) (hlen : all'.length = all.length) (hfz : ∀ o, z43 e.frz o → all'[o]? = all[o]?)
  (he : e'.frz = e.frz) (hg : e'.grows = true → e.grows = true) (hl' : e'.live = true) (hcl : clear fr all.length)
  (h1 : ∀ cs f, e' = .blk cs f → RL ρ I w cs all') (h2 : e'.grows = true → e'.even ∧ ∃ us rest, all' = us ++ rest ∧ RL ρ I w e'.cells us) :
  Conc g ρ I (H.set id e') (z3l w b (.cells all'.toArray el fr)) ∧ Mono ρ I w ρ I (z3l w b (.cells all'.toArray el fr)) := by
 have gd := z6e (I := I) hid hl hb hw hlen hfz he hg;have m := c.mono gd (fun _ _ h => h)
 have hlt : b < w.heap.size := (Array.getElem?_eq_some_iff.1 hw).1;have live : ∀ (k : Nat) (e3 : Ent), (H.set id e')[k]? = some e3 → e3.live = true → ∃ e4 : Ent, H[k]? = some e4 ∧ e4.live = true := by
  intro k e3 hk l3;rcases z17 hk with ⟨rfl, rfl⟩ | ⟨_, h⟩
  ·exact ⟨e, hid, hl⟩
  ·exact ⟨e3, h, l3⟩
 refine ⟨⟨fun i h => by simpa using c.dom i h, fun i h => by
  rcases z17 h with ⟨_, h⟩ | ⟨_, h⟩
  ·rw [← h] at hl'; simp [Ent.live] at hl'
  ·exact c.res i h, fun i x hx => by simpa [z3l] using c.blt i x hx, ?_, ?_, ?_, ?_, ?_⟩, m⟩
 ·intro i j x e1 e2 hi l1 hj l2 r1 r2;obtain ⟨e3, k1, k2⟩ := live i e1 hi l1;obtain ⟨e4, k3, k4⟩ := live j e2 hj l2;exact c.inj i j x e3 e4 k1 k2 k3 k4 r1 r2
 ·intro i cs f h;rcases z17 h with ⟨rfl, h'⟩ | ⟨hi, h⟩
  ·exact ⟨b, el, fr, all', hb, by rw [z3y hlt, if_pos rfl], z15 m _ _ (h1 cs f h'.symm), by rw [hlen]; exact hcl⟩
  ·obtain ⟨b1, el1, fr1, us, k1, k2, k3, k4⟩ := c.blk i cs f h;have hne : b1 ≠ b := fun hbb => hi (c.inj i id b _ e h rfl hid hl (hbb ▸ k1) hb)
   exact ⟨b1, el1, fr1, us, k1, by rw [z3y hlt, if_neg hne]; exact k2, z15 m _ _ k3, k4⟩
 ·intro i e1 h hg1;rcases z17 h with ⟨rfl, rfl⟩ | ⟨hi, h⟩
  ·obtain ⟨k0, us, rest, rfl, hr⟩ := h2 hg1;exact ⟨k0, .inr ⟨b, el, fr, us, rest, hb, by rw [z3y hlt, if_pos rfl], z15 m _ _ hr, by rw [hlen]; exact hcl⟩⟩
  ·obtain ⟨k0, ⟨k1, k2⟩ | ⟨b1, el1, fr1, us, rest, k1, k2, k3, k4⟩⟩ := c.grow i e1 h hg1
   ·exact ⟨k0, .inl ⟨k1, k2⟩⟩
   ·have hlv : e1.live = true := by cases e1 <;> simp [Ent.grows] at hg1 <;> rfl
    have hne : b1 ≠ b := fun hbb => hi (c.inj i id b _ e h hlv hid hl (hbb ▸ k1) hb)
    exact ⟨k0, .inr ⟨b1, el1, fr1, us, rest, k1, by rw [z3y hlt, if_neg hne]; exact k2, z15 m _ _ k3, k4⟩⟩
 ·intro x o hx;obtain ⟨k1, k2⟩ := c.imm x o hx;exact ⟨by simpa [z3l] using k1, fun h => k2 (gd.wrt x o k1 h)⟩
 ·intro gl cs h;obtain ⟨us, k1, k2⟩ := c.glob gl cs h;exact ⟨us, z4q m k1, k2.mono m.imm⟩
theorem zum (c : List Value) (off : Nat) : z18 c off [] = c := by simp [z18]
theorem zhv (c : List Value) (off : Nat) (v : Value) (l : List Value) (h : off + (l.length + 1) ≤ c.length) : z18 c off (v :: l) = z18 (c.set off v) (off + 1) l := by
 simp only [z18, List.length_cons];rw [List.take_set, List.drop_set, if_pos (by omega)]
 have h1 : off < c.length := by omega
 rw [List.take_succ_eq_append_getElem h1, List.set_append_right _ _ (by simp; omega)]
 simp [List.length_take, Nat.min_eq_left (Nat.le_of_lt h1)];rw [show off + 1 + l.length = off + (l.length + 1) by omega]
theorem zw5 {b off : Nat} {el : TypeId} {fr : Nat × Nat} {all : List Value} (hw : w.heap[b]? = some (.cells all.toArray el fr)) (v : Value) :
  w.setCell ⟨b, off, none⟩ v = z3l w b (.cells (all.set off v).toArray el fr) := by
 have hlt : b < w.heap.size := (Array.getElem?_eq_some_iff.1 hw).1;have hv : w.heap[b] = .cells all.toArray el fr := (Array.getElem?_eq_some_iff.1 hw).2;simp only [World.setCell, z3l, World.mk.injEq, and_true];apply Array.ext_getElem?;intro i;rw [Array.getElem?_modify, Array.getElem?_setIfInBounds]
 by_cases e : b = i
 ·subst e;simp [hlt, hv]
 ·simp [e]
theorem z6k {b : Nat} {el : TypeId} {fr : Nat × Nat} : ∀ (vs : List Value) (off : Nat) (all : List Value) (w : World), w.heap[b]? = some (.cells all.toArray el fr) → off + vs.length ≤ all.length →
  w.setCells b off vs = z3l w b (.cells (z18 all off vs).toArray el fr)
 | [], off, all, w, hw, h => by
  simp only [World.setCells, zum];have hlt : b < w.heap.size := (Array.getElem?_eq_some_iff.1 hw).1;have hv : w.heap[b] = .cells all.toArray el fr := (Array.getElem?_eq_some_iff.1 hw).2;cases w;simp only [z3l, World.mk.injEq, and_true];apply Array.ext_getElem?;intro i;rw [Array.getElem?_setIfInBounds]
  by_cases e : b = i
  ·subst e; simp_all
  ·simp [e]
 | v :: vs, off, all, w, hw, h => by
  simp only [List.length_cons] at h;have hlt : b < w.heap.size := (Array.getElem?_eq_some_iff.1 hw).1;rw [World.setCells, zw5 hw, z6k vs (off + 1) (all.set off v) _ (by rw [z3y hlt, if_pos rfl]) (by simp; omega), zhv _ _ _ _ (by omega)]
  simp [z3l]
theorem zdx {c l : List Value} {off o : Nat} (h : off + l.length ≤ c.length) (ho : o < off ∨ off + l.length ≤ o) : (z18 c off l)[o]? = c[o]? := by
 simp only [z18];rcases ho with ho | ho
 ·rw [List.getElem?_append_left (by simp; omega), List.getElem?_take, if_pos ho]
 ·rw [List.getElem?_append_right (by simp; omega), List.getElem?_append_right (by simp; omega), List.getElem?_drop]
  congr 1
  simp;omega
theorem zup {t : Nat} {ti : TI} (ht : G.ty t = some ti) {b off : Nat} {v : Value} (hsz : v.cells.size = ti.size) (h1 : ∀ x ∈ v.cells.toList, x.oneCell' = true)
  {el : TypeId} {fr : Nat × Nat} {all : List Value} (hw : w.heap[b]? = some (.cells all.toArray el fr)) (hle : off + ti.size ≤ all.length) (hcl : clear fr all.length) :
  (storeVar t ⟨b, off, none⟩ v).run P w = .ok () (z3l w b (.cells (z18 all off v.cells.toList).toArray el fr)) := by
 obtain ⟨j, d, g1, g2, g3, _, _⟩ := z1a ht;have hlen : v.cells.toList.length = ti.size := by simpa using hsz
 have := run_storeCells_cells (P := P) b off v.cells.toList 0 w
  (fun i hi => by rw [cell_of_heap hw, List.getElem?_eq_getElem (by omega)]; rfl)
  (fun i hi => by
   simp only [World.frozen?, hw, Nat.add_zero];have := hcl.2 (off + i) (by omega)
   simp only [Bool.and_eq_false_iff, decide_eq_false_iff_not];omega)
  h1
 simp only [Nat.add_zero] at this;rw [z6k _ _ _ _ hw (by omega)] at this
 simp [storeVar, run_sizeOf g1, hsz, g3, this]
def z2x (f : List (Nat × Nat)) (off n : Nat) : Bool := f.all fun r => leB (off + n) r.1 || leB r.2 off
theorem zev {f : List (Nat × Nat)} {off n : Nat} (h : z2x f off n = true) : ∀ r ∈ f, off + n ≤ r.1 ∨ r.2 ≤ off := by
 intro r hr;have := List.all_eq_true.1 h r hr;simpa [zh] using this
theorem zoh : ∀ {c : List AV} {vs : List Value} {off n : Nat} {i : Int} {v : AV} {x : Value} {c' : List AV}, RL ρ I w c vs → (0 ≤ i ∧ i < n) → off + n ≤ szL c → szA v = 1 → z1w v = false → rel ρ I w v x → setX c off n i v = some c' →
  RL ρ I w c' (vs.set (off + i.toNat) x) ∧ szL c' = szL c
 | [], vs, off, n, i, v, x, c', h, hi, hle, hs, ha, hx, hc => by simp [szL] at hle; omega
 | a :: as, vs, off, n, i, v, x, c', ⟨ys, zs, h0, h1, h2⟩, hi, hle, hs, ha, hx, hc => by
  subst h0;have hl := z3o a ys h1;have hl2 := z3g as zs h2;simp only [szL] at hle;unfold setX at hc;cases hq : leB (szA a) off with
  | true =>
   have hq' := zh.1 hq;rw [hq] at hc;simp only [cond_true] at hc
   split at hc
   ·rename_i l hl';simp only [Option.some.injEq] at hc;subst hc;obtain ⟨k1, k2⟩ := zoh h2 hi (by omega) hs ha hx hl'
    refine ⟨?_, by simp only [szL, k2]⟩
    rw [List.set_append_right _ _ (by omega), show off + i.toNat - ys.length = off - szA a + i.toNat by omega]
    exact z12.2 ⟨ys, _, rfl, h1, k1⟩
   ·simp at hc
  | false =>
   rw [hq] at hc;simp only [cond_false] at hc;cases ho : off == 0
   ·rw [ho] at hc;simp only [cond_false, Option.some.injEq] at hc;subst hc;have hR := zjq ha hx;have hcells : RL ρ I w (a :: as) (ys ++ zs) := z12.2 ⟨ys, zs, rfl, h1, h2⟩;have := zd9 (a :: as) (ys ++ zs) (off + i.toNat) v [x] hcells hR (by simp only [szL]; omega) (by omega)
    rw [z6p _ (by simp; omega)] at this
    refine ⟨this, ?_⟩;have e1 := z3g _ _ this;have e2 := z3g _ _ hcells;simp only [List.length_set] at e1;omega
   rw [ho] at hc;simp only [cond_true] at hc;obtain rfl : off = 0 := by simpa using ho
   split at hc
   ·cases hn : leB n _ <;> rw [hn] at hc <;> simp only [cond_true, cond_false, reduceCtorEq, Option.some.injEq] at hc
    subst hc;have hn' := zh.1 hn;obtain ⟨rfl, h3⟩ := h1;rw [zu] at hx;subst hx;refine ⟨?_, rfl⟩;rw [List.set_append_left _ _ (by rw [z1k]; omega), Nat.zero_add, zwk]
    exact z12.2 ⟨_, zs, rfl, ⟨rfl, by simpa using h3⟩, h2⟩
   ·cases hn : leB n _ <;> rw [hn] at hc <;> simp only [cond_true, cond_false, reduceCtorEq, Option.some.injEq] at hc
    subst hc;have hn' := zh.1 hn;obtain ⟨rfl, h3⟩ := h1;rw [zo] at hx;subst hx;refine ⟨?_, rfl⟩;rw [List.set_append_left _ _ (by rw [zbx]; omega), Nat.zero_add, zpp]
    exact z12.2 ⟨_, zs, rfl, ⟨rfl, by simpa using h3⟩, h2⟩
   ·cases hn : leB n _ <;> rw [hn] at hc <;> simp only [cond_true, cond_false, reduceCtorEq, Option.some.injEq] at hc
    subst hc;have hn' := zh.1 hn;obtain ⟨rfl, h3⟩ := h1;rw [zn] at hx;subst hx;refine ⟨?_, rfl⟩;rw [List.set_append_left _ _ (by rw [zca]; omega), Nat.zero_add, zpj]
    exact z12.2 ⟨_, zs, rfl, ⟨rfl, by simpa using h3⟩, h2⟩
   ·simp only [Option.some.injEq] at hc;subst hc;have hR := zjq ha hx;have hcells : RL ρ I w (a :: as) (ys ++ zs) := z12.2 ⟨ys, zs, rfl, h1, h2⟩;have := zd9 (a :: as) (ys ++ zs) i.toNat v [x] hcells hR (by simp only [szL]; omega) (by omega)
    rw [z6p _ (by simp; omega)] at this
    rw [Nat.zero_add];refine ⟨this, ?_⟩;have e1 := z3g _ _ this;have e2 := z3g _ _ hcells;simp only [List.length_set] at e1;omega
theorem zxs {c : List AV} {vs : List Value} {off n : Nat} {i : Int} {v : AV} {x : Value} {c' : List AV} (h : RL ρ I w c vs) (hi : 0 ≤ i ∧ i < n) (hle : off + n ≤ szL c) (hs : szA v = 1) (ha : z1w v = false) (hx : rel ρ I w v x) (hc : z12g c off n i v = some c') :
  RL ρ I w c' (vs.set (off + i.toNat) x) ∧ szL c' = szL c := by
 unfold z12g at hc
 split at hc
 ·simp only [Option.some.injEq] at hc;subst hc;obtain ⟨ys, zs, rfl, ⟨rfl, h1⟩, h2⟩ := z12.1 h;cases h2;rw [zu] at hx;subst hx;rw [List.append_nil, zbb, zwk];exact ⟨z12.2 ⟨_, [], by simp, ⟨rfl, by simpa using h1⟩, rfl⟩, rfl⟩
 ·simp only [Option.some.injEq] at hc;subst hc;obtain ⟨ys, zs, rfl, ⟨rfl, h1⟩, h2⟩ := z12.1 h;cases h2;rw [zo] at hx;subst hx;rw [List.append_nil, zbb, zpp];exact ⟨z12.2 ⟨_, [], by simp, ⟨rfl, by simpa using h1⟩, rfl⟩, rfl⟩
 ·simp only [Option.some.injEq] at hc;subst hc;obtain ⟨ys, zs, rfl, ⟨rfl, h1⟩, h2⟩ := z12.1 h;cases h2;rw [zn] at hx;subst hx;rw [List.append_nil, zbb, zpj];exact ⟨z12.2 ⟨_, [], by simp, ⟨rfl, by simpa using h1⟩, rfl⟩, rfl⟩
 ·exact zoh h hi hle hs ha hx hc
end
noncomputable section
def ofInt (k : IntKind) (n : Int) : AV :=
 match k with
 | .u8 => bif inB n 256 then .u8 (UInt8.ofNat n.toNat) else .int k n
 | .u32 => bif inB n 4294967296 then .u32 (UInt32.ofNat n.toNat) else .int k n
 | .u64 => bif inB n 18446744073709551616 then .u64 (UInt64.ofNat n.toNat) else .int k n
 | _ => .int k n
def z86 : Value → AV
 | .int k n => ofInt k n
 | .bool b => .bool b
 | .string s => .str s.data.toList
 | .slice none 0 0 => .vec8 true []
 | v => .raw v
theorem z13f {ρ : Rho} {I : Imm} {w : World} (k : IntKind) (n : Int) : rel ρ I w (ofInt k n) (.int k n) := by
 cases k <;> simp only [ofInt] <;> try exact zj.2 rfl
 case u8 =>
  cases h : inB n 256
  ·exact zj.2 rfl
  ·have := z32.1 h;rw [cond_true, zu]; simp only [Value.int.injEq, true_and, UInt8.toNat_ofNat']; omega
 case u32 =>
  cases h : inB n 4294967296
  ·exact zj.2 rfl
  ·have := z32.1 h;rw [cond_true, zo]; simp only [Value.int.injEq, true_and, UInt32.toNat_ofNat']; omega
 case u64 =>
  cases h : inB n 18446744073709551616
  ·exact zj.2 rfl
  ·have := z32.1 h;rw [cond_true, zn]; simp only [Value.int.injEq, true_and, UInt64.toNat_ofNat']; omega
theorem z1a0 {ρ : Rho} {I : Imm} {w : World} {f : Bool} : rel ρ I w (.vec8 f []) (.slice none 0 0) :=
 z22.2 ⟨none, 0, rfl, Nat.le_refl _, fun _ => rfl, .inl rfl⟩
theorem zr4 {ρ : Rho} {I : Imm} {w : World} (v : Value) : rel ρ I w (z86 v) v := by
 unfold z86
 split
 ·exact z13f _ _
 ·exact zl.2 rfl
 ·rw [zi]
 ·exact z1a0
 ·exact zfm.2 rfl
section
variable {P : Program} (G : Env P)
def zi5 (t : List AV) : Nat → AV := @List.rec AV (fun _ => Nat → AV) (fun _ => .any) (fun a _ ih n => @Nat.rec (fun _ => AV) a (fun m _ => ih m) n) t
theorem z5z : ∀ (t : List AV) (n : Nat), zi5 t n = t.getD n .any
 | [], _ => rfl
 | _ :: _, 0 => rfl
 | _ :: as, n + 1 => z5z as n
def oget (t : List (Option TI)) : Nat → Option TI := @List.rec (Option TI) (fun _ => Nat → Option TI) (fun _ => none) (fun a _ ih n => @Nat.rec (fun _ => Option TI) a (fun m _ => ih m) n) t
theorem zzd : ∀ (t : List (Option TI)) (n : Nat), oget t n = (t[n]?).join
 | [], _ => rfl
 | _ :: _, 0 => rfl
 | _ :: as, n + 1 => zzd as n
def evA (t : List AV) : Operand → AV
 | .tmp i => zi5 t i
 | .const v => z86 v
 | .global g => match G.g g with
  | some c => .vp c 0
  | none => .raw (.pointer (some ⟨g, 0, none⟩))
 | .func f => .fn (.func f) [] []
def zx {α : Type} (lo hi : Option Int) (l : List α) : List α :=
 match lo, hi with
 | none, none => l
 | none, some h => l.take h.toNat
 | some l0, none => l.drop l0.toNat
 | some l0, some h => (l.take h.toNat).drop l0.toNat
def z1d (lo hi : Option Int) (len : Nat) : Bool :=
 match lo, hi with
 | none, none => true
 | none, some h => nnB h && leB h.toNat len
 | some l, none => nnB l && leB l.toNat len
 | some l, some h => (nnB l && leB l.toNat h.toNat) && (nnB h && leB h.toNat len)
def zam (ev : Operand → AV) : Option Operand → Option (Option Int)
 | none => some none
 | some o => match (ev o).toI with
  | some (_, n) => some (some n)
  | none => none
def loN : Option Int → Nat
 | none => 0
 | some l => l.toNat
def hiN (len : Nat) : Option Int → Nat
 | none => len
 | some h => h.toNat
def zcz (ts td : TI) (H : Heap) (x : AV) : Option (Bool × AV) :=
 match ts.kind, td.kind with
 | .int _, .int k => match cvt k x with
  | some v => some (true, v)
  | none => none
 | .string, .string => match x with
  | .str s => some (true, .str s)
  | _ => none
 | .slice e, .string => match G.ty e with
  | some te => match te.kind with
   | .int .u8 => match z3q H x with
    | some (p, l) => some (p, .str l)
    | none => none
   | _ => none
  | none => none
 | _, _ => none
def z40 (op : Op) (ev : Operand → AV) (H : Heap) : Option (Bool × AV) :=
 match op with
 | .move x => some (true, ev x)
 | .assign x => some (true, ev x)
 | .pick c a b => match ev c with
  | .bool r => some (true, z11s r (ev a) (ev b))
  | _ => none
 | .extract t i => match ev t with
  | .tup l => some (ltB i l.length, l.getD i .any)
  | _ => none
 | .load t a => match G.ty t with
  | some ti => zea ti H (ev a)
  | none => none
 | .fieldAddr s x f => match G.ty s with
  | some ts => match ts.kind with
   | .str fs => match fs[f]? with
    | some (off, ft) => match G.ty ft with
     | some tf => match zpe off (ev x) with
      | some v => some (tf.size != 0, v)
      | none => none
     | none => none
    | none => none
   | _ => none
  | none => none
 | .indexAddr t x i => match (ev i).toI with
  | some (_, n) => match G.ty t with
   | some ti => zgx G ti (ev x) n
   | none => none
  | none => none
 | .index t x i => match (ev i).toI with
  | some (_, n) => match G.ty t with
   | some ti => zwm G ti (ev x) n
   | none => none
  | none => none
 | .field t x f => match G.ty t with
  | some ti => zws G ti (ev x) f
  | none => none
 | .binOp op t x y _ => aBin G op t (ev x) (ev y)
 | .unOp op _ x => match aUn op (ev x) with
  | some v => some (true, v)
  | none => none
 | .convert s d x => match G.ty s with
  | some ts => match G.ty d with
   | some td => zcz G ts td H (ev x)
   | none => none
  | none => none
 | .makeFunc fn first caps => some (true, .fn fn (first.toList.map ev) (caps.toList.map ev))
 | .nilCheck x => match ev x with
  | .ptr id off => some (true, .ptr id off)
  | .vp c i => some (true, .vp c i)
  | .fn (.func f) a b => some (true, .fn (.func f) a b)
  | _ => none
 | .call c => match c.callee with
  | .value fo => match ev fo with
   | .fn (.func f) [] [] => aext (G.x f) (c.args.toList.map ev)
   | _ => none
  | .builtin .len => match c.args.toList.map ev, c.argTypes[0]? with
   | [x], some t => match G.ty t with
    | some ti => match alen ti.kind x with
     | some v => some (true, v)
     | none => none
    | none => none
   | _, _ => none
  | .builtin .min => match zkv false (c.args.toList.map ev) with
   | some v => some (true, v)
   | none => none
  | .builtin .max => match zkv true (c.args.toList.map ev) with
   | some v => some (true, v)
   | none => none
  | _ => none
 | .build t parts => ztd G t (parts.toList.map fun p => (p.1, ev p.2))
 | _ => none
def z6f (op : Op) (ev : Operand → AV) : Option (FuncId × List AV) :=
 match op with
 | .call c => match c.callee with
  | .value fo => match ev fo with
   | .fn (.func f) first caps => some (f, first ++ (c.args.toList.map ev ++ caps))
   | _ => none
  | _ => none
 | _ => none
def zfg : Ent → List AV → Option Ent
 | .blk _ f, c => some (.blk c f)
 | .grow8 l f, c => match c with
  | [.b8 _ l'] => some (.grow8 l' f)
  | _ => none
 | .grow k _ f, c => bif c.all fun a => szA a == k then some (.grow k c f) else none
 | _, _ => none
def zda (op : Op) (ev : Operand → AV) (H : Heap) : Option (Bool × Nat × Ent) :=
 match op with
 | .store t a x => match G.ty t with
  | some ti => match ev a with
   | .ptr id off => match H[id]? with
    | some e => match zfg e (za0 e.cells off (ev x)) with
     | some e' => some ((((known (ev x) && zbq (ev x)) && (szA (ev x) == ti.size && ti.size != 0)) && leB (off + ti.size) (szL e.cells)) && z2x e.frz off ti.size, id, e')
     | none => none
    | none => none
   | .pix id off n i => match H[id]? with
    | some e => match z12g e.cells off n i (ev x) with
     | some c => match zfg e c with
      | some e' => some ((((known (ev x) && zbq (ev x)) && (szA (ev x) == 1 && ti.size == 1)) && (leB (off + n) (szL e.cells) && !z1w (ev x))) && z2x e.frz off n, id, e')
      | none => none
     | none => none
    | none => none
   | _ => none
  | none => none
 | _ => none
def aeff (op : Op) (ev : Operand → AV) (H : Heap) : Option (Bool × AV × Heap × Option Nat) :=
 match op with
 | .alloc t => match G.ty t with
  | some ti => match ti.zero with
   | some z => some (known z, .ptr H.length 0, H ++ [.blk z.cells []], none)
   | none => none
  | none => none
 | .box _ x => some (known (ev x), .ptr H.length 0, H ++ [.blk (ev x).cells []], none)
 | .store t a x => match zda G (.store t a x) ev H with
  | some (c, id, e) => some (c, .tup [], H.set id e, none)
  | none => none
 | _ => none
end
section
variable {P : Program} {G : Env P} {ρ : Rho} {I : Imm} {H : Heap} {w : World}
theorem zfv (c : Conc G.g ρ I H w) {t : List AV} {a : Act} (h : RelT ρ I w t a) (x : Operand) : rel ρ I w (evA G t x) (a.eval x) := by
 cases x with
 | tmp i =>
  have := zch h.tr i;simpa [evA, z5z, Act.eval, Array.getD_eq_getD_getElem?, List.getD_eq_getElem?_getD] using this
 | const v => exact zr4 v
 | global n =>
  simp only [evA, Act.eval];cases hg : G.g n with
  | none => exact zfm.2 rfl
  | some cs =>
   obtain ⟨vs, h1, h2⟩ := c.glob n cs hg;exact z6i.2 ⟨vs, z15 ⟨fun _ _ h => by simp at h, fun _ _ h => ⟨h, rfl⟩, fun _ h => ⟨h, rfl⟩⟩ _ _ h1.1, n, 0, rfl, h2⟩
 | func f => exact zg9.2 ⟨#[], #[], rfl, by simp [RV], by simp [RV]⟩
theorem zu7 {α β : Type} (f : α → β) (xs : Array α) : (xs.toList.map f).toArray = xs.map f := by
 rw [← Array.toList_map, Array.toArray_toList]
theorem zg7 {e : Operand → Value} {o : Oper} {c : Call} {fo : Operand} (hop : o.op = .call c) (hc : c.callee = .value fo) {f : FuncId} {first caps : Array Value} (hf : e fo = .func (.func f) first caps) :
  (execOp e o).run P w = (callFunc f (first ++ c.args.map e ++ caps)).run P w := by
 simp [execOp, hop, resolve, hc, Deferred.ofValue, hf, invoke]
theorem z3r {e : Operand → Value} {o : Oper} {c : Call} {b : Builtin} (hop : o.op = .call c) (hc : c.callee = .builtin b) :
  (execOp e o).run P w = (builtin b c.argTypes o.type (c.args.map fun | .const _ => true | _ => false) (c.args.map e)).run P w := by
 simp [execOp, hop, resolve, hc, invoke];rfl
theorem zj1 {ev : Operand → AV} {e : Operand → Value} (r : ∀ x, rel ρ I w (ev x) (e x)) : ∀ (l : List (Nat × Operand)),
  RV ρ I w (l.map ((fun p : Nat × AV => p.2) ∘ fun p => (p.1, ev p.2))) (l.map ((fun p : Nat × Value => p.2) ∘ fun p => (p.1, e p.2)))
 | [] => by simp [RV]
 | p :: l => by rw [List.map_cons, List.map_cons]; exact zr.2 ⟨_, _, rfl, r p.2, zj1 r l⟩
theorem zky : ∀ (l : List Value) (k off : Nat) (cs : Array Value), off + k + l.length ≤ cs.size →
  ((l.zipIdx k).foldl (fun cs (p : Value × Nat) => cs.setIfInBounds (off + p.2) p.1) cs).toList = z18 cs.toList (off + k) l
 | [], k, off, cs, h => by simp [z18]
 | x :: l, k, off, cs, h => by
  rw [List.zipIdx_cons, List.foldl_cons, zky l (k + 1) off _ (by simp at h ⊢; omega)]
  simp only [Array.toList_setIfInBounds];rw [show off + (k + 1) = off + k + 1 by omega, zhv _ _ _ _ (by simp at h ⊢; omega)]
theorem z6n {place place' : Nat → Option (Nat × Nat)} : ∀ {parts : List (Nat × AV)} {vparts : List (Nat × Value)} {cells : List AV} {vs : Array Value} {c : Bool} {l : List AV},
  parts.map (·.1) = vparts.map (·.1) → RV ρ I w (parts.map (·.2)) (vparts.map (·.2)) → (∀ p ∈ parts, ∀ q, place p.1 = some q → place' p.1 = some q) → RL ρ I w cells vs.toList → zax place cells parts = some (c, l) → c = true →
  ∃ out, Instr.fill place' vs vparts = some out ∧ RL ρ I w l out.toList
 | [], vparts, cells, vs, c, l, hi, hr, hpl, hc, h, hcc => by
  cases vparts with
  | nil => simp [zax] at h; obtain ⟨_, rfl⟩ := h; exact ⟨vs, rfl, hc⟩
  | cons => simp at hi
 | (i, v) :: parts, vparts, cells, vs, c, l, hi, hr, hpl, hc, h, hcc => by
  cases vparts with
  | nil => simp at hi
  | cons q vparts =>
   obtain ⟨i', x⟩ := q;simp only [List.map_cons, List.cons.injEq] at hi;obtain ⟨rfl, hi⟩ := hi;obtain ⟨x', xs', hxe, hr1, hr2⟩ := zr.1 hr;simp only [List.map_cons, List.cons.injEq] at hxe;obtain ⟨rfl, rfl⟩ := hxe;unfold zax at h
   split at h
   ·simp at h
   ·rename_i off size hp
    split at h
    ·rename_i c' l' hf;obtain ⟨rfl, rfl⟩ := spE h;simp only [Bool.and_eq_true, beq_iff_eq] at hcc;obtain ⟨⟨hk, hlen, hin, hz⟩, hc'⟩ := hcc;have hin := zh.1 hin;have rc := z5l hr1 hk;have lc := z3o _ _ rc;have lv := z3g _ _ hc;have hp' := hpl (i, v) (by simp) _ hp
     simp only [Array.length_toList] at lc lv;have e : (x.cells.zipIdx.foldl (fun cs (p : Value × Nat) => cs.setIfInBounds (off + p.2) p.1) vs).toList = z18 vs.toList off x.cells.toList := by
      rw [← Array.foldl_toList, Array.toList_zipIdx, zky _ _ _ _ (by simp; omega)]; rfl
     have hs : RL ρ I w (za0 cells off v) (x.cells.zipIdx.foldl (fun cs (p : Value × Nat) => cs.setIfInBounds (off + p.2) p.1) vs).toList := by
      rw [e];have hz' : size ≠ 0 := by simpa using hz
      exact zd9 _ _ _ _ _ hc rc (by omega) (by omega)
     obtain ⟨out, h1, h2⟩ := z6n hi hr2 (fun p hp => hpl p (by simp [hp])) hs hf hc'
     refine ⟨out, ?_, h2⟩;unfold Instr.fill;simp only [hp'];rw [if_neg (by simp; omega)]
     exact h1
    ·simp at h
end
end
noncomputable section
section
variable {P : Program} {G : Env P} {ρ : Rho} {I : Imm} {H : Heap} {w : World}
theorem zqm : ∀ (fs : List Field), z133 G (fs.map fun f => (f.offset, f.type)) = true →
  ∃ places, fs.mapM (fun f => (P.info? f.type).map fun i => (f.offset, i.size)) = some places ∧ ∀ i q, zin G (fs.map fun f => (f.offset, f.type)) i = some q → places[i]? = some q
 | [], _ => ⟨[], rfl, fun i q h => by simp [zin] at h⟩
 | f :: fs, h => by
  simp only [z133, List.map_cons, List.all_cons, Bool.and_eq_true] at h;obtain ⟨pl, p1, p2⟩ := zqm fs h.2;obtain ⟨tf, htf⟩ := Option.isSome_iff_exists.1 h.1;obtain ⟨j, d, h1, h2, h3, h4, h5⟩ := z1a htf;refine ⟨(f.offset, j.size) :: pl, ?_, ?_⟩
  ·simp [List.mapM_cons, h1, p1]
  ·intro i q hq;cases i with
   | zero => simp [zin, htf] at hq; simp [← hq, h3]
   | succ i => simp only [List.getElem?_cons_succ]; exact p2 i q (by simpa [zin] using hq)
theorem zo2 {z : AV} {v : Value} (hz : z1w z = true) (h : rel ρ I w z v) : RL ρ I w z.cells v.cells.toList := by
 obtain ⟨cs, rfl, hr⟩ := (znu hz).1 h;exact zab hr
theorem ztk {ev : Operand → AV} {e : Operand → Value} (r : ∀ x, rel ρ I w (ev x) (e x)) {t : Nat} {parts : Array (Nat × Operand)} {p : Bool × AV}
  (h : ztd G t (parts.toList.map fun p => (p.1, ev p.2)) = some p) (hp : p.1 = true) : ∃ cells, P.built t (parts.map fun (i, x) => (i, e x)).toList = some cells ∧ rel ρ I w p.2 (.agg cells) := by
 have hm1 : (parts.toList.map fun p => (p.1, ev p.2)).map (·.1) = (parts.map fun (i, x) => (i, e x)).toList.map (·.1) := by simp
 have hm2 : RV ρ I w ((parts.toList.map fun p => (p.1, ev p.2)).map (·.2)) ((parts.map fun (i, x) => (i, e x)).toList.map (·.2)) := by
  simp only [Array.toList_map, List.map_map];exact zj1 r parts.toList
 unfold ztd at h
 split at h
 ·rename_i ti ht;obtain ⟨j, d, h1, h2, h3, h4, h5, h6, _⟩ := z1a ht
  split at h
  ·rename_i z hz;obtain ⟨zv, hzv, hck⟩ := h6 z hz;have hzr := z9j hck ρ I w
   split at h
   ·rename_i n el hk;rw [hk] at h5;obtain rfl := TK.z1lk h5
    split at h
    ·rename_i ie hie;obtain ⟨je, de, e1, e2, e3, _⟩ := z1a hie
     split at h
     ·rename_i c l hf;simp only [Option.some.injEq] at h;subst h;simp only [Bool.and_eq_true] at hp;obtain ⟨out, o1, o2⟩ := z6n (place' := fun i => some (i * je.size, je.size)) hm1 hm2 (fun p _ q hq => by simp only [z85, e3] at hq; exact hq) (zo2 hp.1 hzr) hf hp.2
      refine ⟨out, ?_, by simpa using zgq o2⟩
      simp only [Program.built, h1, h2, hzv, e1];exact o1
     ·simp at h
    ·simp at h
   ·rename_i fs hk;rw [hk] at h5;obtain ⟨fields, rfl, rfl⟩ := TK.z1ly h5
    split at h
    ·rename_i c l hf;simp only [Option.some.injEq] at h;subst h;simp only [Bool.and_eq_true] at hp;obtain ⟨places, q1, q2⟩ := zqm (G := G) fields.toList hp.1.2;obtain ⟨out, o1, o2⟩ := z6n (place' := (places.toArray[·]?)) hm1 hm2 (fun p _ q hq => by
      rw [List.getElem?_toArray]; exact q2 _ _ hq) (zo2 hp.1.1 hzr) hf hp.2
     refine ⟨out, ?_, by simpa using zgq o2⟩
     simp only [Program.built, h1, h2, hzv, q1];exact o1
    ·simp at h
   ·simp at h
  ·simp at h
 ·simp at h
theorem z65 {g : Nat → Option (List AV)} (c : Conc g ρ I H w) {a : AV} {v : Value} {p : Bool} {l : List UInt8} (h : z3q H a = some (p, l)) (hp : p = true) (r : rel ρ I w a v) :
  ∃ x cap, v = .slice x l.length cap ∧ (l = [] ∨ ∃ b off, x = some ⟨b, off, none⟩ ∧ ∀ (j : Nat) (y : Value), (v8 l)[j]? = some y → w.cell? ⟨b, off + j, none⟩ = some y) := by
 unfold z3q at h
 split at h
 ·obtain ⟨rfl, rfl⟩ := spE h;obtain ⟨x, cap, rfl, _, _, h4⟩ := z22.1 r;refine ⟨x, cap, rfl, h4.imp (fun h => List.eq_nil_of_length_eq_zero h) ?_⟩
  rintro ⟨b, off, rfl, _, hl⟩;exact ⟨b, off, rfl, fun j y hy => (hl j y hy).1⟩
 ·rename_i id off k len;have hr := z2j.1 r
  split at h
  ·rename_i l0 f hid;obtain ⟨rfl, rfl⟩ := spE h;simp only [Bool.and_eq_true, beq_iff_eq] at hp;obtain ⟨rfl, hp⟩ := hp;have hp := zh.1 hp;have hl : ((l0.drop off).take len).length = len := by simp; omega
   rcases hr with ⟨b, cap, g1, rfl, g2, g3, g4⟩ | ⟨rfl, x, rfl⟩
   ·refine ⟨_, cap, by rw [hl], .inr ⟨b, off, rfl, fun j y hy => ?_⟩⟩
    obtain ⟨vs, k1, k2⟩ := zdy c (l := [.b8 l0.length l0]) (by simp [z4u, hid]) g1
    obtain ⟨ys, zs, e0, ⟨rfl, e1⟩, e2⟩ := z5w k1;cases e2;simp only [List.append_nil] at e0;subst e0;refine k2 _ _ ?_;have hj : j < len := by have := (List.getElem?_eq_some_iff.1 hy).1; rw [z1k, hl] at this; exact this
    rw [← hy];simp only [v8, List.getElem?_map, List.getElem?_take, List.getElem?_drop];rw [if_pos hj]
   ·exact ⟨x, 0, by simp, .inl (by simp)⟩
  ·rename_i cs f hid
   split at h
   ·rename_i m l' hm;obtain ⟨rfl, rfl⟩ := spE h;simp only [Bool.and_eq_true, beq_iff_eq] at hp;obtain ⟨rfl, rfl⟩ := hp;rcases hr with ⟨b, cap, g1, rfl, g2, g3, g4⟩ | ⟨rfl, x, rfl⟩
    ·obtain ⟨vs, k1, k2⟩ := zdy c (l := cs) (by simp [z4u, hid]) g1
     have hr := zad _ _ m (z62 _ _ off k1);rw [hm] at hr;obtain ⟨ys, zs, e0, ⟨rfl, e1⟩, e2⟩ := z5w hr;cases e2;simp only [List.append_nil] at e0;refine ⟨_, cap, by rw [e1], .inr ⟨b, off, rfl, fun j y hy => k2 _ _ ?_⟩⟩
     have hj : j < m := by have := (List.getElem?_eq_some_iff.1 hy).1; rw [z1k, e1] at this; exact this
     rw [← hy, ← e0, List.getElem?_take, if_pos hj, List.getElem?_drop]
    ·exfalso;cases hd : z56 cs off <;> simp [hd, z6x] at hm
   ·simp at h
  ·simp at h
 ·simp at h
theorem run_loadBytes (b off : Nat) (l : List UInt8) (h : ∀ (j : Nat) (y : Value), (v8 l)[j]? = some y → w.cell? ⟨b, off + j, none⟩ = some y) :
  (loadCells ⟨b, off, none⟩ l.length).run P w = .ok (v8 l).toArray w := by
 have := run_loadCells_list (P := P) w ⟨b, off, none⟩ (v8 l) (fun j y hy => by rw [Addr.add_mid]; exact h j y hy)
 rwa [z1k] at this
theorem zn4 : ∀ (l : List UInt8) (acc : ByteArray), (l.map (fun x => (x.toNat : Int))).foldl (fun r n => r.push (UInt8.ofNat n.toNat)) acc = ⟨acc.data ++ l.toArray⟩
 | [], acc => by simp
 | x :: l, acc => by
  simp only [List.map_cons, List.foldl_cons, Int.toNat_natCast];rw [zn4 l];simp [ByteArray.push]
theorem zvf {v : Value} {l : List UInt8} {x : Option Addr} {cap : Nat} (hv : v = .slice x l.length cap)
  (h : l = [] ∨ ∃ b off, x = some ⟨b, off, none⟩ ∧ ∀ (j : Nat) (y : Value), (v8 l)[j]? = some y → w.cell? ⟨b, off + j, none⟩ = some y) :
  (Conv.bytesToString v).run P w = .ok (.string ⟨l.toArray⟩) w := by
 subst hv;rcases h with rfl | ⟨b, off, rfl, h⟩
 ·cases x with
  | none => simp [Conv.bytesToString, Sem.run_pure]; rfl
  | some a =>
   have := run_loadCells_list (P := P) w a [] (fun j y hy => by simp at hy)
   rw [run_bytesToString w _ _ _ [] (by simpa using this)]
   rfl
 ·have h1 := run_loadBytes (P := P) b off l h;rw [run_bytesToString w _ _ _ (l.map fun x => (x.toNat : Int)) (by rw [h1]; simp [v8])]
  rw [zn4];simp
theorem zl0 (c : Conc G.g ρ I H w) {ev : Operand → AV} {e : Operand → Value} (r : ∀ x, rel ρ I w (ev x) (e x)) {o : Oper} {p : Bool × AV} (h : z40 G o.op ev H = some p) (hp : p.1 = true) :
  ∃ x, (execOp e o).run P w = .ok (.value x) w ∧ rel ρ I w p.2 x := by
 unfold z40 at h
 split at h
 case h_1 x hop =>
  simp only [Option.some.injEq] at h;subst h;exact ⟨e x, by simp [execOp, hop], r x⟩
 case h_2 x hop =>
  simp only [Option.some.injEq] at h;subst h;exact ⟨e x, by simp [execOp, hop], r x⟩
 case h_3 cc a b hop =>
  split at h
  ·rename_i b' hb;simp only [Option.some.injEq] at h;subst h;have hc : e cc = .bool b' := by have := r cc; rw [hb, zl] at this; exact this
   refine ⟨if b' then e a else e b, ?_, z15h (r a) (r b)⟩
   simp only [execOp, hop, hc, asBool];cases b' <;> simp
  ·simp at h
 case h_4 t i hop =>
  split at h
  ·rename_i l hl;simp only [Option.some.injEq] at h;subst h;have ht := r t;rw [hl] at ht;obtain ⟨cs, hcs, hr⟩ := z49.1 ht;have hp := z1z.1 hp;have hlen := zf7 hr;have hi : i < cs.size := by simp at hlen; omega
   refine ⟨cs[i], ?_, ?_⟩
   ·simp [execOp, hop, hcs, Instr.extract, hi]
   ·have := zch hr i;simpa [List.getD, hi] using this
  ·simp at h
 case h_5 t a hop =>
  split at h
  ·rename_i ti ht;obtain ⟨y, h1, h2⟩ := zoc c ht (r a) h hp;exact ⟨y, by simp [execOp, hop, h1], h2⟩
  ·simp at h
 case h_6 s x f hop =>
  split at h
  ·rename_i ti ht
   split at h
   ·rename_i fs hk;obtain ⟨j, d, h1, h2, _, _, h5, _⟩ := z1a ht;rw [hk] at h5;obtain ⟨fields, rfl, rfl⟩ := TK.z1ly h5
    split at h
    ·rename_i off ft hf;rw [List.getElem?_map, Option.map_eq_some_iff] at hf;obtain ⟨fd, hfd, hfd2⟩ := hf;simp only [Prod.mk.injEq] at hfd2;obtain ⟨rfl, rfl⟩ := hfd2;have hfd' : fields[f]? = some fd := by simpa using hfd
     split at h
     ·rename_i tf htf
      split at h
      ·rename_i v hv;simp only [Option.some.injEq] at h;subst h;obtain ⟨b, o', hx, hr⟩ := zrw (r x) hv;obtain ⟨jf, df, f1, f2, f3, _, _⟩ := z1a htf;refine ⟨_, ?_, hr⟩;have hnz' : ¬ jf.size = 0 := by rw [← f3]; simpa using hp
       simp [execOp, hop, Instr.fieldAt, run_underlying h2, hfd', hx, Instr.sureAddr, fieldPlace, run_sizeOf f1, hnz', addr_add]
      ·simp at h
     ·simp at h
    ·simp at h
   ·simp at h
  ·simp at h
 case h_7 t x i hop =>
  split at h
  ·rename_i k n hi
   split at h
   ·rename_i ti ht;obtain ⟨y, h1, h2⟩ := run_indexAt ht (r x) (r i) hi h hp;exact ⟨y, by simp [execOp, hop, h1], h2⟩
   ·simp at h
  ·simp at h
 case h_8 t x i hop =>
  split at h
  ·rename_i k n hi
   split at h
   ·rename_i ti ht;obtain ⟨y, h1, h2⟩ := z13o ht (r x) (r i) hi h hp;exact ⟨y, by simp [execOp, hop, h1], h2⟩
   ·simp at h
  ·simp at h
 case h_9 t x f hop =>
  split at h
  ·rename_i ti ht;obtain ⟨y, h1, h2⟩ := z16b ht (r x) h hp;exact ⟨y, by simp [execOp, hop, h1], h2⟩
  ·simp at h
 case h_10 op t x y ty hop =>
  obtain ⟨hpl, z, h1, h2⟩ := z1cy (r x) (r y) h hp;exact ⟨z, by simp [execOp, hop, hpl x y, h1], h2⟩
 case h_11 op t x hop =>
  split at h
  ·rename_i v hv;simp only [Option.some.injEq] at h;subst h;obtain ⟨y, h1, h2⟩ := z142 (P := P) (r x) hv;exact ⟨y, by simp [execOp, hop, h1], h2⟩
  ·simp at h
 case h_12 s d x hop =>
  split at h
  ·rename_i ts hs
   split at h
   ·rename_i td hd;obtain ⟨_, ds, _, s2, _, _, s5, _⟩ := z1a hs;obtain ⟨_, dd, _, d2, _, _, d5, _⟩ := z1a hd;unfold zcz at h
    split at h
    ·rename_i k k' hk1 hk2;rw [hk2] at d5;obtain rfl := TK.of_int d5
     split at h
     ·rename_i v hv;simp only [Option.some.injEq] at h;subst h;obtain ⟨y, h1, h2⟩ := z1db s2 d2 (r x) hv;exact ⟨y, by simp [execOp, hop, h1], h2⟩
     ·simp at h
    ·rename_i hk1 hk2;rw [hk1] at s5;rw [hk2] at d5;obtain rfl := TK.of_string s5;obtain rfl := TK.of_string d5
     split at h
     ·rename_i l hv;simp only [Option.some.injEq] at h;subst h;have hx := r x;rw [hv, zi] at hx;exact ⟨e x, by simp [execOp, hop, convert, run_underlying s2, run_underlying d2, hx], by rw [hx]; exact zi.2 rfl⟩
     ·simp at h
    ·rename_i te0 hk1 hk2;rw [hk1] at s5;rw [hk2] at d5;obtain rfl := TK.of_slice s5;obtain rfl := TK.of_string d5
     split at h
     ·rename_i te hte
      split at h
      ·rename_i hk;obtain ⟨_, de, _, e2, _, _, e5, _⟩ := z1a hte;rw [hk] at e5;obtain rfl := TK.of_int e5
       split at h
       ·rename_i q l hv;simp only [Option.some.injEq] at h;subst h;obtain ⟨x', cap, h1, h2⟩ := z65 c hv hp (r x);refine ⟨_, ?_, zi.2 rfl⟩;simp only [execOp, hop];rw [h1];simp only [Sem.run_bind, run_convert_bytes_string w s d _ _ _ _ s2 e2 d2, zvf rfl h2, Result.andThen_ok];rfl
       ·simp at h
      ·simp at h
     ·simp at h
    ·simp at h
   ·simp at h
  ·simp at h
 case h_13 fn first caps hop =>
  simp only [Option.some.injEq] at h;subst h;refine ⟨.func fn (first.map e) (caps.map e), by simp [execOp, hop, Instr.makeFunc], zg9.2 ⟨_, _, rfl, ?_, ?_⟩⟩
  ·simp only [Array.toList_map]; exact z8u r _
  ·simp only [Array.toList_map]; exact z8u r _
 case h_14 x hop =>
  have hx := r x
  split at h
  ·rename_i id off hv;simp only [Option.some.injEq] at h;subst h;rw [hv] at hx;obtain ⟨b, hb, hex⟩ := z4a.1 hx;exact ⟨e x, by simp [execOp, hop, hex], hx⟩
  ·rename_i cs i hv;simp only [Option.some.injEq] at h;subst h;rw [hv] at hx;obtain ⟨vs, _, b, off, hex, _⟩ := z6i.1 hx;exact ⟨e x, by simp [execOp, hop, hex], hx⟩
  ·rename_i f a b hv;simp only [Option.some.injEq] at h;subst h;rw [hv] at hx;obtain ⟨x', y', hex, _⟩ := zg9.1 hx;exact ⟨e x, by simp [execOp, hop, hex], hx⟩
  ·simp at h
 case h_15 cl hop =>
  split at h
  ·rename_i fo hfo
   split at h
   ·rename_i f hf;have hr := r fo;rw [hf] at hr;obtain ⟨x, y, hx, h1, h2⟩ := zg9.1 hr;rw [z5k] at h1 h2;have hx1 : x = #[] := by simpa using h1
    have hy1 : y = #[] := by simpa using h2
    subst hx1 hy1;obtain ⟨z, k1, k2⟩ := z18s (z8u r cl.args.toList) h hp;refine ⟨z, ?_, k2⟩;rw [zg7 hop hfo hx];rw [zu7] at k1;simpa using k1
   ·simp at h
  ·rename_i hfo
   split at h
   ·rename_i x t hx ht
    split at h
    ·rename_i ti hti
     split at h
     ·rename_i v hv;simp only [Option.some.injEq] at h;subst h;have hl := z8u r cl.args.toList;rw [hx] at hl;obtain ⟨vx, _, hvx, hr, hnil⟩ := zr.1 hl;rw [z5k] at hnil;subst hnil;obtain ⟨y, k1, k2⟩ := z18b (P := P) (w := w) hti hr hv ht o.type;have hargs : cl.args.map e = #[vx] := by
       apply Array.toList_inj.1;simpa using hvx
      exact ⟨y, by rw [z3r hop hfo, hargs]; simp [builtin, k1], k2⟩
     ·simp at h
    ·simp at h
   ·simp at h
  ·rename_i hfo
   split at h
   ·rename_i v hv;simp only [Option.some.injEq] at h;subst h;obtain ⟨y, k1, k2⟩ := zlb (P := P) (z8u r cl.args.toList) hv cl.argTypes o.type;refine ⟨y, ?_, k2⟩;rw [z3r hop hfo];simp only [Bool.false_eq_true, if_false, zu7] at k1;simp [builtin, k1]
   ·simp at h
  ·rename_i hfo
   split at h
   ·rename_i v hv;simp only [Option.some.injEq] at h;subst h;obtain ⟨y, k1, k2⟩ := zlb (P := P) (z8u r cl.args.toList) hv cl.argTypes o.type;refine ⟨y, ?_, k2⟩;rw [z3r hop hfo];simp only [if_true, zu7] at k1;simp [builtin, k1]
   ·simp at h
  ·simp at h
 case h_16 t parts hop =>
  obtain ⟨cells, h1, h2⟩ := ztk (r := fun x => r x) h hp
  exact ⟨_, by simp only [execOp, hop, Sem.run_bind, run_build w t _ cells h1, Result.andThen_ok]; rfl, h2⟩
 case h_17 => simp at h
end
end
noncomputable section
def one (S : Nat) : Nat → Bool := fun i => i == S
def zns (kl : Option Nat) (t : List AV) : List AV := match kl with
 | none => t
 | some n => z4s (one n) t
def z1bj (kl : Option Nat) (ρ : Rho) (I : Imm) (w : World) (ρ' : Rho) (I' : Imm) (w' : World) : Prop := match kl with
 | none => Mono ρ I w ρ' I' w'
 | some n => MonoBut (one n) ρ I w ρ' I' w'
def z4n (t : List AV) (d : Option Tmp) (v : AV) : List AV :=
 match d with
 | none => t
 | some d => t.set d v
section
variable {P : Program} (G : Env P)
def Fin (ρ : Rho) (I : Imm) (H : Heap) (w : World) (x : Value) (w' : World) (K : Option Nat → AV → Heap → Prop) : Prop :=
 ∃ (ρ' : Rho) (I' : Imm) (kl : Option Nat) (v : AV) (H' : Heap), Good ρ I H w ρ' I' H' w' ∧ Conc G.g ρ' I' H' w' ∧ rel ρ' I' w' v x ∧ z1bj kl ρ I w ρ' I' w' ∧ K kl v H'
def Post (ρ : Rho) (I : Imm) (H : Heap) (w : World) (K : Option Nat → AV → Heap → Prop) : Result Next → Prop
 | .ok (.value x) w' => Fin G ρ I H w x w' K
 | .ok .skip w' => Fin G ρ I H w undef w' K
 | _ => False
def ACall (f : FuncId) (args : List AV) (H : Heap) (R : AV → Heap → Prop) : Prop :=
 ∀ (ρ : Rho) (I : Imm) (w : World) (vs : List Value), Conc G.g ρ I H w → RV ρ I w args vs →
  Calls P f vs.toArray w fun e w' => ∃ x, e = .returned x ∧ ∃ (ρ' : Rho) (I' : Imm) (v : AV) (H' : Heap), Good ρ I H w ρ' I' H' w' ∧ Conc G.g ρ' I' H' w' ∧ rel ρ' I' w' v x ∧ R v H'
def zc7 (f : FuncId) (args : List AV) (s : St) (d : Option Tmp) (K : St → Prop) : Prop :=
 ∀ (ρ : Rho) (I : Imm) (w : World) (a : Act) (vs : List Value), Conc G.g ρ I s.H w → RelT ρ I w s.t a → RV ρ I w args vs →
  Calls P f vs.toArray w fun e w' => ∃ x, e = .returned x ∧ ∃ (ρ' : Rho) (I' : Imm) (s' : St), Good ρ I s.H w ρ' I' s'.H w' ∧ Conc G.g ρ' I' s'.H w' ∧ RelT ρ' I' w' s'.t (a.put d x) ∧ K s'
def step1 (o : Oper) (s : St) (K : St → Prop) : Prop :=
 match z40 G o.op (evA G s.t) s.H with
 | some (c, v) => cnd c (K ⟨z4n s.t o.dst v, s.H⟩)
 | none =>
  match aeff G o.op (evA G s.t) s.H with
  | some (c, v, H', kl) => cnd c (K ⟨z4n (zns kl s.t) o.dst v, H'⟩)
  | none =>
   match z6f o.op (evA G s.t) with
   | some (f, args) => cnd (G.go f) (zc7 G f args s o.dst K)
   | none => False
def z11b (ops : Array Oper) (o : Oper) (s : St) (K : St → Prop) : Prop :=
 match o.guard with
 | none => step1 G o s K
 | some (j, want) =>
  match (ops[j]?).bind (·.dst) with
  | none => K ⟨z4n s.t o.dst (.tup []), s.H⟩
  | some d =>
   match s.t.getD d .any with
   | .bool b => ifW b want (step1 G o s K) (K ⟨z4n s.t o.dst (.tup []), s.H⟩)
   | .tup _ => K ⟨z4n s.t o.dst (.tup []), s.H⟩
   | _ => False
def aops (ops : Array Oper) : List Oper → St → (St → Prop) → Prop
 | [], s, K => K s
 | o :: rest, s, K => z11b G ops o s fun s' => aops ops rest s' K
def Leads (ρ : Rho) (I : Imm) (H : Heap) (w : World) (K : St → Prop) (next : Act → World → Prop) : Prop :=
 ∀ (ρ' : Rho) (I' : Imm) (s' : St) (a' : Act) (w' : World), Good ρ I H w ρ' I' s'.H w' → Conc G.g ρ' I' s'.H w' → RelT ρ' I' w' s'.t a' → K s' → next a' w'
def Tri (c : Code) (Q : Exit → St → Prop) (s : St) : Prop :=
 ∀ (ρ : Rho) (I : Imm) (a : Act) (w : World), Conc G.g ρ I s.H w → RelT ρ I w s.t a →
  c.wp P (fun e a' w' => ∃ (ρ' : Rho) (I' : Imm) (s' : St), Good ρ I s.H w ρ' I' s'.H w' ∧ Conc G.g ρ' I' s'.H w' ∧ RelT ρ' I' w' s'.t a' ∧ Q e s') a w
def zdq (k : St → Prop) (Q : Exit → St → Prop) : Exit → St → Prop
 | .normal, s => k s
 | e, s => Q e s
def zu1 (id : Nat) (Q : Exit → St → Prop) : Exit → St → Prop
 | .exit i, s => bif i == id then Q .normal s else Q (.exit i) s
 | e, s => Q e s
end
section
variable {P : Program} {G : Env P} {ρ : Rho} {I : Imm} {H : Heap} {w : World}
theorem z8z {ρ : Rho} {I : Imm} {w : World} : rel ρ I w (.tup []) undef := z49.2 ⟨#[], rfl, by simp [RV]⟩
theorem RelT.put {t : List AV} {a : Act} (h : RelT ρ I w t a) (d : Option Tmp) {v : AV} {x : Value} (r : rel ρ I w v x) : RelT ρ I w (z4n t d v) (a.put d x) := by
 cases d with
 | none => exact h
 | some d => exact ⟨by simpa [Act.put, z4n] using z1f3 h.tr d r, h.defers⟩
theorem RelT.kill {kl : Option Nat} {ρ' : Rho} {I' : Imm} {w' : World} (m : z1bj kl ρ I w ρ' I' w') {t : List AV} {a : Act} (h : RelT ρ I w t a) : RelT ρ' I' w' (zns kl t) a := by
 cases kl with
 | none => exact h.mono m
 | some n => exact ⟨zfp m _ _ h.tr, h.defers⟩
theorem Leads.on {K : St → Prop} {next : Act → World → Prop} (h : Leads G ρ I H w K next) {ρ1 : Rho} {I1 : Imm} {H1 : Heap} {w1 : World}
  (g : Good ρ I H w ρ1 I1 H1 w1) : Leads G ρ1 I1 H1 w1 K next :=
 fun ρ' I' s' a' w' g' c r k => h ρ' I' s' a' w' (g.trans g') c r k
theorem Fin.here {x : Value} {K : Option Nat → AV → Heap → Prop} (c : Conc G.g ρ I H w) {v : AV} (r : rel ρ I w v x) (k : K none v H) : Fin G ρ I H w x w K :=
 ⟨ρ, I, none, v, H, Good.refl _ _ _ _, c, r, ⟨fun _ _ h => h, fun _ _ h => ⟨h, rfl⟩, fun _ h => ⟨h, rfl⟩⟩, k⟩
theorem zil {s : St} {o : Oper} {a : Act} {K : St → Prop} {next : Act → World → Prop} {Q : Exit → Act → World → Prop}
  (r : RelT ρ I w s.t a) (hn : Leads G ρ I s.H w K next) : ∀ {res : Result Next},
  Post G ρ I s.H w (fun kl v H' => K ⟨z4n (zns kl s.t) o.dst v, H'⟩) res → o.upon P a next Q res := by
 intro res h;have fin : ∀ (x : Value) (w' : World), Fin G ρ I s.H w x w' (fun kl v H' => K ⟨z4n (zns kl s.t) o.dst v, H'⟩) → next (a.put o.dst x) w' := by
  intro x w' ⟨ρ', I', kl, v, H', hg, hc, hr, hm, hk⟩;exact hn ρ' I' ⟨z4n (zns kl s.t) o.dst v, H'⟩ _ w' hg hc ((r.kill hm).put _ hr) hk
 match res, h with
 | .ok (.value x) w', h => exact fin x w' h
 | .ok .skip w', h => exact fin undef w' h
theorem zzy (c : Conc G.g ρ I H w) {z : AV} {v : Value} (hz : known z = true) (hr : rel ρ I w z v) (t : TypeId) {K : Option Nat → AV → Heap → Prop} (hk : K none (.ptr H.length 0) (H ++ [.blk z.cells []])) :
  Fin G ρ I H w (.pointer (some ⟨w.heap.size, 0, none⟩)) (w.alloc (.cells v.cells t)) K := by
 have hcells := zab (z5l hr hz);have hnew := z69 w (.cells v.cells t);have hx : ∀ b, some w.heap.size = some b → w.heap.size ≤ b ∧ b < (w.alloc (.cells v.cells t)).heap.size := fun b h => by simp at h; subst h; simp
 obtain ⟨hc, hm⟩ := z13n c (.blk z.cells []) (some w.heap.size) (w' := w.alloc (.cells v.cells t)) hx (by simp) (fun b h => alloc_old w _ h) rfl
  (fun cs f h => by
   simp only [Ent.blk.injEq] at h;obtain ⟨rfl, rfl⟩ := h;exact ⟨w.heap.size, t, (0, 0), v.cells.toList, rfl, by simpa using hnew, hcells, Nat.le_refl _, fun o _ => by simp⟩)
  (fun h => by simp [Ent.grows] at h) rfl rfl rfl
 exact ⟨_, _, none, _, _, zqu c (.blk z.cells []) (some w.heap.size) (fun b h => (hx b h).1) (by simp) (fun b h => alloc_old w _ h) rfl rfl rfl, hc, z4a.2 ⟨w.heap.size, by simp [z1e], rfl⟩, hm, hk⟩
theorem zz2 (c : Conc G.g ρ I H w) {id b : Nat} {e e' : Ent} {el : TypeId} {fr : Nat × Nat} {us us' rest : List Value} {cs' : List AV} (hid : H[id]? = some e) (hb : ρ id = some (some b))
  (hw : w.heap[b]? = some (.cells (us ++ rest).toArray el fr)) (hcl : clear fr (us ++ rest).length) (hblk : (∃ cs f, e = .blk cs f) → rest = []) (hr : RL ρ I w cs' us') (hlen : us'.length = us.length)
  (hfz : ∀ o, z43 e.frz o → us'[o]? = us[o]?) (hu : zfg e cs' = some e') :
  Good ρ I H w ρ I (H.set id e') (z3l w b (.cells (us' ++ rest).toArray el fr)) ∧ Conc G.g ρ I (H.set id e') (z3l w b (.cells (us' ++ rest).toArray el fr)) ∧ Mono ρ I w ρ I (z3l w b (.cells (us' ++ rest).toArray el fr)) := by
 have hlen' : (us' ++ rest).length = (us ++ rest).length := by simp [hlen]
 have hfz' : ∀ o, z43 e.frz o → (us' ++ rest)[o]? = (us ++ rest)[o]? := by
  intro o ho;rcases Nat.lt_or_ge o us.length with h | h
  ·rw [List.getElem?_append_left (by omega), List.getElem?_append_left h]; exact hfz o ho
  ·rw [List.getElem?_append_right (by omega), List.getElem?_append_right h, hlen]
 unfold zfg at hu
 split at hu
 ·rename_i cs0 f0;simp only [Option.some.injEq] at hu;subst hu;have hrest := hblk ⟨_, _, rfl⟩;obtain ⟨k1, k2⟩ := z7w c hid rfl hb hw hlen' hfz' (e' := .blk cs' f0) rfl (fun h => by simp [Ent.grows] at h) rfl hcl
   (fun cs f h => by simp only [Ent.blk.injEq] at h; obtain ⟨rfl, rfl⟩ := h; subst hrest; simpa using hr) (fun h => by simp [Ent.grows] at h)
  exact ⟨z6e (I := I) hid rfl hb hw hlen' hfz' (e' := .blk cs' f0) rfl (fun h => by simp [Ent.grows] at h), k1, k2⟩
 ·rename_i l0 f0
  split at hu
  ·rename_i m l';simp only [Option.some.injEq] at hu;subst hu;have hr' : RL ρ I w [.b8 l'.length l'] us' := by
    obtain ⟨ys, zs, e0, ⟨e1, e2⟩, e3⟩ := z5w hr;exact z12.2 ⟨ys, zs, e0, ⟨e1, rfl⟩, e3⟩
   obtain ⟨k1, k2⟩ := z7w c hid rfl hb hw hlen' hfz' (e' := .grow8 l' f0) rfl (fun _ => rfl) rfl hcl
    (fun cs f h => by simp at h) (fun _ => ⟨trivial, us', rest, rfl, hr'⟩)
   exact ⟨z6e (I := I) hid rfl hb hw hlen' hfz' (e' := .grow8 l' f0) rfl (fun _ => rfl), k1, k2⟩
  ·simp at hu
 ·rename_i k0 rows0 f0;cases hb2 : (cs'.all fun a => szA a == k0) with
  | false => rw [hb2] at hu; simp at hu
  | true =>
   rw [hb2] at hu;simp only [cond_true, Option.some.injEq] at hu;subst hu;have hev : ∀ a ∈ cs', szA a = k0 := fun a ha => by
    rw [List.all_eq_true] at hb2;simpa using hb2 a ha
   obtain ⟨k1, k2⟩ := z7w c hid rfl hb hw hlen' hfz' (e' := .grow k0 cs' f0) rfl (fun _ => rfl) rfl hcl
    (fun cs f h => by simp at h) (fun _ => ⟨hev, us', rest, rfl, hr⟩)
   exact ⟨z6e (I := I) hid rfl hb hw hlen' hfz' (e' := .grow k0 cs' f0) rfl (fun _ => rfl), k1, k2⟩
 ·simp at hu
theorem ziu {e e' : Ent} {cs : List AV} (h : zfg e cs = some e') : (∃ c f, e = .blk c f) ∨ e.grows = true := by
 unfold zfg at h
 split at h
 ·exact .inl ⟨_, _, rfl⟩
 ·exact .inr rfl
 ·exact .inr rfl
 ·simp at h
theorem z171 (c : Conc G.g ρ I H w) {id b : Nat} {e : Ent} (hid : H[id]? = some e) (hb : ρ id = some (some b)) (hk : (∃ c f, e = .blk c f) ∨ e.grows = true) :
  ∃ el fr us rest, w.heap[b]? = some (.cells (us ++ rest).toArray el fr) ∧ clear fr (us ++ rest).length ∧ ((∃ cs f, e = .blk cs f) → rest = []) ∧ RL ρ I w e.cells us := by
 rcases hk with ⟨cs, f, rfl⟩ | hk
 ·obtain ⟨b', el, fr, us, g1, g2, g3, g4⟩ := c.blk id _ f hid;obtain rfl : b = b' := by rw [hb] at g1; simpa using g1
  exact ⟨el, fr, us, [], by simpa using g2, by simpa using g4, fun _ => rfl, g3⟩
 ·obtain ⟨_, g1 | ⟨b', el, fr, us, rest, g1, g2, g3, g4⟩⟩ := c.grow id e hid hk
  ·rw [hb] at g1; simp at g1
  ·obtain rfl : b = b' := by rw [hb] at g1; simpa using g1
   exact ⟨el, fr, us, rest, g2, g4, fun ⟨cs, f, h⟩ => by rw [h] at hk; simp [Ent.grows] at hk, g3⟩
theorem zl3 (c : Conc G.g ρ I H w) {ev : Operand → AV} {e : Operand → Value} (r : ∀ x, rel ρ I w (ev x) (e x)) {o : Oper} {t : Nat} {a x : Operand} (hop : o.op = .store t a x) {p : Bool} {id : Nat} {e' : Ent}
  (h : zda G (.store t a x) ev H = some (p, id, e')) (hp : p = true) : ∃ w', (execOp e o).run P w = .ok .skip w' ∧ Good ρ I H w ρ I (H.set id e') w' ∧ Conc G.g ρ I (H.set id e') w' ∧ Mono ρ I w ρ I w' := by
 have fin : ∀ {ti : TI} {b off : Nat} {e0 : Ent} {el : TypeId} {fr : Nat × Nat} {us rest : List Value}, G.ty t = some ti → e a = .pointer (some ⟨b, off, none⟩) → w.heap[b]? = some (.cells (us ++ rest).toArray el fr) → clear fr (us ++ rest).length →
   (e x).cells.size = ti.size → (∀ y ∈ (e x).cells.toList, y.oneCell' = true) → off + ti.size ≤ us.length →
   (execOp e o).run P w = .ok .skip (z3l w b (.cells (z18 us off (e x).cells.toList ++ rest).toArray el fr)) := by
  intro ti b off e0 el fr us rest ht hea hw hcl hsz h1 hle;have hrun := zup (off := off) ht hsz h1 hw (by simp; omega) hcl
  have hL : (e x).cells.toList.length = ti.size := by simpa using hsz
  rw [zd1 (by rw [hL]; exact hle)] at hrun
  simp [execOp, hop, Instr.storeAt, hea, Instr.sureAddr, hrun]
 unfold zda at h;simp only at h
 split at h
 ·rename_i ti ht
  split at h
  ·rename_i id' off ha;have hra := r a;rw [ha] at hra;obtain ⟨b, hb, hea⟩ := z4a.1 hra
   split at h
   ·rename_i e0 hid
    split at h
    ·rename_i e1 hu;simp only [Option.some.injEq, Prod.mk.injEq] at h;obtain ⟨rfl, rfl, rfl⟩ := h;simp only [Bool.and_eq_true, beq_iff_eq, bne_iff_ne, ne_eq] at hp;obtain ⟨⟨⟨⟨c1, c2⟩, c3, c4⟩, c5⟩, c6⟩ := hp;have c5 := zh.1 c5;have c6 := zev c6;obtain ⟨el, fr, us, rest, hw, hcl, hblk, hr⟩ := z171 c hid hb (ziu hu);have hcells := z5l (r x) c1;have hlx := z3o _ _ hcells;have hlu := z3g _ _ hr;have hsz : (e x).cells.size = ti.size := by simp at hlx; omega
     have hL : (e x).cells.toList.length = ti.size := by simpa using hsz
     have hres := zd9 e0.cells us off (ev x) _ hr hcells (by omega) (by omega)
     have hrun := fin (e0 := e0) ht hea hw hcl hsz (zce _ _ hcells c2) (by omega)
     exact ⟨_, hrun, zz2 c hid hb hw hcl hblk hres (z82 (by rw [hL]; omega)) (fun q ⟨pr, hpr, h1, h2⟩ => zdx (by rw [hL]; omega) (by rw [hL]; have := c6 pr hpr; omega)) hu⟩
    ·simp at h
   ·simp at h
  ·rename_i id' off n i ha;have hra := r a;rw [ha] at hra;obtain ⟨b, hb, hi, hea⟩ := zg6.1 hra
   split at h
   ·rename_i e0 hid
    split at h
    ·rename_i cs' hset
     split at h
     ·rename_i e1 hu;simp only [Option.some.injEq, Prod.mk.injEq] at h;obtain ⟨rfl, rfl, rfl⟩ := h;simp only [Bool.and_eq_true, beq_iff_eq, Bool.not_eq_true'] at hp;obtain ⟨⟨⟨⟨c1, c2⟩, c3, c4⟩, c5, c7⟩, c6⟩ := hp;have c5 := zh.1 c5;have c6 := zev c6;obtain ⟨el, fr, us, rest, hw, hcl, hblk, hr⟩ := z171 c hid hb (ziu hu);have hlu := z3g _ _ hr;obtain ⟨k1, k2⟩ := zxs hr hi c5 c3 c7 (r x) hset;have hcells := z5l (r x) c1;obtain ⟨y, hy, _⟩ := zsc c7 hcells;have hsz : (e x).cells.size = ti.size := by have := congrArg List.length hy; simp at this; omega
      have hyx : y = e x := by
       cases hv : e x <;> rw [hv] at hy hcells <;> simp [Value.cells] at hy <;> first | exact hy.symm | skip
       exfalso;rename_i cs;have hrx := r x;rw [hv] at hrx;have := zjq c7 hrx;have h3 := zce _ _ this c2 (.agg cs) (by simp)
       simp [Value.oneCell'] at h3
      subst hyx;have hrun := fin (e0 := e0) ht hea hw hcl hsz (zce _ _ hcells c2) (by omega)
      rw [hy, z6p _ (by omega)] at hrun
      refine ⟨_, hrun, zz2 c hid hb hw hcl hblk k1 (by simp) (fun q ⟨pr, hpr, h1, h2⟩ => ?_) hu⟩
      rw [List.getElem?_set_ne];have := c6 pr hpr;omega
     ·simp at h
    ·simp at h
   ·simp at h
  ·simp at h
 ·simp at h
theorem z11v (c : Conc G.g ρ I H w) {ev : Operand → AV} {e : Operand → Value} (r : ∀ x, rel ρ I w (ev x) (e x)) {o : Oper} {p : Bool} {v : AV} {H' : Heap} {kl : Option Nat} (h : aeff G o.op ev H = some (p, v, H', kl)) (hp : p = true)
  {K : Option Nat → AV → Heap → Prop} (hk : K kl v H') : Post G ρ I H w K ((execOp e o).run P w) := by
 unfold aeff at h
 split at h
 ·rename_i t hop
  split at h
  ·rename_i ti ht
   split at h
   ·rename_i z hz;simp only [Option.some.injEq, Prod.mk.injEq] at h;obtain ⟨rfl, rfl, rfl, rfl⟩ := h;obtain ⟨j, d, h1, h2, h3, _, h5, h6, _⟩ := z1a ht;obtain ⟨zv, hzv, hck⟩ := h6 z hz;have hrun : (execOp e o).run P w = .ok (.value (.pointer (some ⟨w.heap.size, 0, none⟩))) (w.alloc (.cells zv.cells t)) := by
     simp [execOp, hop, Instr.alloc, zeroValue, run_typeInfo h1, hzv, newVar, newRow]
    rw [hrun];exact zzy c hp (z9j hck ρ I w) t hk
   ·simp at h
  ·simp at h
 ·rename_i t x hop;simp only [Option.some.injEq, Prod.mk.injEq] at h;obtain ⟨rfl, rfl, rfl, rfl⟩ := h;have hrun : (execOp e o).run P w = .ok (.value (.pointer (some ⟨w.heap.size, 0, none⟩))) (w.alloc (.cells (e x).cells t)) := by
   simp [execOp, hop, Instr.box, newVar, newRow]
  rw [hrun];exact zzy c hp (r x) t hk
 ·rename_i t a x hop
  split at h
  ·rename_i q id e1 hs;simp only [Option.some.injEq, Prod.mk.injEq] at h;obtain ⟨rfl, rfl, rfl, rfl⟩ := h;obtain ⟨w', hrun, h1, h2, h3⟩ := zl3 c r hop hs hp;rw [hrun];exact ⟨ρ, I, none, _, _, h1, h2, z8z, h3, hk⟩
  ·simp at h
 ·simp at h
theorem z1ab {f : FuncId} (h : zpm P f) (args : Array Value) : (callFunc f args).run P w = .ok (.enter f args) w := by
 unfold zpm at h
 split at h
 ·rename_i fn hfn;obtain ⟨n1, n2⟩ := h;have n1' : fn.name ≠ "runtime.NumGoroutine" := by simpa using n1
  obtain ⟨bd, hb⟩ := Option.isSome_iff_exists.1 n2;simp [callFunc, hfn, n1', hb]
 ·exact h.elim
theorem zbe {ev : Operand → AV} {e : Operand → Value} (r : ∀ x, rel ρ I w (ev x) (e x)) {o : Oper} {f : FuncId} {args : List AV} (h : z6f o.op ev = some (f, args)) (hf : zpm P f) :
  ∃ vs : Array Value, (execOp e o).run P w = .ok (.enter f vs) w ∧ RV ρ I w args vs.toList := by
 unfold z6f at h
 split at h
 ·rename_i cl hop
  split at h
  ·rename_i fo hfo
   split at h
   ·rename_i g first caps hg;obtain ⟨rfl, rfl⟩ := spE h;have hr := r fo;rw [hg] at hr;obtain ⟨x, y, hx, h1, h2⟩ := zg9.1 hr;refine ⟨x ++ cl.args.map e ++ y, by rw [zg7 hop hfo hx, z1ab hf], ?_⟩
    simp only [Array.toList_append, Array.toList_map, List.append_assoc];exact zii h1 (zii (z8u r _) h2)
   ·simp at h
  ·simp at h
 ·simp at h
theorem zem (c : Conc G.g ρ I H w) {t : List AV} {a : Act} (r : RelT ρ I w t a) {o : Oper} {K : St → Prop} (h : step1 G o ⟨t, H⟩ K) {next : Act → World → Prop} {Q : Exit → Act → World → Prop}
  (hn : Leads G ρ I H w K next) : o.wp P a w next Q := by
 have re := zfv c r;unfold step1 at h;unfold Oper.wp
 split at h
 ·rename_i b v hv;obtain ⟨hc, hk⟩ := zd.1 h;obtain ⟨x, h1, h2⟩ := zl0 c re hv hc;rw [h1];exact zil (s := ⟨t, H⟩) (o := o) r hn (res := .ok (.value x) w) (Fin.here c h2 hk)
 ·split at h
  ·rename_i b v H' kl hv;obtain ⟨hc, hk⟩ := zd.1 h;exact zil (s := ⟨t, H⟩) (o := o) r hn (z11v c re hv hc hk)
  ·split at h
   ·rename_i f args hcall;obtain ⟨hg, hcs⟩ := zd.1 h;obtain ⟨vs, h1, h2⟩ := zbe re hcall (G.goOk f hg);rw [h1];have := hcs ρ I w a vs.toList c r h2;rw [Array.toArray_toList] at this;refine Calls.mono this ?_;rintro e w' ⟨x, rfl, ρ', I', s', g1, g2, g3, g4⟩;exact hn ρ' I' s' _ w' g1 g2 g3 g4
   ·exact h.elim
theorem z9e {ops : Array Oper} {j d : Nat} {t : List AV} {a : Act} (r : RelT ρ I w t a) (hd : (ops[j]?).bind (·.dst) = some d) {b : Bool} (h : t.getD d .any = .bool b) :
  yielded ops a.tmps j = some b := by
 have := zch r.tr d;rw [h, zl] at this;have hx : a.tmps.toList.getD d undef = .bool b := this;unfold yielded;rw [hd];simp only [Option.bind_some];rw [List.getD_eq_getElem?_getD] at hx;cases hq : a.tmps[d]? with
 | none => simp [hq, undef] at hx
 | some v => simp [hq] at hx; simp [hx]
theorem zet {ops : Array Oper} {j d : Nat} {t : List AV} {a : Act} (r : RelT ρ I w t a) (hd : (ops[j]?).bind (·.dst) = some d) {l : List AV} (h : t.getD d .any = .tup l) :
  yielded ops a.tmps j = none := by
 have := zch r.tr d;rw [h] at this;obtain ⟨cs, hx, _⟩ := z49.1 this;unfold yielded;rw [hd];simp only [Option.bind_some];rw [List.getD_eq_getElem?_getD] at hx;cases hq : a.tmps[d]? with
 | none => rfl
 | some v => simp [hq] at hx; simp [hx]
theorem zxq (c : Conc G.g ρ I H w) {t : List AV} {a : Act} (r : RelT ρ I w t a) {ops : Array Oper} {o : Oper} {K : St → Prop} (h : z11b G ops o ⟨t, H⟩ K) {next : Act → World → Prop}
  {Q : Exit → Act → World → Prop} (hn : Leads G ρ I H w K next) :
  if Region.wanted o (yielded ops a.tmps) then o.wp P a w next Q else next (a.put o.dst undef) w := by
 have skip : K ⟨z4n t o.dst (.tup []), H⟩ → next (a.put o.dst undef) w := fun hk =>
  hn ρ I ⟨z4n t o.dst (.tup []), H⟩ _ w (Good.refl _ _ _ _) c (r.put _ z8z) hk
 unfold z11b at h;unfold Region.wanted
 split at h
 ·rename_i hg;rw [hg];exact zem c r h hn
 ·rename_i j want hg;rw [hg]
  split at h
  ·rename_i hd;have : yielded ops a.tmps j = none := by unfold yielded; rw [hd]; rfl
   simp only [this];simpa using skip h
  ·rename_i d hd
   split at h
   ·rename_i b hb;have hy := z9e r hd hb;have h := zq2.1 h;simp only [hy]
    by_cases e : b = want
    ·subst e;simp only [beq_self_eq_true, if_true];exact zem c r (h.1 rfl) hn
    ·have e' : b = !want := by cases b <;> cases want <;> simp_all
     have : (some b == some want) = false := by simp [e]
     simp only [this, Bool.false_eq_true, if_false];exact skip (h.2 e')
   ·rename_i l hl;have hy := zet r hd hl;simp only [hy];simpa using skip h
   ·exact h.elim
theorem zoi {ops : Array Oper} {Q : Exit → Act → World → Prop} : ∀ (l : List Oper) {ρ : Rho} {I : Imm} {H : Heap} {w : World} {t : List AV} {a : Act} {K : St → Prop},
  Conc G.g ρ I H w → RelT ρ I w t a → aops G ops l ⟨t, H⟩ K → Leads G ρ I H w K (Q .normal) → wpList P ops Q l a w
 | [], ρ, I, H, w, t, a, K, c, r, h, hn => hn ρ I ⟨t, H⟩ a w (Good.refl _ _ _ _) c r h
 | o :: rest, ρ, I, H, w, t, a, K, c, r, h, hn => by
  have := zxq (Q := Q) c r (K := fun s' => aops G ops rest s' K) h (next := wpList P ops Q rest)
   (fun ρ' I' s' a' w' g c' r' k => zoi rest c' r' k (hn.on g))
  unfold wpList
  split
  ·rename_i hw;rw [if_pos hw] at this;exact .inl this
  ·rename_i hw;rw [if_neg hw] at this;exact this
theorem Tri.mono {c : Code} {Q Q' : Exit → St → Prop} {s : St} (h : Tri G c Q s) (hq : ∀ e s, Q e s → Q' e s) : Tri G c Q' s :=
 fun ρ I a w hc hr => wp_mono (h ρ I a w hc hr) fun _ _ _ ⟨ρ', I', s', h1, h2, h3, h4⟩ => ⟨ρ', I', s', h1, h2, h3, hq _ _ h4⟩
theorem Tri.skip {Q : Exit → St → Prop} {s : St} (h : Q .normal s) : Tri G .skip Q s :=
 fun ρ I a w hc hr => wp_skip ⟨ρ, I, s, Good.refl _ _ _ _, hc, hr, h⟩
theorem Tri.label {Q : Exit → St → Prop} {s : St} {l : Nat} (h : Q .normal s) : Tri G (.label l) Q s :=
 fun ρ I a w hc hr => wp_label ⟨ρ, I, s, Good.refl _ _ _ _, hc, hr, h⟩
theorem Tri.exit {Q : Exit → St → Prop} {s : St} {id : Nat} (h : Q (.exit id) s) : Tri G (.exit id) Q s :=
 fun ρ I a w hc hr => wp_exit ⟨ρ, I, s, Good.refl _ _ _ _, hc, hr, h⟩
theorem Tri.goto {Q : Exit → St → Prop} {s : St} {l : Nat} (h : Q (.goto l) s) : Tri G (.goto l) Q s :=
 fun ρ I a w hc hr => wp_goto ⟨ρ, I, s, Good.refl _ _ _ _, hc, hr, h⟩
theorem Tri.ret {Q : Exit → St → Prop} {s : St} (h : Q .ret s) : Tri G .ret Q s :=
 fun ρ I a w hc hr => wp_ret ⟨ρ, I, s, Good.refl _ _ _ _, hc, hr, h⟩
theorem Tri.seq {x y : Code} {Q : Exit → St → Prop} {s : St} (h : Tri G x (zdq (Tri G y Q) Q) s) : Tri G (.seq x y) Q s := by
 intro ρ I a w hc hr;refine wp_seq (wp_mono (h ρ I a w hc hr) ?_);rintro e a' w' ⟨ρ', I', s', h1, h2, h3, h4⟩;cases e with
 | normal =>
  refine wp_mono (h4 ρ' I' a' w' h2 h3) ?_;rintro e a'' w'' ⟨ρ'', I'', s'', k1, k2, k3, k4⟩;exact ⟨ρ'', I'', s'', h1.trans k1, k2, k3, k4⟩
 | _ => exact ⟨ρ', I', s', h1, h2, h3, h4⟩
theorem Tri.cond {c : Operand} {x y : Code} {Q : Exit → St → Prop} {s : St} {b : Bool} (hc : evA G s.t c = .bool b) (h1 : b = true → Tri G x Q s) (h2 : b = false → Tri G y Q s) : Tri G (.cond c x y) Q s := by
 intro ρ I a w hC hr;have := zfv hC hr c;rw [hc, zl] at this;exact wp_cond_split this (fun e => h1 e ρ I a w hC hr) (fun e => h2 e ρ I a w hC hr)
theorem Tri.block {id : Nat} {c : Code} {Q : Exit → St → Prop} {s : St} (h : Tri G c (zu1 id Q) s) : Tri G (.block id c) Q s := by
 intro ρ I a w hc hr;refine wp_block (wp_mono (h ρ I a w hc hr) ?_);rintro e a' w' ⟨ρ', I', s', h1, h2, h3, h4⟩;cases e with
 | exit i =>
  simp only [Exit.inBlock];simp only [zu1] at h4
  split
  ·rename_i e; rw [e, beq_self_eq_true] at h4; exact ⟨ρ', I', s', h1, h2, h3, h4⟩
  ·rename_i e; rw [show (i == id) = false by simpa using e] at h4; exact ⟨ρ', I', s', h1, h2, h3, h4⟩
 | _ => exact ⟨ρ', I', s', h1, h2, h3, h4⟩
theorem Tri.region {id : Nat} {ops : Array Oper} {Q : Exit → St → Prop} {s : St} (h : aops G ops ops.toList s (Q .normal)) : Tri G (.region id ops false) Q s := by
 intro ρ I a w hc hr;refine wp_region_list (zoi ops.toList hc hr h ?_);intro ρ' I' s' a' w' g c r k;exact ⟨ρ', I', s', g, c, r, k⟩
theorem zlt {c : Code} {Q : Exit → Act → World → Prop} (J : Nat → Act → World → Prop) (n : Nat) {a : Act} (h0 : J n a w)
  (round : ∀ n a w, J n a w → c.wp P (Exit.then (fun a' w' => ∃ m, m < n ∧ J m a' w') Q) a w) : (Code.loop c).wp P Q a w := by
 intro b k cs;have key : ∀ (n : Nat) (a : Act) (w : World), J n a w → ∃ e a' w', Q e a' w' ∧ Arrives P (lone (b.at a (.code c :: .inLoop c :: k)) cs w) b k cs e a' w' := by
  intro n
  induction n using Nat.strongRecOn with
  | _ n ih =>
   intro a w hI;obtain ⟨e, a1, w1, hq, harr⟩ := round n a w hI b (.inLoop c :: k) cs;cases e with
   | normal =>
    obtain ⟨m, hlt, hI1⟩ := hq;obtain ⟨e2, a2, w2, hq2, harr2⟩ := ih m hlt a1 w1 hI1;exact ⟨e2, a2, w2, hq2, .of_steps (Steps.trans harr (.one step_inLoop)) harr2⟩
   | exit id => exact ⟨_, a1, w1, hq, .pass (x := .inLoop c) rfl (fun _ _ => .inl (by simp)) harr⟩
   | goto l => exact ⟨_, a1, w1, hq, .pass (x := .inLoop c) rfl (fun _ _ => .inl (by simp)) harr⟩
   | ret => exact ⟨_, a1, w1, hq, .pass (x := .inLoop c) rfl (fun _ _ => .inl (by simp)) harr⟩
   | panic ch => exact ⟨_, a1, w1, hq, .pass (x := .inLoop c) rfl (fun _ _ => .inl (by simp)) harr⟩
   | outgrown => exact ⟨_, a1, w1, hq, .pass (x := .inLoop c) rfl (fun _ _ => .inl (by simp)) harr⟩
 obtain ⟨e, a', w', hq, harr⟩ := key n a w h0;exact ⟨e, a', w', hq, .of_steps (.one step_loop) harr⟩
theorem Tri.loop {c : Code} {Q : Exit → St → Prop} {s : St} (Inv : Nat → St → Prop) (n : Nat) (h0 : Inv n s)
  (round : ∀ n s, Inv n s → Tri G c (zdq (fun s' => ∃ m, m < n ∧ Inv m s') Q) s) : Tri G (.loop c) Q s := by
 intro ρ I a w hc hr;refine zlt (fun n a' w' => ∃ (ρ' : Rho) (I' : Imm) (s' : St), Inv n s' ∧ Good ρ I s.H w ρ' I' s'.H w' ∧ Conc G.g ρ' I' s'.H w' ∧ RelT ρ' I' w' s'.t a') n
  ⟨ρ, I, s, h0, Good.refl _ _ _ _, hc, hr⟩ ?_
 rintro n a1 w1 ⟨ρ1, I1, s1, hI, hg, hC, hR⟩;refine wp_mono (round n s1 hI ρ1 I1 a1 w1 hC hR) ?_;rintro e a' w' ⟨ρ', I', s', k1, k2, k3, k4⟩;cases e with
 | normal =>
  obtain ⟨m, hm, hi⟩ := k4;exact ⟨m, hm, ρ', I', s', hi, hg.trans k1, k2, k3⟩
 | _ => exact ⟨ρ', I', s', hg.trans k1, k2, k3, k4⟩
end
end
noncomputable section
section
variable {P : Program} (G : Env P)
end
section
variable {P : Program} {G : Env P} {ρ : Rho} {I : Imm} {H : Heap} {w : World}
theorem zku {ρ : Rho} {b o : Nat} : ¬ Mut ρ ([] : Heap) b o := fun ⟨_, _, h, _⟩ => by simp at h
theorem ACall.mono {f : FuncId} {args : List AV} {R R' : AV → Heap → Prop} (h : ACall G f args H R) (hr : ∀ v H', R v H' → R' v H') : ACall G f args H R' := by
 intro ρ I w vs c r;refine Calls.mono (h ρ I w vs c r) ?_;rintro e w' ⟨x, rfl, ρ', I', v, H', g1, g2, g3, g4⟩;exact ⟨x, rfl, ρ', I', v, H', g1, g2, g3, hr _ _ g4⟩
end
end
noncomputable section
inductive Out where
 | ret (v : AV) (H : Heap)
 | alt (b : Bool) (x y : Out)
 deriving Inhabited
def Out.has : Out → AV → Heap → Prop
 | .ret v H, v', H' => v' = v ∧ H' = H
 | .alt b x y, v', H' => match b with
  | true => x.has v' H'
  | false => y.has v' H'
def z6h (n : Nat) : Ent → Bool
 | .blk c _ => z2s n c
 | .grow _ rows _ => z2s n rows
 | .res => false
 | _ => true
def z9x (σ : Nat → Nat) : Ent → Ent
 | .blk c f => .blk (z4m σ c) f
 | .grow k rows f => .grow k (z4m σ rows) f
 | e => e
def Out.okB : Out → Bool
 | .ret v H => z35 H.length v && H.all (z6h H.length)
 | .alt _ x y => x.okB && y.okB
mutual
def nvA : AV → Bool
 | .vec8 _ l => l.isEmpty
 | .vec _ _ rows => rows.isEmpty
 | .vecr _ _ n _ => n == 0
 | .slv _ _ n _ => n == 0
 | .vp _ _ => false
 | .vpx _ _ _ _ => false
 | .fn _ a b => nvL a && nvL b
 | .agg l => nvL l
 | .tup l => nvL l
 | _ => true
def nvL : List AV → Bool
 | [] => true
 | a :: as => nvA a && nvL as
end
def nvE : Ent → Bool
 | .blk c _ => nvL c
 | .grow _ rows _ => nvL rows
 | _ => true
def z5o (σ : Nat → Nat) (k : Nat) : Heap → List (Nat × Ent)
 | [] => []
 | e :: r => (k, z9x σ e) :: z5o σ (k + 1) r
def zm (H : Heap) : List (Nat × Ent) → Heap
 | [] => H
 | (i, e) :: r => zm (H.set i e) r
def shift (n : Nat) (i : Nat) : Nat := i + n
def z34 (H : Heap) (n : Nat) : Bool := match H[n]? with
 | some .res => true
 | _ => false
def z5a (H : Heap) (nid : Nat) : Heap → Bool
 | [] => true
 | _ :: r => z34 H nid && z5a H (nid + 1) r
theorem ze2 {H : Heap} {n : Nat} : z34 H n = true ↔ H[n]? = some .res := by
 unfold z34;constructor
 ·intro h; split at h
  ·assumption
  ·simp at h
 ·intro h; rw [h]
theorem zl2 {H : Heap} : ∀ {H0 : Heap} {nid : Nat}, z5a H nid H0 = true ↔ ∀ j, j < H0.length → H[nid + j]? = some .res
 | [], nid => by simp [z5a]
 | e :: r, nid => by
  simp only [z5a, Bool.and_eq_true, ze2, zl2 (H0 := r)];constructor
  ·rintro ⟨h1, h2⟩ j hj;cases j with
   | zero => simpa using h1
   | succ j => have := h2 j (by simpa using hj); rwa [show nid + 1 + j = nid + (j + 1) by omega] at this
  ·intro h;refine ⟨by simpa using h 0 (by simp), fun j hj => ?_⟩
   have := h (j + 1) (by simpa using hj)
   rwa [show nid + (j + 1) = nid + 1 + j by omega] at this
theorem z79 : ∀ (u : List (Nat × Ent)) (H : Heap), (zm H u).length = H.length
 | [], H => rfl
 | (i, e) :: r, H => by rw [zm, z79 r]; simp
theorem zji (σ : Nat → Nat) : ∀ (H0 H : Heap) (k i : Nat), k + H0.length ≤ H.length →
  (zm H (z5o σ k H0))[i]? = if k ≤ i ∧ i < k + H0.length then (H0[i - k]?).map (z9x σ) else H[i]?
 | [], H, k, i, _ => by
  have : ¬ (k ≤ i ∧ i < k + ([] : Heap).length) := by simp only [List.length_nil]; omega
  rw [if_neg this]; rfl
 | e :: r, H, k, i, hk => by
  simp only [List.length_cons] at hk;rw [z5o, zm, zji σ r _ (k + 1) i (by simp; omega)]
  by_cases h1 : i = k
  ·subst h1;rw [if_neg (by omega), if_pos (by simp)]
   simp [show i < H.length by omega]
  ·by_cases h2 : k + 1 ≤ i ∧ i < k + 1 + r.length
   ·rw [if_pos h2, if_pos (by simp; omega)]
    rw [show i - k = (i - (k + 1)) + 1 by omega]
    simp
   ·rw [if_neg h2, if_neg (by simp; omega), List.getElem?_set_ne (by omega)]
section nv
variable {ρ : Rho} {I I' : Imm} {w : World}
mutual
theorem R_nv : ∀ (a : AV) (xs : List Value), nvA a = true → R ρ I w a xs → R ρ I' w a xs
 | .any, _, _, h => h
 | .raw _, _, _, h => h
 | .int _ _, _, _, h => h
 | .u8 _, _, _, h => h
 | .u32 _, _, _, h => h
 | .u64 _, _, _, h => h
 | .bool _, _, _, h => h
 | .str _, _, _, h => h
 | .b8 _ _, _, _, h => h
 | .w32 _ _, _, _, h => h
 | .w64 _ _, _, _, h => h
 | .n64 _ _, _, _, h => h
 | .ptr _ _, _, _, h => h
 | .pix _ _ _ _, _, _, h => h
 | .sl _ _ _ _, _, _, h => h
 | .vec8 _ l, _, hn, ⟨v, h0, a, cap, h1, h2, h3, h4⟩ => by
  simp only [nvA, List.isEmpty_iff] at hn;subst hn;exact ⟨v, h0, a, cap, h1, h2, h3, .inl rfl⟩
 | .vec _ _ rows, _, hn, ⟨v, h0, h1, vs, h2, a, cap, k1, k2, k3, k4⟩ => by
  simp only [nvA, List.isEmpty_iff] at hn;subst hn;cases h2;exact ⟨v, h0, h1, [], rfl, a, cap, k1, k2, k3, .inl rfl⟩
 | .vecr _ _ n f, _, hn, ⟨v, h0, h1, vs, hl, h2, a, cap, k1, k2, k3, k4⟩ => by
  have hn : n = 0 := by simpa [nvA] using hn
  subst hn;exact ⟨v, h0, h1, vs, hl, fun i hi => absurd hi (Nat.not_lt_zero _), a, cap, k1, k2, k3, .inl rfl⟩
 | .slv _ _ n f, _, hn, ⟨v, h0, h1, ⟨vs, hl, h2, a, cap, k1, k2, k3, k4⟩, h5⟩ => by
  have hn : n = 0 := by simpa [nvA] using hn
  subst hn;exact ⟨v, h0, h1, ⟨vs, hl, fun i hi => absurd hi (Nat.not_lt_zero _), a, cap, k1, k2, k3, .inl rfl⟩, h5⟩
 | .vp _ _, _, hn, _ => by simp [nvA] at hn
 | .vpx _ _ _ _, _, hn, _ => by simp [nvA] at hn
 | .fn _ first caps, _, hn, ⟨v, h0, x, y, h1, h2, h3⟩ => by
  simp only [nvA, Bool.and_eq_true] at hn;exact ⟨v, h0, x, y, h1, zsq first _ hn.1 h2, zsq caps _ hn.2 h3⟩
 | .agg l, _, hn, h => z12w l _ (by simpa [nvA] using hn) h
 | .tup l, _, hn, ⟨v, h0, cs, h1, h2⟩ => ⟨v, h0, cs, h1, zsq l _ (by simpa [nvA] using hn) h2⟩
theorem z12w : ∀ (l : List AV) (xs : List Value), nvL l = true → RL ρ I w l xs → RL ρ I' w l xs
 | [], _, _, h => h
 | a :: as, _, hn, ⟨ys, zs, h0, h1, h2⟩ => by
  simp only [nvL, Bool.and_eq_true] at hn;exact ⟨ys, zs, h0, R_nv a ys hn.1 h1, z12w as zs hn.2 h2⟩
theorem zsq : ∀ (l : List AV) (vs : List Value), nvL l = true → RV ρ I w l vs → RV ρ I' w l vs
 | [], _, _, h => h
 | a :: as, _, hn, ⟨x, xs, h0, h1, h2⟩ => by
  simp only [nvL, Bool.and_eq_true] at hn;exact ⟨x, xs, h0, h1.imp fun ys => R_nv a ys hn.1, zsq as xs hn.2 h2⟩
end
end nv
section
variable {P : Program} (G : Env P)
structure HCall (f : FuncId) (args : List AV) (out : Out) : Prop where
 pa : zw args = true
 po : out.okB = true
 call : ACall G f args [] out.has
end
theorem Out.z1m1 : ∀ {out : Out} {v : AV} {H : Heap}, out.okB = true → out.has v H → z35 H.length v = true ∧ ∀ e ∈ H, z6h H.length e = true
 | .ret v H, v', H', ho, ⟨h1, h2⟩ => by
  subst h1; subst h2
  simpa [Out.okB] using ho
 | .alt b x y, v', H', ho, h => by
  simp only [Out.okB, Bool.and_eq_true] at ho;cases b
  ·exact Out.z1m1 ho.2 h
  ·exact Out.z1m1 ho.1 h
section
variable {P : Program} {G : Env P} {ρ : Rho} {I : Imm} {H : Heap} {w : World}
theorem z108 {n : Nat} {e : Ent} (h : z6h n e = true) : e ≠ .res := by rintro rfl; simp [z6h] at h
theorem z8w (σ : Nat → Nat) (e : Ent) : (z9x σ e).live = e.live := by cases e <;> rfl
theorem z187 (σ : Nat → Nat) (e : Ent) : (z9x σ e).frz = e.frz := by cases e <;> rfl
theorem z10g (σ : Nat → Nat) (e : Ent) : (z9x σ e).grows = e.grows := by cases e <;> rfl
theorem z12h (σ : Nat → Nat) (e : Ent) : (z9x σ e).cells = z4m σ e.cells := by cases e <;> simp [z9x, Ent.cells, z4m, z4x]
theorem z15c (σ : Nat → Nat) (e : Ent) (h : e.even) : (z9x σ e).even := by
 cases e <;> simp only [z9x, Ent.even] <;> first | trivial | exact (ziw σ).2 h
theorem HCall.frame {f : FuncId} {args : List AV} {out : Out} (h : HCall G f args out) (c : Conc G.g ρ I H w) {I1 : Imm} (hI : ∀ b o, I b o → I1 b o) (hI2 : ∀ b o, I1 b o → b < w.heap.size)
  (hsame : (∀ b o, I1 b o → I b o) ∨ (∀ v H0, out.has v H0 → nvA v = true ∧ H0.all nvE = true)) (nid : Nat) (hslot : ∀ v H0, out.has v H0 → z5a H nid H0 = true)
  {vs : List Value} (r : RV ρ I1 w args vs) :
  Calls P f vs.toArray w fun e w' => ∃ x, e = .returned x ∧ ∃ (v : AV) (H0 : Heap) (ρ' : Rho) (I' : Imm), out.has v H0 ∧
   Good ρ I H w ρ' I' (zm H (z5o (shift nid) nid H0)) w' ∧ Conc G.g ρ' I' (zm H (z5o (shift nid) nid H0)) w' ∧ Mono ρ I w ρ' I' w' ∧ rel ρ' I' w' (z4x (shift nid) v) x := by
 obtain ⟨hp, hv, hc⟩ := h;have m1 : Mono (fun _ => none) I w (fun _ => none) I1 w := ⟨fun _ _ h => h, fun b o h => ⟨hI b o h, rfl⟩, fun b h => ⟨h, rfl⟩⟩
 have c1 : Conc G.g (fun _ => none) I1 [] w := 
  ⟨fun _ h => absurd rfl h, fun _ h => by simp at h, fun _ _ h => by simp at h, fun _ _ _ _ _ h => by simp at h, fun _ _ _ h => by simp at h, fun _ _ h => by simp at h,
   fun b o hb => ⟨hI2 b o hb, zku⟩, fun n cs h => by
    obtain ⟨us, k1, k2⟩ := c.glob n cs h;exact ⟨us, z4q m1 k1, k2.mono m1.imm⟩⟩
 refine (hc (fun _ => none) I1 w vs c1 (zza hp r)).mono ?_
 rintro e w' ⟨x, rfl, ρ0, I0, v, H0, g, c', hr, hout⟩;have hok := Out.z1m1 hv hout;have hsl := zl2.1 (hslot v H0 hout)
 let ρ' : Rho := fun id => if nid ≤ id ∧ id < nid + H0.length then ρ0 (id - nid) else ρ id
 let I' : Imm := fun b o => I0 b o ∧ (b < w.heap.size → I b o)
 have hlt : H0.length = 0 ∨ nid + H0.length ≤ H.length := by
  rcases Nat.eq_zero_or_pos H0.length with h | h
  ·exact .inl h
  ·right
   have := (List.getElem?_eq_some_iff.1 (hsl (H0.length - 1) (by omega))).1
   omega
 have hget : ∀ i, (zm H (z5o (shift nid) nid H0))[i]? = if nid ≤ i ∧ i < nid + H0.length then (H0[i - nid]?).map (z9x (shift nid)) else H[i]? := by
  intro i;rcases hlt with h | h
  ·have : H0 = [] := List.eq_nil_of_length_eq_zero h;subst this;have : ¬ (nid ≤ i ∧ i < nid + ([] : Heap).length) := by simp only [List.length_nil]; omega
   rw [if_neg this]; rfl
  ·exact zji _ H0 H nid i h
 have hρold : ∀ id y, ρ id = some y → ρ' id = some y := by
  intro id y hy
  by_cases hb : nid ≤ id ∧ id < nid + H0.length
  ·have := c.res id (by have := hsl (id - nid) (by omega); rwa [show nid + (id - nid) = id by omega] at this)
   rw [this] at hy; simp at hy
  ·show (if _ then _ else _) = _
   rw [if_neg hb]; exact hy
 have hρnew : ∀ j, j < H0.length → ρ' (nid + j) = ρ0 j := by
  intro j hj;show (if _ then _ else _) = _
  rw [if_pos ⟨by omega, by omega⟩, Nat.add_sub_cancel_left]
 have hold : ∀ b, b < w.heap.size → w'.heap[b]? = w.heap[b]? := fun b hb => g.block b hb (fun _ => zku)
 have cellold : ∀ b o, b < w.heap.size → w'.cell? ⟨b, o, none⟩ = w.cell? ⟨b, o, none⟩ := fun b o hb => g.cell b o hb zku
 have split : ∀ i e1, (zm H (z5o (shift nid) nid H0))[i]? = some e1 → (∃ j e0, i = nid + j ∧ j < H0.length ∧ H0[j]? = some e0 ∧ e1 = z9x (shift nid) e0) ∨ (H[i]? = some e1 ∧ ¬ (nid ≤ i ∧ i < nid + H0.length)) := by
  intro i e1 h1;rw [hget i] at h1
  by_cases hb : nid ≤ i ∧ i < nid + H0.length
  ·rw [if_pos hb] at h1
   left
   have hj : i - nid < H0.length := by omega
   refine ⟨i - nid, H0[i - nid], by omega, hj, by simp [hj], ?_⟩
   simp [hj] at h1;exact h1.symm
  ·rw [if_neg hb] at h1;exact .inr ⟨h1, hb⟩
 have ρo : ∀ i, ¬ (nid ≤ i ∧ i < nid + H0.length) → ρ' i = ρ i := fun i hb => by show (if _ then _ else _) = _; rw [if_neg hb]
 have newb : ∀ (j : Nat) (e0 : Ent) (b : Nat), H0[j]? = some e0 → e0.live = true → ρ0 j = some (some b) → w.heap.size ≤ b := by
  intro j e0 b h1 h2 h3;refine Nat.le_of_not_lt fun hb => ?_
  obtain ⟨id, e, q, _⟩ := g.own b hb ⟨j, e0, h1, h2, h3⟩;simp at q
 have gd : Good ρ I H w ρ' I' (zm H (z5o (shift nid) nid H0)) w' := by
  refine ⟨fun id y h => hρold id y h, ?_, by rw [z79]; exact Nat.le_refl _, ?_, ?_, g.os, g.tape, g.out, g.size, fun b o hb _ => cellold b o hb, fun b hb _ => hold b hb, g.bs, ?_, ?_⟩
  ·rintro id y hy ⟨e1, k1, k2⟩;rcases split id e1 k1 with ⟨j, e0, rfl, hj, _, _⟩ | ⟨k, _⟩
   ·have := c.res (nid + j) (hsl j hj);rw [this] at hy; simp at hy
   ·exact ⟨e1, k, k2⟩
  ·exact fun b o hb => ⟨g.imm b o (hI b o hb), fun _ => hb⟩
  ·exact fun b o hb h => .inl (h.2 hb)
  ·rintro b o hb ⟨i, e1, h1, h2, h3, h4⟩;rcases split i e1 h1 with ⟨j, e0, rfl, hj, k1, rfl⟩ | ⟨k, k'⟩
   ·rw [hρnew j hj] at h3;rw [z8w] at h2;have := newb j e0 b k1 h2 h3;omega
   ·rw [ρo i k'] at h3;exact ⟨i, e1, k, h2, h3, h4⟩
  ·rintro b hb ⟨i, e1, h1, h2, h3⟩;rcases split i e1 h1 with ⟨j, e0, rfl, hj, k1, rfl⟩ | ⟨k, k'⟩
   ·rw [hρnew j hj] at h3;rw [z8w] at h2;have := newb j e0 b k1 h2 h3;omega
   ·rw [ρo i k'] at h3;exact ⟨i, e1, k, h2, h3⟩
 have m : Mono ρ I w ρ' I' w' := c.mono gd hρold;have hR : ∀ (a : AV) (xs : List Value), z35 H0.length a = true → ((∀ b o, I1 b o → I b o) ∨ nvA a = true) → R ρ0 I0 w' a xs → R ρ' I' w' (z4x (shift nid) a) xs := by
  intro a xs href hnv hr0;have h1 : R ρ0 I' w' a xs := by
   rcases hnv with hs | hs
   ·refine zdk ⟨fun _ _ h => h, fun b o hb => ⟨⟨hb, fun hlt => ?_⟩, rfl⟩, fun b h => ⟨h, rfl⟩⟩ a xs hr0
    exact hs b o ((g.imm' b o hlt hb).resolve_right zku)
   ·exact R_nv a xs hs hr0
  refine (zsu a xs).1 (z2y (n := H0.length) (fun j hj => ?_) a xs href h1)
  show ρ' (j + nid) = ρ0 j;rw [Nat.add_comm]; exact hρnew j hj
 have hRL : ∀ (l : List AV) (xs : List Value), z2s H0.length l = true → ((∀ b o, I1 b o → I b o) ∨ nvL l = true) → RL ρ0 I0 w' l xs → RL ρ' I' w' (z4m (shift nid) l) xs := by
  intro a xs href hnv hr0;have h1 : RL ρ0 I' w' a xs := by
   rcases hnv with hs | hs
   ·refine z15 ⟨fun _ _ h => h, fun b o hb => ⟨⟨hb, fun hlt => ?_⟩, rfl⟩, fun b h => ⟨h, rfl⟩⟩ a xs hr0
    exact hs b o ((g.imm' b o hlt hb).resolve_right zku)
   ·exact z12w a xs hs hr0
  refine (zft a xs).1 (z3k (n := H0.length) (fun j hj => ?_) a xs href h1)
  show ρ' (j + nid) = ρ0 j;rw [Nat.add_comm]; exact hρnew j hj
 have hnvE : ∀ (j : Nat) (e0 : Ent), H0[j]? = some e0 → ((∀ b o, I1 b o → I b o) ∨ nvE e0 = true) := by
  intro j e0 h0;rcases hsame with h | h
  ·exact .inl h
  ·have := (h v H0 hout).2;rw [List.all_eq_true] at this;exact .inr (this e0 (List.mem_of_getElem? h0))
 have hrE : ∀ (j : Nat) (e0 : Ent), H0[j]? = some e0 → z6h H0.length e0 = true := fun j e0 h0 => hok.2 e0 (List.mem_of_getElem? h0)
 refine ⟨x, rfl, v, H0, ρ', I', hout, gd, ⟨?_, ?_, ?_, ?_, ?_, ?_, ?_, ?_⟩, m, ?_⟩
 ·intro id hne;rw [z79]
  by_cases hb : nid ≤ id ∧ id < nid + H0.length
  ·rcases hlt with h | h <;> omega
  ·rw [ρo id hb] at hne; exact c.dom id hne
 ·intro id h1;rcases split id _ h1 with ⟨j, e0, rfl, hj, k1, k2⟩ | ⟨k, k'⟩
  ·have := z108 (hrE j e0 k1);cases e0 <;> simp [z9x] at k2 this
  ·rw [ρo id k']; exact c.res id k
 ·intro id b hb
  by_cases hbd : nid ≤ id ∧ id < nid + H0.length
  ·have : ρ' id = ρ0 (id - nid) := by show (if _ then _ else _) = _; rw [if_pos hbd]
   rw [this] at hb;exact c'.blt _ b hb
  ·rw [ρo id hbd] at hb;exact Nat.lt_of_lt_of_le (c.blt id b hb) g.size
 ·intro i j b e1 e2 hi l1 hj l2 hbi hbj;rcases split i e1 hi with ⟨ji, ei, rfl, hji, ki, rfl⟩ | ⟨ki, ki'⟩ <;> rcases split j e2 hj with ⟨jj, ej, rfl, hjj, kj, rfl⟩ | ⟨kj, kj'⟩
  ·rw [hρnew ji hji] at hbi;rw [hρnew jj hjj] at hbj;rw [z8w] at l1 l2;rw [c'.inj ji jj b ei ej ki l1 kj l2 hbi hbj]
  ·rw [hρnew ji hji] at hbi;rw [ρo j kj'] at hbj;rw [z8w] at l1;have := newb ji ei b ki l1 hbi;have := c.blt j b hbj;omega
  ·rw [hρnew jj hjj] at hbj;rw [ρo i ki'] at hbi;rw [z8w] at l2;have := newb jj ej b kj l2 hbj;have := c.blt i b hbi;omega
  ·rw [ρo i ki'] at hbi;rw [ρo j kj'] at hbj;exact c.inj i j b e1 e2 ki l1 kj l2 hbi hbj
 ·intro id cs f h1;rcases split id _ h1 with ⟨j, e0, rfl, hj, k1, k2⟩ | ⟨k, k'⟩
  ·cases e0 with
   | blk c0 f0 =>
    simp only [z9x, Ent.blk.injEq] at k2;obtain ⟨rfl, rfl⟩ := k2;obtain ⟨b, el, fr, us, q1, q2, q3, q4⟩ := c'.blk j c0 f k1;exact ⟨b, el, fr, us, by rw [hρnew j hj]; exact q1, q2, hRL c0 us (hrE j _ k1) ((hnvE j _ k1).imp id (fun h => h)) q3, q4⟩
   | _ => simp [z9x] at k2
  ·obtain ⟨b, el, fr, us, q1, q2, q3, q4⟩ := c.blk id cs f k;exact ⟨b, el, fr, us, by rw [ρo id k']; exact q1, by rw [hold b (c.blt id b q1)]; exact q2, z15 m _ _ q3, q4⟩
 ·intro id e1 h1 hg;rcases split id _ h1 with ⟨j, e0, rfl, hj, k1, rfl⟩ | ⟨k, k'⟩
  ·rw [z10g] at hg;obtain ⟨q, h⟩ := c'.grow j e0 k1 hg;refine ⟨z15c _ _ q, ?_⟩;rw [z12h];rcases h with ⟨h2, h3⟩ | ⟨b, el, fr, us, rest, q1, q2, q3, q4⟩
   ·exact .inl ⟨by rw [hρnew j hj]; exact h2, by rw [zop]; exact h3⟩
   ·refine .inr ⟨b, el, fr, us, rest, by rw [hρnew j hj]; exact q1, q2, hRL e0.cells us ?_ ?_ q3, q4⟩
    ·have := hrE j _ k1;cases e0 <;> simp_all [z6h, Ent.cells, Ent.grows, z2s, z35]
    ·refine (hnvE j _ k1).imp id fun h => ?_
     cases e0 <;> simp_all [nvE, Ent.cells, Ent.grows, nvL, nvA]
  ·obtain ⟨q, h⟩ := c.grow id e1 k hg;refine ⟨q, ?_⟩;rcases h with h | ⟨b, el, fr, us, rest, q1, q2, q3, q4⟩
   ·exact .inl ⟨by rw [ρo id k']; exact h.1, h.2⟩
   ·exact .inr ⟨b, el, fr, us, rest, by rw [ρo id k']; exact q1, by rw [hold b (c.blt id b q1)]; exact q2, z15 m _ _ q3, q4⟩
 ·rintro b o ⟨hb1, hb2⟩;obtain ⟨h1, h2⟩ := c'.imm b o hb1;refine ⟨h1, fun hm => ?_⟩
  obtain ⟨i, e1, q1, q2, q3, q4⟩ := hm;rcases split i e1 q1 with ⟨j, e0, rfl, hj, k1, rfl⟩ | ⟨k, k'⟩
  ·rw [hρnew j hj] at q3;rw [z8w] at q2;rw [z187] at q4;exact h2 ⟨j, e0, k1, q2, q3, q4⟩
  ·rw [ρo i k'] at q3;have hb := c.blt i b q3;exact (c.imm b o (hb2 hb)).2 ⟨i, e1, k, q2, q3, q4⟩
 ·intro n cs hn;obtain ⟨us, k1, k2⟩ := c.glob n cs hn;exact ⟨us, z4q m k1, k2.mono m.imm⟩
 ·refine valOf.imp (a := z4x (shift nid) v) (fun ys hy => hy) ?_
  have hr' : valOf v x (fun xs => R ρ' I' w' (z4x (shift nid) v) xs) := valOf.imp (fun ys hy => hR v ys hok.1 (hsame.imp id fun h => (h v H0 hout).1) hy) hr
  exact (zjj (σ := shift nid) (Ra' := R ρ' I' w' (z4x (shift nid) v)) fun xs => Iff.rfl).1 hr'
end
end
end Go.V